/-
  Part of the proof that MinimizeApplies returns true. Conditions: none.
-/
import Derived.Test.YtdfadihhfppjaaaGreatDoorBDS
import Derived.Laws.StructEq
import Derived.Test.YtdfadihhfppjaaaGreatDoorBDN
namespace Go.Proofs.YtdfadihhfppjaaaGreatDoor
set_option maxRecDepth 100000
set_option maxHeartbeats 8000000
open Go.Proofs.Tryz
open List (append_assoc drop_zero length_map map_set mem_append_left mem_cons mem_cons_of_mem not_mem_nil take_length)
section
open Go.RowKit
theorem fO {s k o:Nat} (h:c9 prog s k o:=by exact λb off w=>by kernel_rfl):c9 prog s k o:=h
theorem eO {s k o:Nat} (h:dx prog s k o:=by exact⟨by kernel_rfl,λw=>by kernel_rfl⟩):dx prog s k o:=h
theorem nO {s:Nat} (h:eq prog s:=by exact λw=>by kernel_rfl):eq prog s:=h
theorem aO {s k:Nat} (h:fR prog s k:=by exact⟨λw=>by kernel_rfl,λw=>by kernel_rfl⟩):fR prog s k:=h
theorem zO {s k:Nat} (h:dS prog s k:=by exact λw=>by kernel_rfl):dS prog s k:=h
theorem cP:prog.follows .mixedOrders=true:=by kernel_rfl
theorem S8:(prog.fieldsOf 162).toList=[{ name:= "A",type:=9,offset:=0,embedded:=false,tag:= "",pkgPath:= "",byteOffset:=0 }, { name:= "B",type:=9,offset:=1,embedded:=false,tag:= "",pkgPath:= "",byteOffset:=16 }]:=by kernel_rfl
theorem S9:prog.underlying 162=some (.struct (prog.fieldsOf 162)):=by kernel_rfl
theorem IR:prog.underlying 9=some .string:=by kernel_rfl
theorem Uq (c:Array Value) (i:Nat) (v:Value) (h:c[i]?=some v) (w:World):(part 9 c i).run prog w= .ok v w:=by
 simp[part,isAgg9,h]
theorem rf:yf prog 162:=by
 intro a b c d w x y
 refine⟨by simp[eqGuard],by simp[eqGuard],?_⟩
 unfold Op.equal Op.maxDepth
 rw[run_equalIn_struct w 9999 162 _ _ S9 (by kernel_rfl),S8]
 have e1:=λ(c:Array Value) (v:Value) (i:Nat) (h:c[i]?=some v)=>Uq c i v h
 have q1:=run_equalIn_string (P:=prog) w 9998 9 a c IR
 have q2:=run_equalIn_string (P:=prog) w 9998 9 b d IR
 rw[ra]at q1 q2
 simp only[Op.eqFields]
 rw[if_pos dz,if_pos dz]
 simp only[Sem.run_bind]
 rw[e1 _ (.string a) 0 rfl w,Result.andThen_ok,e1 _ (.string c) 0 rfl w,Result.andThen_ok,q1,Result.andThen_ok]
 by_cases h1:a=c
 · simp only[h1,decide_true,Bool.not_true,Bool.false_eq_true,if_false,Sem.run_bind]
   rw[e1 _ (.string b) 1 rfl w,Result.andThen_ok,e1 _ (.string d) 1 rfl w,Result.andThen_ok,q2,Result.andThen_ok]
   by_cases h2:b=d
   · simp[h2,Sem.run_pure]
   · simp[h2,Sem.run_pure]
 · simp[h1,Sem.run_pure]
theorem b6:prog.underlying 22=some (.slice 9):=by kernel_rfl
theorem bx:dx prog 22 9 1:=eO
theorem fd:eq prog 9:=nO
theorem fH:prog.underlying 70=some (.slice 162):=by kernel_rfl
theorem de:dx prog 70 162 2:=eO
theorem ju:fR prog 162 2:=aO
theorem kI:prog.underlying 9=some .string:=by kernel_rfl
theorem ti:c9 prog 72 2 2:=fO
theorem rW:eq prog 69:=nO
theorem Nm:c9 prog 72 5 5:=fO
theorem nl:jq prog 69 119 3 48:=ov (.agg #[.string ⟨#[]⟩,.bool false,.slice none 0 0]) (by kernel_rfl) (by kernel_rfl) rfl dz (λw=>by kernel_rfl)
theorem wZ:eq prog 4:=nO
theorem lO:c9 prog 119 2 2:=fO
theorem ia:eq prog 22:=nO
theorem vR:c9 prog 119 0 0:=fO
theorem IV:prog.underlying 4=some .bool:=by kernel_rfl
theorem zp:c9 prog 25 1 1:=fO
theorem uU:fR prog 25 3:=aO
theorem te:c9 prog 162 0 0:=fO
theorem tf:c9 prog 162 1 1:=fO
theorem Cd:j4 prog 162:=⟨.agg #[.string ⟨#[]⟩,.string ⟨#[]⟩],λw=>by kernel_rfl⟩
theorem u4:jq prog 70 162 2 32:=ov (.agg #[.string ⟨#[]⟩,.string ⟨#[]⟩]) (by kernel_rfl) (by kernel_rfl) rfl dz (λw=>by kernel_rfl)
theorem sn:prog.underlying 62=some (.slice 22):=by kernel_rfl
theorem eC:dx prog 62 22 1:=eO
theorem j0:j4 prog 9:=⟨.string ⟨#[]⟩,λw=>by kernel_rfl⟩
theorem j6:jq prog 22 9 1 16:=ov (.string ⟨#[]⟩) (by kernel_rfl) (by kernel_rfl) rfl dz (λw=>by kernel_rfl)
theorem cT:prog.underlying 69=some (.slice 119):=by kernel_rfl
theorem cD:dx prog 69 119 3:=eO
theorem qO:j4 prog 22:=⟨.slice none 0 0,λw=>by kernel_rfl⟩
theorem sD:jq prog 62 22 1 24:=ov (.slice none 0 0) (by kernel_rfl) (by kernel_rfl) rfl dz (λw=>by kernel_rfl)
theorem pR:c9 prog 25 2 2:=fO
theorem qk:eq prog 23:=nO
theorem fK:dx prog 23 72 8:=eO
theorem pu:fR prog 72 8:=aO
theorem Eg:c9 prog 72 0 0:=fO
theorem nk:fR prog 119 3:=aO
theorem Nl:c9 prog 72 4 4:=fO
theorem zu:c9 prog 72 6 6:=fO
theorem rX:eq prog 70:=nO
theorem xX:nj prog 162 2:=⟨(#[.string ⟨#[]⟩,.string ⟨#[]⟩]),rfl,by kernel_rfl⟩
theorem zt:c9 prog 72 3 3:=fO
theorem xY:nj prog 72 8:=⟨(#[.string ⟨#[]⟩,.bool false,.slice none 0 0,.slice none 0 0,.slice none 0 0,.slice none 0 0,.slice none 0 0,.slice none 0 0]),rfl,by kernel_rfl⟩
theorem Nk:c9 prog 72 1 1:=fO
theorem m8:prog.underlying 23=some (.slice 72):=by kernel_rfl
theorem Gr:eq prog 215:=nO
theorem iD:j1 prog 215 9 4 aB.kind:=⟨by kernel_rfl,by kernel_rfl⟩
theorem jJ:oq prog 4 (.bool false):=⟨(.bool false),λw=>by kernel_rfl,λS w=>Rel.aG _⟩
theorem M8:c9 prog 219 1 1:=fO
theorem ud:eq prog 213:=nO
theorem eW:prog.underlying 29=some (.slice 3):=by kernel_rfl
theorem dc:dx prog 29 3 1:=eO
theorem fY:eq prog 3:=nO
theorem su:nj prog 119 3:=⟨(#[.string ⟨#[]⟩,.bool false,.slice none 0 0]),rfl,by kernel_rfl⟩
theorem jn:dS prog 119 3:=zO
theorem WM:mi prog 119 3:=⟨(.agg #[.string ⟨#[]⟩,.bool false,.slice none 0 0]),λw=>by kernel_rfl,rfl,by simp[Value.cells,Value.oneCell']⟩
theorem jZ:dS prog 162 2:=zO
theorem Jf:mi prog 162 2:=⟨(.agg #[.string ⟨#[]⟩,.string ⟨#[]⟩]),λw=>by kernel_rfl,rfl,by simp[Value.cells,Value.oneCell']⟩
theorem kK:f8 prog 119 [.lit (.string ⟨#[]⟩),.lit (.bool false),.sl []]:=⟨(.agg #[.string ⟨#[]⟩,.bool false,.slice none 0 0]),λw=>by kernel_rfl,λS w=>(show bD S w [.lit (.string ⟨#[]⟩),.lit (.bool false),.sl []] [.string ⟨#[]⟩,.bool false,.slice none 0 0]from⟨.lit _ aI,.lit _ True.intro,.nil _ _ aI,trivial⟩)⟩
theorem UJ:dS prog 22 1:=zO
theorem I5:f8 prog 304 ((List.replicate 256 (0:UInt8)).map f5):=Wl (.agg (Array.replicate 256 (.int .u8 0))) (λw=>by kernel_rfl) (by simp[Value.cells])
theorem xS:prog.underlying 3=some (.int .i64):=by kernel_rfl
theorem VQ:prog.underlying 5=some (.int .u8):=by kernel_rfl
theorem sE:Cg prog 304 5 256:=⟨by kernel_rfl,λw=>by kernel_rfl,by decide⟩
theorem xu:dS prog 5 1:=zO
theorem Cx:fR prog 304 256:=aO
theorem Ie:dS prog 304 256:=zO
theorem VU:prog.underlying 186=some (.slice 5):=by kernel_rfl
theorem zb:dx prog 186 5 1:=eO
theorem Re:eq prog 5:=nO
theorem WS:j4 prog 5:=⟨.int .u8 0,λw=>by kernel_rfl⟩
theorem WN:mi prog 5 1:=⟨(.int .u8 0),λw=>by kernel_rfl,rfl,by simp[Value.cells,Value.oneCell']⟩
theorem IU:prog.underlying 322=some (.array 10 321):=by kernel_rfl
theorem xr:dS prog 321 4:=zO
theorem Cy:fR prog 321 4:=aO
theorem I6:f8 prog 321 [.lit (.string ⟨#[]⟩),.lit (.bool false),.lit (.int .i64 0),.lit (.int .i64 0)]:=⟨(.agg #[.string ⟨#[]⟩,.bool false,.int .i64 0,.int .i64 0]),λw=>by kernel_rfl,λS w=>(show bD S w [.lit (.string ⟨#[]⟩),.lit (.bool false),.lit (.int .i64 0),.lit (.int .i64 0)] [.string ⟨#[]⟩,.bool false,.int .i64 0,.int .i64 0]from⟨.lit _ aI,.lit _ True.intro,.lit _ True.intro,.lit _ True.intro,trivial⟩)⟩
theorem Nb:c9 prog 287 2 2:=fO
theorem Nc:c9 prog 287 3 3:=fO
theorem B5:prog.underlying 288=some (.slice 287):=by kernel_rfl
theorem zc:dx prog 288 287 4:=eO
theorem Nh:c9 prog 321 0 0:=fO
theorem Wn:nj prog 287 4:=⟨(#[.int .i64 0,.string ⟨#[]⟩,.slice none 0 0,.slice none 0 0]),rfl,by kernel_rfl⟩
theorem WQ:j4 prog 287:=⟨.agg #[.int .i64 0,.string ⟨#[]⟩,.slice none 0 0,.slice none 0 0],λw=>by kernel_rfl⟩
theorem M9:c9 prog 219 2 2:=fO
theorem Ed:c9 prog 244 1 1:=fO
theorem A5:eq prog 217:=nO
theorem wP:j1 prog 217 9 9 aB.kind:=⟨by kernel_rfl,by kernel_rfl⟩
theorem Je:oq prog 9 (.str default):=⟨(.string ⟨#[]⟩),λw=>by kernel_rfl,λS w=>(show Rel S w (.str ⟨#[]⟩) _ from Rel.aG _ aI)⟩
theorem Na:c9 prog 219 4 4:=fO
theorem th:c9 prog 219 3 3:=fO
theorem ue:eq prog 216:=nO
theorem tU:j1 prog 216 9 119 aB.kind:=⟨by kernel_rfl,by kernel_rfl⟩
theorem yc:oq prog 119 (.agg (aN default)):=⟨(.agg #[.string ⟨#[]⟩,.bool false,.slice none 0 0]),λw=>by kernel_rfl,λS w=>(show Rel S w (.agg [.lit (.string ⟨#[]⟩),.lit (.bool false),.sl []]) _ from(by simp only[Rel];exact⟨[.string ⟨#[]⟩,.bool false,.slice none 0 0],rfl,.lit _ aI,.lit _ True.intro,.nil _ _ aI,trivial⟩))⟩
theorem VS:prog.underlying 215=some (.map 9 4):=by kernel_rfl
theorem na:f8 prog 162 [.lit (.string ⟨#[]⟩),.lit (.string ⟨#[]⟩)]:=⟨(.agg #[.string ⟨#[]⟩,.string ⟨#[]⟩]),λw=>by kernel_rfl,λS w=>(show bD S w [.lit (.string ⟨#[]⟩),.lit (.string ⟨#[]⟩)] [.string ⟨#[]⟩,.string ⟨#[]⟩]from⟨.lit _ aI,.lit _ aI,trivial⟩)⟩
theorem IY:prog.underlying 281=some (.slice 69):=by kernel_rfl
theorem vK:dx prog 281 69 1:=eO
theorem VT:prog.underlying 217=some (.map 9 9):=by kernel_rfl
theorem Wd:f8 prog 244 [.lit (.map none),.lit (.map none)]:=⟨(.agg #[.map none,.map none]),λw=>by kernel_rfl,λS w=>(show bD S w [.lit (.map none),.lit (.map none)] [.map none,.map none]from⟨.lit _ True.intro,.lit _ True.intro,trivial⟩)⟩
theorem UK:dS prog 244 2:=zO
theorem Jh:mi prog 69 1:=⟨(.slice none 0 0),λw=>by kernel_rfl,rfl,by simp[Value.cells,Value.oneCell']⟩
theorem IX:prog.underlying 165=some (.slice 182):=by kernel_rfl
theorem pO:dx prog 165 182 2:=eO
theorem Wm:nj prog 182 2:=⟨(#[.string ⟨#[]⟩,.slice none 0 0]),rfl,by kernel_rfl⟩
theorem Ec:c9 prog 182 0 0:=fO
theorem AH:j1 prog 208 9 22 aB.kind:=⟨by kernel_rfl,by kernel_rfl⟩
theorem yd:oq prog 22 (.rd (ai default)):=⟨(.slice none 0 0),λw=>by kernel_rfl,λS w=>(show Rel S w (.rd (.sl [])) _ from(by simp only[Rel];exact .nil _ _ aI))⟩
theorem wO:j1 prog 214 9 4 aB.kind:=⟨by kernel_rfl,by kernel_rfl⟩
theorem Ih:dS prog 9 1:=zO
theorem Jg:mi prog 3 1:=⟨(.int .i64 0),λw=>by kernel_rfl,rfl,by simp[Value.cells,Value.oneCell']⟩
theorem IW:prog.underlying 230=some (.int .u64):=by kernel_rfl
theorem Wj:f8 prog 4 [.lit (.bool false)]:=⟨(.bool false),λw=>by kernel_rfl,λS w=>(show bD S w [.lit (.bool false)] [.bool false]from⟨.lit _ True.intro,trivial⟩)⟩
theorem Wk:f8 prog 70 [.sl []]:=⟨(.slice none 0 0),λw=>by kernel_rfl,λS w=>(show bD S w [.sl []] [.slice none 0 0]from⟨.nil _ _ aI,trivial⟩)⟩
theorem UO:dS prog 70 1:=zO
theorem qB:dS prog 4 1:=zO
theorem VP:prog.underlying 179=some (.array 2 69):=by kernel_rfl
theorem Ig:dS prog 69 1:=zO
theorem Ce:j4 prog 182:=⟨.agg #[.string ⟨#[]⟩,.slice none 0 0],λw=>by kernel_rfl⟩
theorem yp:jq prog 165 182 2 40:=ov (.agg #[.string ⟨#[]⟩,.slice none 0 0]) (by kernel_rfl) (by kernel_rfl) rfl dz (λw=>by kernel_rfl)
theorem il:c9 prog 28 0 0:=fO
theorem iF:eq prog 26:=nO
theorem ep:prog.underlying 26=some (.slice 88):=by kernel_rfl
theorem ey:dx prog 26 88 2:=eO
theorem mC:c9 prog 88 1 1:=fO
theorem iG:eq prog 29:=nO
theorem eY:fR prog 28 1:=aO
theorem qX:fR prog 88 2:=aO
theorem Wh:f8 prog 3 [.lit (.int .i64 0)]:=⟨(.int .i64 0),λw=>by kernel_rfl,λS w=>(show bD S w [.lit (.int .i64 0)] [.int .i64 0]from⟨.lit _ True.intro,trivial⟩)⟩
theorem og:f8 prog 88 [.lit (.string ⟨#[]⟩),.sl []]:=⟨(.agg #[.string ⟨#[]⟩,.slice none 0 0]),λw=>by kernel_rfl,λS w=>(show bD S w [.lit (.string ⟨#[]⟩),.sl []] [.string ⟨#[]⟩,.slice none 0 0]from⟨.lit _ aI,.nil _ _ aI,trivial⟩)⟩
theorem qA:dS prog 3 1:=zO
theorem n9:dS prog 88 2:=zO
theorem oE:c9 prog 113 2 4:=fO
theorem ql:eq prog 62:=nO
theorem rk:c9 prog 113 0 0:=fO
theorem zo:c9 prog 113 1 3:=fO
theorem Eh:c9 prog 88 0 0:=fO
theorem sr:f8 prog 64 [.lit (.int .i64 0),.lit (.int .i64 0)]:=⟨(.agg #[.int .i64 0,.int .i64 0]),λw=>by kernel_rfl,λS w=>(show bD S w [.lit (.int .i64 0),.lit (.int .i64 0)] [.int .i64 0,.int .i64 0]from⟨.lit _ True.intro,.lit _ True.intro,trivial⟩)⟩
theorem lC:dS prog 64 2:=zO
theorem ot:fR prog 64 2:=aO
theorem UN:dS prog 62 1:=zO
theorem uc:eq prog 122:=nO
theorem nB:dx prog 122 4 1:=eO
theorem Wa:f8 prog 122 [.sl []]:=⟨(.slice none 0 0),λw=>by kernel_rfl,λS w=>(show bD S w [.sl []] [.slice none 0 0]from⟨.nil _ _ aI,trivial⟩)⟩
theorem UG:dS prog 122 1:=zO
set_option maxRecDepth 100000 in
theorem Vy:∀ t∈[3,4,5,9,22,23,26,29,33,34,42,48,62,69,70,77,90,134,158,165,174,189,208,212,213,215,216,217],eq prog t:=by
 intro t h
 simp only[mem_cons,not_mem_nil,or_false]at h
 rcases h with rfl | rfl | rfl | rfl | rfl | rfl | rfl | rfl | rfl | rfl | rfl | rfl | rfl | rfl | rfl | rfl | rfl | rfl | rfl | rfl | rfl | rfl | rfl | rfl | rfl | rfl | rfl | rfl<;>exact λw=>by kernel_rfl
set_option maxRecDepth 100000 in
theorem Vw:∀ q∈[(25,3),(28,1),(31,6),(37,6),(64,2),(72,8),(88,2),(119,3),(162,2),(182,2),(244,2),(287,4),(321,4)],fR prog q.1 q.2:=by
 intro q h
 simp only[mem_cons,not_mem_nil,or_false]at h
 rcases h with rfl | rfl | rfl | rfl | rfl | rfl | rfl | rfl | rfl | rfl | rfl | rfl | rfl<;>exact⟨λw=>by kernel_rfl,λw=>by kernel_rfl⟩
set_option maxRecDepth 100000 in
theorem Vx:∀ q∈[(25,0,0),(25,1,1),(25,2,2),(28,0,0),(31,0,0),(31,1,1),(31,2,2),(31,3,3),(31,4,4),(31,5,5),(37,0,0),(37,1,1),(37,2,2),(37,3,3),(37,4,4),(37,5,5),(64,0,0),(64,1,1),(72,0,0),(72,1,1),(72,2,2),(72,3,3),(72,4,4),(72,5,5),(72,6,6),(72,7,7),(88,0,0),(88,1,1),(92,0,0),(92,1,3),(92,2,4),(92,3,5),(92,4,6),(92,5,7),(113,0,0),(113,1,3),(113,2,4),(119,0,0),(119,1,1),(119,2,2),(162,0,0),(162,1,1),(182,0,0),(182,1,1),(219,0,0),(219,1,1),(219,2,2),(219,3,3),(219,4,4),(244,0,0),(244,1,1),(287,0,0),(287,1,1),(287,2,2),(287,3,3),(321,0,0),(321,1,1),(321,2,2),(321,3,3)],c9 prog q.1 q.2.1 q.2.2:=by
 intro q h
 simp only[mem_cons,not_mem_nil,or_false]at h
 rcases h with rfl | rfl | rfl | rfl | rfl | rfl | rfl | rfl | rfl | rfl | rfl | rfl | rfl | rfl | rfl | rfl | rfl | rfl | rfl | rfl | rfl | rfl | rfl | rfl | rfl | rfl | rfl | rfl | rfl | rfl | rfl | rfl | rfl | rfl | rfl | rfl | rfl | rfl | rfl | rfl | rfl | rfl | rfl | rfl | rfl | rfl | rfl | rfl | rfl | rfl | rfl | rfl | rfl | rfl | rfl | rfl | rfl | rfl | rfl<;>exact λb off w=>by kernel_rfl
def tb:go prog where
 one:=pW [3,4,5,9,22,23,26,29,33,34,42,48,62,69,70,77,90,134,158,165,174,189,208,212,213,215,216,217]
 agg:=wJ [(25,3),(28,1),(31,6),(37,6),(64,2),(72,8),(88,2),(119,3),(162,2),(182,2),(244,2),(287,4),(321,4)]
 zn:=wK [(25,0,0),(25,1,1),(25,2,2),(28,0,0),(31,0,0),(31,1,1),(31,2,2),(31,3,3),(31,4,4),(31,5,5),(37,0,0),(37,1,1),(37,2,2),(37,3,3),(37,4,4),(37,5,5),(64,0,0),(64,1,1),(72,0,0),(72,1,1),(72,2,2),(72,3,3),(72,4,4),(72,5,5),(72,6,6),(72,7,7),(88,0,0),(88,1,1),(92,0,0),(92,1,3),(92,2,4),(92,3,5),(92,4,6),(92,5,7),(113,0,0),(113,1,3),(113,2,4),(119,0,0),(119,1,1),(119,2,2),(162,0,0),(162,1,1),(182,0,0),(182,1,1),(219,0,0),(219,1,1),(219,2,2),(219,3,3),(219,4,4),(244,0,0),(244,1,1),(287,0,0),(287,1,1),(287,2,2),(287,3,3),(321,0,0),(321,1,1),(321,2,2),(321,3,3)]
 h1:=λt h=>Vy t (EO h)
 h2:=λt k h=>Vw (t,k+1) (FL h)
 h3:=λs f d h=>Vx (s,f,d) (FM h)
 mix:=cP
section
variable {J:WP} (V:aS J)
include V
theorem jM (xs:List BA) (s:BA)  :Fn prog J 154 [.rd (ai xs),.str s] (.bool (decide (s∈xs))):=by
 refine fE func154 λS w0 hS hJ0=>?_
 clear hJ0
 refine ln 0 λ_=>?_
 refine qs tb V [0,1] [_] U2 ?_
 refine af (qs tb V [0,1,1000] [_] U3 ?_)
 refine ax (lp (ι:=Nat) (λk=>(k<=xs.length)/\(∀ j,j<k->G xs j≠s)) (λk=>[(5,.int (k:Nat))]) (λk=>xs.length-k) [0,1,2] U2 0 (show(0<=xs.length)/\(∀ j,j<0->G xs j≠s)from by first | trivial | grind) ?_)
 rintro k ⟨aQ,ah⟩
 refine af (aJ tb V [0,1,2,1003] [_,_,.int (xs.length:Nat),_] [2] U4 Y ⟨aD b6,U⟩ ?_)
 refine cj 3 ?_ ?_<;>intro hb1<;>try simp at hb1
 ·
  refine aj (nx (af (ax (aJ tb V [0,1,2,1005] [_,_,.ptr [lS (G xs k)],_,_,_] [2] U4 Y ⟨bn bx,U⟩ ?_))))
  refine cj 3 ?_ ?_<;>intro hb2<;>try simp at hb2
  ·
   refine qs tb V [1000] [_] [_] ?_
   exact aU 0 (hE:=eB (by grind[aC]))
  ·
   refine aj (nx (dI tb V [0,1,1002] [_,.int (k+1:Nat),_] [1] U3 Y ⟨aM,U⟩ ?_))
   exact dO (k+1) [0,1,2] ⟨by first | omega | (simp;omega) | grind[aC],by first | omega | (simp;omega) | grind[aC]⟩
 ·
  refine aW (nx (qs tb V [1000] [_] [_] ?_))
  exact aU 0 (hE:=eB (by grind[ee]))
theorem KR (xs ys:List BA)  :Fn prog J 235 [.rd (ai xs),.rd (ai ys)] (.bool (decide (xs=ys))):=by
 refine fE func235 λS w0 hS hJ0=>?_
 clear hJ0
 refine ln 0 λ_=>?_
 refine ln 1 λ_=>?_
 refine qs tb V [0,1] [_] U2 ?_
 refine af (aJ tb V [0,1,1004] [_,.int (xs.length:Nat),_,.int (ys.length:Nat),_] [1,3] U3 Y ⟨aD b6,aD b6,U⟩ ?_)
 refine cj 2 ?_ ?_<;>intro hb1<;>try simp at hb1
 ·
  refine qs tb V [1000] [_] [_] ?_
  exact aU 0 (hE:=eB (by first | rfl | grind[aC]))
 ·
  refine aj (nx (af (qs tb V [0,1,1000] [_] U3 ?_)))
  refine ax (lp (ι:=Nat) (λk=>(k<=xs.length)/\(∀ j,j<k->G xs j=G ys j)) (λk=>[(5,.int (k:Nat))]) (λk=>xs.length-k) [0,1,2] U2 0 (show(0<=xs.length)/\(∀ j,j<0->G xs j=G ys j)from by first | trivial | grind) ?_)
  rintro k ⟨aQ,ah⟩
  refine af (aJ tb V [0,1,2,1003] [_,_,.int (xs.length:Nat),_] [2] U4 Y ⟨aD b6,U⟩ ?_)
  refine cj 3 ?_ ?_<;>intro hb2<;>try simp at hb2
  ·
   refine aj (nx (af (ax (aJ tb V [0,1,2,1008] [_,_,.ptr [lS (G xs k)],_,_,_,.ptr [lS (G ys k)],_,_] [2,6] U4 Y ⟨bn bx,bn bx,U⟩ ?_))))
   refine cj 3 ?_ ?_<;>intro aE<;>try simp at aE
   ·
    refine qs tb V [1000] [_] [_] ?_
    exact aU 0 (hE:=eB (by first | rfl | grind[aC]))
   ·
    refine aj (nx (dI tb V [0,1,1002] [_,.int (k+1:Nat),_] [1] U3 Y ⟨aM,U⟩ ?_))
    exact dO (k+1) [0,1,2] ⟨by first | omega | (simp;omega) | grind[aC],by first | omega | (simp;omega) | grind[aC]⟩
  ·
   refine aW (nx (qs tb V [1000] [_] [_] ?_))
   exact aU 0 (hE:=eB (by have:=jN (xs:=xs) (ys:=ys) oz (λj hj=>ah j oz);simp[this]))
theorem De (xs ys:List Pr)  :Fn prog J 204 [.rd (bI xs),.rd (bI ys)] (.bool (decide (xs=ys))):=by
 refine fE func204 λS w0 hS hJ0=>?_
 clear hJ0
 refine ln 0 λ_=>?_
 refine ln 1 λ_=>?_
 refine qs tb V [0,1] [_] U2 ?_
 refine af (aJ tb V [0,1,1004] [_,.int (xs.length:Nat),_,.int (ys.length:Nat),_] [1,3] U3 Y ⟨aD fH,aD fH,U⟩ ?_)
 refine cj 2 ?_ ?_<;>intro hb1<;>try simp at hb1
 ·
  refine qs tb V [1000] [_] [_] ?_
  exact aU 0 (hE:=eB (by first | rfl | grind[aC]))
 ·
  refine aj (nx (af (qs tb V [0,1,1000] [_] U3 ?_)))
  refine ax (lp (ι:=Nat) (λk=>(k<=xs.length)/\(∀ j,j<k->ib (G xs j) (G ys j)=true)) (λk=>[(5,.int (k:Nat))]) (λk=>xs.length-k) [0,1,2] U2 0 (show(0<=xs.length)/\(∀ j,j<0->ib (G xs j) (G ys j)=true)from by first | trivial | grind) ?_)
  rintro k ⟨aQ,ah⟩
  refine af (aJ tb V [0,1,2,1003] [_,_,.int (xs.length:Nat),_] [2] U4 Y ⟨aD fH,U⟩ ?_)
  refine cj 3 ?_ ?_<;>intro hb2<;>try simp at hb2
  ·
   refine aj (nx (af (ax (aJ tb V [0,1,2,1008] [_,_,.ptr (aR (G xs k)),_,_,_,.ptr (aR (G ys k)),_,.bool (!(decide ((G xs k).a=(G ys k).a)&&decide ((G xs k).b=(G ys k).b)))] [2,6,8] U4 Y ⟨bn de,bn de,λ_ _ _ Z hl _=>Bn rf Y (hl.dep 3 20 _ Y Y Y Y) (hl.dep 7 24 _ Y Y Y Y) Z,U⟩ ?_))))
   refine cj 3 ?_ ?_<;>intro aE<;>try simp at aE
   ·
    refine qs tb V [1000] [_] [_] ?_
    exact aU 0 (hE:=eB (by symm;rw[decide_eq_false_iff_not];intro e;subst e;simp at aE))
   ·
    refine aj (nx (dI tb V [0,1,1002] [_,.int (k+1:Nat),_] [1] U3 Y ⟨aM,U⟩ ?_))
    exact dO (k+1) [0,1,2] ⟨by first | omega | (intro j hj;by_cases e:j=k;(subst e;simp[ib,aE]);exact ah j oz),by first | omega | (intro j hj;by_cases e:j=k;(subst e;simp[ib,aE]);exact ah j oz)⟩
  ·
   refine aW (nx (qs tb V [1000] [_] [_] ?_))
   exact aU 0 (hE:=eB (by have:=jN (xs:=xs) (ys:=ys) oz (λj hj=>sb.1 (ah j oz));simp[this]))
theorem Kv (c:UInt8)  :Fn prog J 234 [.rd (.lit (.int .u8 (c.toNat:Int)))] (.bool (lA c)):=by
 refine fE func234 λS w0 hS hJ0=>?_
 clear hJ0
 refine qs tb V [0] [_] [_] ?_
 refine qs tb V [1006] U7 [_] ?_
 exact aU 0 (hE:=eB (by first | rfl | grind[aC]))
theorem Ks (s:BA)  :Fn prog J 199 [.str s] (.bool (oh s)):=by
 refine fE func199 λS w0 hS hJ0=>?_
 clear hJ0
 refine tT 0 λ_=>?_
 refine qs tb V [0] [_] [_] ?_
 refine af (qs tb V [0,1000] [_] U2 ?_)
 refine ax (lp (ι:=Nat) (λk=>(k<=s.size)/\(∀ j,j<k->lA (bt s j)=true)) (λk=>[(3,.int (k:Nat))]) (λk=>s.size-k) [0,1] [_] 0 (show(0<=s.size)/\(∀ j,j<0->lA (bt s j)=true)from by first | trivial | grind) ?_)
 rintro k ⟨aQ,ah⟩
 refine af (aJ tb V [0,1,1003] [_,_,.int (s.size:Nat),_] [2] U3 Y ⟨oP kI,U⟩ ?_)
 refine cj 2 ?_ ?_<;>intro hb1<;>try simp at hb1
 ·
  refine aj (nx (af (ax (aJ tb V [0,1,1004] [_,_,.rd (.lit (.int .u8 ((G s.data.toList k).toNat:Int))),.bool (lA (G s.data.toList k)),_] [2,3] U3 Y ⟨λ_ _ _ Z hl _=>ur (i:=(k:Int)) kI Y (hl.dep 0 10 _ Y Y Y Y) (hl.dep 1 11 _ Y Y Y Y) bM (sJ (s:=s) (k:=k) az) Z,dh hS V (Kv V (G s.data.toList k)) (cO func234),U⟩ ?_))))
  refine cj 2 ?_ ?_<;>intro hb2<;>try simp at hb2
  ·
   refine qs tb V [1000] [_] [_] ?_
   exact aU 0 (hE:=eB ((Ww hb1 hb2).symm))
  ·
   refine aj (nx (dI tb V [0,1002] [_,.int (k+1:Nat),_] [1] U2 Y ⟨aM,U⟩ ?_))
   exact dO (k+1) [0,1] ⟨oz,cF ah hb2⟩
 ·
  refine aW (nx (qs tb V [1002] U3 [_] ?_))
  exact aU 0 (hE:=eB ((Wv λj hj=>ah j oz).symm))
theorem C5 (s:BA)  :Fn prog J 153 [.str s] (.bool (gP s)):=by
 refine fE func153 λS w0 hS hJ0=>?_
 clear hJ0
 refine tT 0 λ_=>?_
 refine qs tb V [0] [_] [_] ?_
 refine af (qs tb V [0,1000] [_] U2 ?_)
 refine ax (lp (ι:=Nat) (λk=>(k<=s.size)/\(∀ j,j<k->¬ ((bt s j).toNat:Int)=36)) (λk=>[(3,.int (k:Nat))]) (λk=>s.size-k) [0,1] [_] 0 (show(0<=s.size)/\(∀ j,j<0->¬ ((bt s j).toNat:Int)=36)from by first | trivial | grind) ?_)
 rintro k ⟨aQ,ah⟩
 refine af (aJ tb V [0,1,1003] [_,_,.int (s.size:Nat),_] [2] U3 Y ⟨oP kI,U⟩ ?_)
 refine cj 2 ?_ ?_<;>intro hb1<;>try simp at hb1
 ·
  refine aj (nx (af (ax (aJ tb V [0,1,1003] [_,_,.rd (.lit (.int .u8 ((G s.data.toList k).toNat:Int))),_] [2] U3 Y ⟨λ_ _ _ Z hl _=>ur (i:=(k:Int)) kI Y (hl.dep 0 10 _ Y Y Y Y) (hl.dep 1 11 _ Y Y Y Y) bM (sJ (s:=s) (k:=k) az) Z,U⟩ ?_))))
  refine cj 2 ?_ ?_<;>intro hb2<;>try simp at hb2
  ·
   refine qs tb V [1000] [_] [_] ?_
   exact aU 0 (hE:=eB ((Vs hb1 hb2).symm))
  ·
   refine aj (nx (dI tb V [0,1002] [_,.int (k+1:Nat),_] [1] U2 Y ⟨aM,U⟩ ?_))
   exact dO (k+1) [0,1] ⟨oz,cF ah hb2⟩
 ·
  refine aW (nx (aJ tb V [1007] [_,.bool (oh s),_,_,.int (s.size:Nat),_,_,_] [1,4] [_] Y ⟨dh hS V (Ks V s) (cO func199),oP kI,U⟩ ?_))
  exact aU 0 (hE:=eB ((Vr λj hj=>ah j oz).symm))
theorem yG (s:BA)  :Fn prog J 155 [.str s] (.bool (fW s)):=by
 refine fE func155 λS w0 hS hJ0=>?_
 clear hJ0
 refine tT 0 λ_=>?_
 refine qs tb V [0] [_] [_] ?_
 refine af (qs tb V [0,1000] [_] U2 ?_)
 refine ax (lp (ι:=Nat) (λk=>(k<=s.size)/\(∀ j,j<k->lg (bt s j)=false)) (λk=>[(3,.int (k:Nat))]) (λk=>s.size-k) [0,1] [_] 0 (show(0<=s.size)/\(∀ j,j<0->lg (bt s j)=false)from by first | trivial | grind) ?_)
 rintro k ⟨aQ,ah⟩
 refine af (aJ tb V [0,1,1003] [_,_,.int (s.size:Nat),_] [2] U3 Y ⟨oP kI,U⟩ ?_)
 refine cj 2 ?_ ?_<;>intro hb1<;>try simp at hb1
 ·
  refine aj (nx (af (ax (aJ tb V [0,1,1003] [_,_,.rd (.lit (.int .u8 ((G s.data.toList k).toNat:Int))),_] [2] U3 Y ⟨λ_ _ _ Z hl _=>ur (i:=(k:Int)) kI Y (hl.dep 0 12 _ Y Y Y Y) (hl.dep 1 13 _ Y Y Y Y) bM (sJ (s:=s) (k:=k) az) Z,U⟩ ?_))))
  refine qs tb V [0,1,2,1014] pm U4 ?_
  refine qs tb V [0,1,1021] [_,_,_,_,_,_,_,_,_,_,_,_,_,_,_,_,_,_,_,_,_,_] U3 ?_
  refine cj 2 ?_ ?_<;>intro hb2
  ·
   refine qs tb V [1000] [_] [_] ?_
   exact aU 0 (hE:=eB ((PZ hb1 hb2).symm))
  ·
   refine aj (nx (dI tb V [0,1002] [_,.int (k+1:Nat),_] [1] U2 Y ⟨aM,U⟩ ?_))
   exact dO (k+1) [0,1] ⟨oz,cF ah hb2⟩
 ·
  refine aW (nx (aJ tb V [1007] (V4 [.int (s.size:Nat),_,_,_]) [4] [_] Y ⟨oP kI,U⟩ ?_))
  exact aU 0 (hE:=eB ((PY λj hj=>ah j oz).symm))
end
section
variable {J:WP} (V:aS J)
include V
theorem vm (f:Fr) (b:(f.aa.length+f.bA.length)*48<=140737488351232):Fn prog J 158 [.agg (aY f)] (.rd (bW (f.aa++f.bA))):=by
 refine fE func158 λS w0 hS hJ0=>?_
 refine tw cc (au tb V [1000] [.ptr (aY f),_] [0] [_] Y ⟨cW hS V,U⟩ ?_)
 refine af (λa w h=>nZ (id:=1) (t:=69) (e:=119) (size:=3) (bytes:=48) (i0:=0) (dg:=7) (d:=2) (ch:=[(3,(f.aa.map aN)),(6,(f.bA.map aN))]) (λix'=>([.any,.ptr [bW f.aa,bI f.apart,ai f.ac,bW f.bA,bI f.wide,ai f.proof],.rd (bW f.aa),.any,.ptr [bW f.bA,bI f.wide,ai f.proof],.rd (bW f.bA),.any,.any]:List AV).getD ix' .any) (λ_=>true) [] ((f.aa++f.bA).map aN) yz ?Ti V hJ0 h cP Y Y Y Y ⟨?_,?_,?_,?_,?_,?_,?_,?_,U⟩ trivial (λv1=>?tV))
 case Ti=>
  refine Row.mk' nl ⟨_,Y,Y,Y,Y,Y⟩ ⟨?WB,?WC,U⟩ ⟨_,_,_,_,Y,Y,Y,Y,Y,Y,Y,Y,Y⟩ Y Y Y
  case WB=>exact⟨_,_,_,_,Y,Y,Y,Y,Y,Y,Y,Y,je (f:=aN) (λ_=>rfl),(by have hm:maxLen=9223372036854775807:=Y;simp[upto];first | omega | (simp;omega) | grind[aC]),(by have hm:maxLen=9223372036854775807:=Y;simp[upto];first | omega | (simp;omega) | grind[aC]),λ_ _ _ _ _ hl=>(hl.dep 2 5 _ Y Y Y Y)⟩
  case WC=>exact⟨_,_,_,_,Y,Y,Y,Y,Y,Y,Y,Y,je (f:=aN) (λ_=>rfl),(by have hm:maxLen=9223372036854775807:=Y;simp[upto];first | omega | (simp;omega) | grind[aC]),(by have hm:maxLen=9223372036854775807:=Y;simp[upto];first | omega | (simp;omega) | grind[aC]),λ_ _ _ _ _ hl=>(hl.dep 5 8 _ Y Y Y Y)⟩
 exact λh=>bB Y h
 exact λ_ _=>⟨Y,λ_ _ _ Z hl _=>ca ti Y (hl.env 0 1 _ Y Y) Z⟩
 exact λ_ _=>⟨Y,λ_ _ _ Z hl _=>bU rW Y (hl.dep 1 4 _ Y Y Y Y) Z⟩
 exact λh=>bB Y h
 exact λ_ _=>⟨Y,λ_ _ _ Z hl _=>ca Nm Y (hl.env 0 1 _ Y Y) Z⟩
 exact λ_ _=>⟨Y,λ_ _ _ Z hl _=>bU rW Y (hl.dep 4 7 _ Y Y Y Y) Z⟩
 exact λh=>bB Y h
 exact λh=>bB Y h
 clear a w h
 exact nx (tw (λh=>dV hS h (m:=0) (s:=2) Y) (bL 0 (hE:=Y)))
theorem Kr (s:BA)  :Fn prog J 162 [.str s] (.bool (fq s)):=by
 refine fE func162 λS w0 hS hJ0=>?_
 clear hJ0
 refine tT 0 λ_=>?_
 refine qs tb V [0] [_] [_] ?_
 refine af (qs tb V [0,1005] U6 U2 ?_)
 refine cj 1 ?_ ?_<;>intro hb1<;>try simp at hb1
 ·
  refine qs tb V [1000] [_] [_] ?_
  exact aU 0 (hE:=eB ((Td hb1).symm))
 ·
  refine aj (nx (af (qs tb V [0,1000] [_] U2 ?_)))
  refine ax (lp (ι:=Nat) (λk=>(k<=s.size)/\(∀ j,j<k->mr s j=false)) (λk=>[(3,.int (k:Nat))]) (λk=>s.size-k) [0,1] [_] 0 (show(0<=s.size)/\(∀ j,j<0->mr s j=false)from by first | trivial | grind) ?_)
  rintro k ⟨aQ,ah⟩
  refine af (aJ tb V [0,1,1003] [_,_,.int (s.size:Nat),_] [2] U3 Y ⟨oP kI,U⟩ ?_)
  refine cj 2 ?_ ?_<;>intro hb2<;>try simp at hb2
  ·
   refine aj (nx (af (ax (aJ tb V [0,1,1012] [_,_,.rd (.lit (.int .u8 ((G s.data.toList k).toNat:Int))),_,_,_,_,_,.int (k+1:Nat),.str (s.extract k (k+1)),.bool (fW (s.extract k (k+1))),_,_] [2,8,9,10] U3 Y ⟨λ_ _ _ Z hl _=>ur (i:=(k:Int)) kI Y (hl.dep 0 16 _ Y Y Y Y) (hl.dep 1 17 _ Y Y Y Y) bM (sJ (s:=s) (k:=k) az) Z,λ_ _ _ Z hl hc=>qq (i:=(k:Int)) (j:=(1:Int)) Y (hl.dep 7 23 _ Y Y Y hc) (Rel.aG (.int .i64 1)) (by have aF:((!decide (((G s.data.toList k).toNat:Int)=(63:Int)))==true)=true:=hc;(try simp at aF);(first | omega | (simp;omega) | grind[aC])) (by have aF:((!decide (((G s.data.toList k).toNat:Int)=(63:Int)))==true)=true:=hc;(try simp at aF);(first | omega | (simp;omega) | grind[aC])) Z,λ_ _ _ Z hl hc=>TL (lo:=k) (hi:=k+1) kI Y (hl.dep 5 21 _ Y Y Y hc) (hl.dep 6 22 _ Y Y Y hc) (hl.dep 8 24 _ Y Y Y hc) (by have aF:((!decide (((G s.data.toList k).toNat:Int)=(63:Int)))==true)=true:=hc;(try simp at aF);(first | omega | (simp;omega) | grind[aC])) (by have aF:((!decide (((G s.data.toList k).toNat:Int)=(63:Int)))==true)=true:=hc;(try simp at aF);(first | omega | (simp;omega) | grind[aC])) Z,dh hS V (yG V (s.extract k (k+1))) (cO func155),U⟩ ?_))))
   refine cj 2 ?_ ?_<;>intro aE
   ·
    refine qs tb V [1000] [_] [_] ?_
    exact aU 0 (hE:=eB ((Tc hb1 hb2 aE).symm))
   ·
    refine aj (nx (dI tb V [0,1002] [_,.int (k+1:Nat),_] [1] U2 Y ⟨aM,U⟩ ?_))
    exact dO (k+1) [0,1] ⟨oz,cF ah aE⟩
  ·
   refine aW (nx (qs tb V [1002] U3 [_] ?_))
   exact aU 0 (hE:=eB ((Tb hb1 λj hj=>ah j oz).symm))
theorem sL (y:Hy) (vs:List BA)  :Fn prog J 200 [.agg (aN y),.rd (ai vs)] (.bool (gu y vs)):=by
 refine fE func200 λS w0 hS hJ0=>?_
 clear hJ0
 refine ln 1 λ_=>?_
 refine aJ tb V [1,1000] [.ptr (aN y),_] [0] U2 Y ⟨ej hS V,U⟩ ?_
 refine aJ tb V [1016] (V5 [.int (y.ac.length:Nat),_,_,_,_,_,_,.ptr [lS (G y.ac 1)],_,.bool (decide ((G y.ac 1)∈vs)),_,_]) [5,12,14] [_] Y ⟨aD b6,cN (k:=1) bx (hk:=λ(aF:((y.be&& (decide ((y.ac.length:Int)=(2:Int))))==true)=true)=>by(try simp at aF);first | omega | (simp;omega) | grind[aC]),dh hS V (jM V vs (G y.ac 1)) (cO func154),U⟩ ?_
 exact aU 0 (hE:=eB (by first | rfl | grind[aC]))
theorem vn (x y:Hy)  :Fn prog J 201 [.agg (aN x),.agg (aN y)] (.bool (kX x y)):=by
 refine fE func201 λS w0 hS hJ0=>?_
 clear hJ0
 refine aJ tb V [1000,1001] [.ptr (aN x),.ptr (aN y),_] [0,1] U2 Y ⟨ej hS V,ej hS V,U⟩ ?_
 refine aJ tb V [1019] (qU [.bool (x.be==y.be),_,_,_,_,_,_,.bool (decide (x.ac=y.ac)),_,_]) [10,17] [_] Y ⟨λ_ _ _ Z hl hc=>Hq IV Y (hl.dep 7 12 _ Y Y Y hc) (hl.dep 9 14 _ Y Y Y hc) Z,dh hS V (KR V x.ac y.ac) (cO func235),U⟩ ?_
 exact aU 0 (hE:=eB (by first | rfl | grind[aC]))
theorem yI (d:Db) (s:BA)  :Fn prog J 157 [.agg (bZ d),.str s] (.bool (fG d s)):=by
 refine fE func157 λS w0 hS hJ0=>?_
 clear hJ0
 refine aJ tb V [1,1000] [.ptr (bZ d),_] [0] U2 Y ⟨ej hS V,U⟩ ?_
 refine aJ tb V [1001,1010] (V3 [.bool (decide (s∈d.bH)),_,_,_,_,.bool (decide (s∈d.vars)),_,_]) [3,8] U2 Y ⟨dh hS V (jM V d.bH s) (cO func154),dh hS V (jM V d.vars s) (cO func154),U⟩ ?_
 refine ln 0 λ_=>?_
 exact aU 1 (hE:=eB (by first | rfl | grind[aC]))
theorem C9 (d:Db) (l:List BA) (h0:0<l.length):Fn prog J 160 [.agg (bZ d),.rd (ai l)] (.int (iz d l)):=by
 refine fE func160 λS w0 hS hJ0=>?_
 clear hJ0
 refine ln 1 λ_=>?_
 refine aJ tb V [1,1000] [.ptr (bZ d),_] [0] U2 Y ⟨ej hS V,U⟩ ?_
 refine af (aJ tb V [0,1,1001,1006] (V3 [.ptr [lS (G l 0)],_,.bool (decide ((G l 0)∈d.bH)),_]) [3,5] U4 Y ⟨bn (k:=0) bx,dh hS V (jM V d.bH (G l 0)) (cO func154),U⟩ ?_)
 refine ln 2 λ_=>?_
 refine cj 3 ?_ ?_<;>intro hb1<;>try simp at hb1
 ·
  refine qs tb V [1000] [_] [_] ?_
  exact aU 0 (hE:=eI ((Es hb1).symm))
 ·
  refine aj (nx (af (qs tb V [0,1,1000] [_] U3 ?_)))
  refine ax (lp (ι:=Nat) (λk=>(1<=k)/\(k<=l.length)/\(∀ j,0<j->j<k->fG d (G l j)=true)) (λk=>[(5,.int (k:Nat))]) (λk=>l.length-k) [0,1,2] U2 1 (show(1<=1)/\(1<=l.length)/\(∀ j,0<j->j<1->fG d (G l j)=true)from by first | trivial | grind) ?_)
  rintro k ⟨aQ,ah,bp⟩
  refine af (aJ tb V [0,1,2,1003] [_,_,.int (l.length:Nat),_] [2] U4 Y ⟨aD b6,U⟩ ?_)
  refine cj 3 ?_ ?_<;>intro hb2<;>try simp at hb2
  ·
   refine aj (nx (af (ax (aJ tb V [0,1,2,1006] (V3 [.ptr [lS (G l k)],_,.bool (fG d (G l k)),_]) [3,5] U4 Y ⟨bn bx,dh hS V (yI V d (G l k)) (cO func157),U⟩ ?_))))
   refine cj 3 ?_ ?_<;>intro aE<;>try simp at aE
   ·
    refine qs tb V [1000] [_] [_] ?_
    exact aU 0 (hE:=eI ((Et oz oz aE).symm))
   ·
    refine aj (nx (dI tb V [0,1,1002] [_,.int (k+1:Nat),_] [1] U3 Y ⟨aM,U⟩ ?_))
    exact dO (k+1) [0,1,2] ⟨by first | omega | (simp;omega) | grind[aC],by first | omega | (simp;omega) | grind[aC],by first | omega | (simp;omega) | grind[aC]⟩
  ·
   refine aW (nx (qs tb V [1000] [_] [_] ?_))
   exact aU 0 (hE:=eI ((Eu hb1 λj h1 h2=>bp j h1 oz).symm))
theorem KB (xs ys:List BA)  :Fn prog J 164 [.rd (ai xs),.rd (ai ys)] (.int (gp xs ys:Nat)):=by
 refine fE func164 λS w0 hS hJ0=>?_
 clear hJ0
 refine ln 0 λ_=>?_
 refine ln 1 λ_=>?_
 refine qs tb V [0,1] [_] U2 ?_
 refine qs tb V [0,1,1000] [_] U3 ?_
 refine af (ax (lp (ι:=Nat) (λk=>(k<=xs.length)/\(k<=ys.length)/\(∀ j,j<k->G xs j=G ys j)) (λk=>[(5,.int (k:Nat))]) (λk=>xs.length-k) [0,1,2] U2 0 (show(0<=xs.length)/\(0<=ys.length)/\(∀ j,j<0->G xs j=G ys j)from by first | trivial | grind) ?_))
 rintro k ⟨aQ,ah,bp⟩
 refine af (aJ tb V [0,1,2,1020] [_,_,.int (xs.length:Nat),_,_,_,_,.int (ys.length:Nat),_,_,_,_,_,.ptr [lS (G xs k)],_,_,_,.ptr [lS (G ys k)],_,_,_] [2,7,13,17] U4 Y ⟨aD b6,aD b6,cN bx (hk:=λ(aF:(((decide ((k:Int)< (xs.length:Int)))&& (decide ((k:Int)< (ys.length:Int))))==true)=true)=>by(try simp at aF);first | omega | (simp;omega) | grind[aC]),cN bx (hk:=λ(aF:(((decide ((k:Int)< (xs.length:Int)))&& (decide ((k:Int)< (ys.length:Int))))==true)=true)=>by(try simp at aF);first | omega | (simp;omega) | grind[aC]),U⟩ ?_)
 refine cj 3 ?_ ?_<;>intro hb1<;>try simp at hb1
 ·
  refine aj (nx (ax (dI tb V [0,1,1002] [_,.int (k+1:Nat),_] [1] U3 Y ⟨aM,U⟩ ?_)))
  exact dO (k+1) [0,1,2] ⟨by first | omega | (simp;omega) | grind[aC],by first | omega | (simp;omega) | grind[aC],by first | omega | (simp;omega) | grind[aC]⟩
 ·
  refine aW (nx (qs tb V [1001] U2 [_] ?_))
  exact aU 0 (hE:=eI (by rw[yP xs ys k aQ ah bp (by grind)]))
theorem KU (l:List Pr) (vs:List BA) (b:l.length*32<=140737488351232):Fn prog J 206 [.rd (bI l),.rd (ai vs)] (.rd (bI (l.filter (iQ vs)))):=by
 refine fE func206 λS w0 hS hJ0=>?_
 refine tw cc (ln 0 λcx=>?_)
 refine ln 1 λ_=>?_
 refine ak tb V [0,1] [_] U2 ?_
 refine aL (ko de V Y Y Y (lb Y) λv1=>?_)
 refine ao 1 tb Y (aA [0,2,3] U3 Y ?_)
 refine nx (af (ak tb V [0,1,2,1000] [_] U4 ?_))
 refine ax (lpo (ι:=Nat×Value×(List Pr)) (λ(k,_,out)=>(k<=l.length)/\(out=(l.take k).filter (iQ vs))/\(out.length<=k)) (λ(_,v,out)=>[OB.row v 162 2 (out.map aR)]) (λ(k,v,_)=>[(6,.int (k:Nat)),(5,.lit v)]) (λ(k,_,_)=>l.length-k) [1,2,3,0] U2 (0,v1,([]:List Pr)) ⟨aI,by simp,by simp⟩ ?_)
 rintro⟨k,v,out⟩ ⟨aQ,ah,bp⟩
 refine af (au tb V [0,1,2,3,1003] [_,_,.int (l.length:Nat),_] [2] U5 Y ⟨aD fH,U⟩ ?_)
 refine cj 4 ?_ ?_<;>intro hb1<;>try simp at hb1
 ·
  refine aj (nx (af (ax (au tb V [0,1,2,3,1015] (V3 [.ptr (aR (G l k)),_,_,.bool (decide (((G l k).a)∈vs)),_,_,_,_,.ptr (aR (G l k)),_,_,.bool (decide (((G l k).b)∈vs)),_]) [3,6,11,14] U5 Y ⟨bn de,bN hS V (jM V vs ((G l k).a)) (cO func154),cN de (hk:=λ(aF:((decide (((G l k).a)∈vs))==true)=true)=>by(try simp at aF);first | omega | (simp;omega) | grind[aC]),bN hS V (jM V vs ((G l k).b)) (cO func154),U⟩ ?_))))
  refine cj 4 ?_ ?_<;>intro hb2<;>try simp at hb2
  ·
   refine cG (ao 3 tb Y (sy (.ptr (aR (G l k))) (λh=>cb (i:=(k:Int)) de Y (h.get 1 Y) (h.get 0 Y) bM (cq (xs:=l) (k:=k) az) Y h.x) ?_))
   refine ao 1 tb Y (sy (.rd (bI ([(G l k)]))) (λh=>mY de Cd dz Y Y (h.get 0 Y) (aK hS _ h.keep h.x _ aV) (jo V h.x)) ?_)
   refine fP (f:=aR) (m:=5) (s:=30) out ([(G l k)]) (λ_=>Y) u4 V hJ0 Y Y Y (lb Y) Y Y (λa w h=>(h.get 0 Y)) az az λv2=>?_
   refine ao 1 tb Y (aA [0,2,8,9,10] U5 Y ?_)
   refine nx (ln 1 λhl3=>?_)
   refine aT tb V [0,2,3,1002] [_,.int (k+1:Nat),_] [1] U4 Y ⟨aM,U⟩ ?_
   exact bq (k+1,v2,out++([(G l k)])) [1,2,3,0] ⟨oz,by rw[kP oz,ah];simp[iQ,hb2],by simp;omega⟩
  ·
   refine aj (nx (aT tb V [0,1,3,1002] [_,.int (k+1:Nat),_] [1] U4 Y ⟨aM,U⟩ ?_))
   exact bq (k+1,v,out) [0,1,3,2] ⟨oz,by rw[kP oz,ah];simp[iQ];grind,oz⟩
 ·
  refine aW (nx (ak tb V [1001] U2 [_] ?_))
  exact tw (λh=>dV hS h (m:=0) (s:=4) Y) (bL 0 (hE:=congrArg (λz=>AV.rd (bI z)) (show out=(l.filter (iQ vs))from by rw[ah,cS oz])))
theorem KP (l:List (List BA)) (vs:List BA) (b:vs.length<=8000):Fn prog J 202 [.rd (ct l),.rd (ai vs)] (.rd (ai (dl vs l.flatten))):=by
 refine fE func202 λS w0 hS hJ0=>?_
 refine tw cc (ln 0 λcx=>?_)
 refine ln 1 λ_=>?_
 refine ak tb V [0,1] [_] U2 ?_
 refine aL (ko bx V Y Y Y (lb Y) λv1=>?_)
 refine ao 1 tb Y (aA [0,2,3] U3 Y ?_)
 refine nx (af (ak tb V [0,1,2,1000] [_] U4 ?_))
 refine ax (lpo (ι:=Nat×Value×(List BA)) (λ(k,_,out)=>(k<=l.length)/\(out=dl vs (l.take k).flatten)) (λ(_,v,out)=>[OB.row v 9 1 (out.map dJ)]) (λ(k,v,_)=>[(6,.int (k:Nat)),(5,.lit v)]) (λ(k,_,_)=>l.length-k) [1,2,3,0] U2 (0,v1,([]:List BA)) ⟨aI,by simp[dl]⟩ ?_)
 rintro⟨k,v,out⟩ ⟨aQ,ah⟩
 refine af (au tb V [0,1,2,3,1003] [_,_,.int (l.length:Nat),_] [2] U5 Y ⟨aD sn,U⟩ ?_)
 refine cj 4 ?_ ?_<;>intro hb1<;>try simp at hb1
 ·
  refine aj (nx (af (ax (ak tb V [0,1,2,3,1000] [_] U5 ?_))))
  refine ax (lpo (ι:=Nat×Value×(List BA)) (λ(j,_,fz)=>(j<=(G l k).length)/\(fz=dl vs ((l.take k).flatten++(G l k).take j))) (λ(_,vb,fz)=>[OB.row vb 9 1 (fz.map dJ)]) (λ(j,vb,_)=>[(7,.int (j:Nat)),(5,.lit vb)]) (λ(j,_,_)=>(G l k).length-j) [0,1,2,4,3] U3 (0,v,out) ⟨aI,by simp[ah]⟩ ?_)
  rintro⟨j,vb,fz⟩ ⟨fx,bi⟩
  refine af (au tb V (r5 [1004,1006]) (V3 [.ptr [ai (G l k)],_,.int ((G l k).length:Nat),_]) [3,5] U7 Y ⟨bn eC,aD b6,U⟩ ?_)
  refine ln 5 λ_=>?_
  refine cj 6 ?_ ?_<;>intro hb2<;>try simp at hb2
  ·
   refine aj (nx (af (ax (au tb V (r5 [1007]) [_,_,.ptr [ai (G l k)],_,_,.ptr [lS (G (G l k) j)],_,_] [2,5] U6 Y ⟨bn eC,bn bx,U⟩ ?_))))
   refine lZ tb V (r6 [1008]) [_,_,.bool (decide ((G (G l k) j)∈vs)),_,_,_,.bool (decide ((G (G l k) j)∈fz)),_,_] [2,6] U7 Y ⟨Fu hS V (jM V vs (G (G l k) j)) (cO func154),λ_ _ hk Z hl hc=>cQ (jM V fz (G (G l k) j)) (cO func154) Y (nm hS hk) (Z.1) (aq (kB hS Z (mo 0 Y) (hl.dep 4 36 _ Y Y Y hc)) (aq (hl.dep 5 37 _ Y Y Y hc) aP)) (jo V Z),U⟩ ?_
   refine cj 6 ?_ ?_<;>intro aE<;>try simp at aE
   ·
    refine cG (ao 2 tb Y (sy (.rd (ai ([(G (G l k) j)]))) (λh=>ft bx j0 Y (h.get 0 Y) (aK hS _ h.keep h.x _ aV) (jo V h.x)) ?_))
    refine fP (f:=dJ) (m:=2) (s:=41) fz ([(G (G l k) j)]) (λ_=>Y) j6 V hJ0 Y Y Y (lb Y) Y Y (λa w h=>(h.get 0 Y)) (by have:=Gj vs ((l.take k).flatten++(G l k).take j);simp[bi];omega) (by have:=Gj vs ((l.take k).flatten++(G l k).take j);simp[bi];omega) λv2=>?_
    refine ao 1 tb Y (aA [0,2,5,6,7,8] U6 Y ?_)
    refine nx (ln 1 λtF=>?_)
    refine aT tb V [0,2,3,4,1002] [_,.int (j+1:Nat),_] [1] U5 Y ⟨aM,U⟩ ?_
    exact bq (j+1,v2,fz++([(G (G l k) j)])) [1,2,3,4,0] ⟨oz,by rw[dG oz,<-append_assoc,t6,<-bi];simp[aE]⟩
   ·
    refine aj (nx (aT tb V [0,1,2,4,1002] [_,.int (j+1:Nat),_] [1] U5 Y ⟨aM,U⟩ ?_))
    exact bq (j+1,vb,fz) [0,1,2,4,3] ⟨oz,by rw[dG oz,<-append_assoc,t6,<-bi];simp;grind⟩
  ·
   refine aW (nx (aT tb V [0,1,4,1002] [_,.int (k+1:Nat),_] [1] U4 Y ⟨aM,U⟩ ?_))
   exact bq (k+1,vb,fz) [0,1,3,2] ⟨oz,by rw[bi,cS (xs:=G l k) oz,dG oz];simp⟩
 ·
  refine aW (nx (ak tb V [1001] U2 [_] ?_))
  exact tw (λh=>dV hS h (m:=0) (s:=4) Y) (bL 0 (hE:=congrArg (λz=>AV.rd (ai z)) (show out=(dl vs l.flatten)from by rw[ah,cS oz])))
theorem C3 (f:Fr) (b:f.aa.length*48<=140737488351232):Fn prog J 163 [.agg (aY f)] (.rd (ai ((bR f.aa).map Hy.ae))):=by
 refine fE func163 λS w0 hS hJ0=>?_
 refine tw cc (au tb V [1000] [.ptr (aY f),_] [0] [_] Y ⟨cW hS V,U⟩ ?_)
 refine aL (ko bx V Y Y Y (lb Y) λv1=>?_)
 refine ao 1 tb Y (aA [0,2] U2 Y ?_)
 refine nx (af (ak tb V [0,1,1000] [_] U3 ?_))
 refine ax (lpo (ι:=Nat×Value×(List BA)) (λ(k,_,out)=>(k<=f.aa.length)/\(out=(bR (f.aa.take k)).map Hy.ae)/\(out.length<=k)) (λ(_,v,out)=>[OB.row v 9 1 (out.map dJ)]) (λ(k,v,_)=>[(4,.int (k:Nat)),(3,.lit v)]) (λ(k,_,_)=>f.aa.length-k) [1,2,0] [_] (0,v1,([]:List BA)) ⟨aI,by simp[bR],by simp⟩ ?_)
 rintro⟨k,v,out⟩ ⟨aQ,ah,bp⟩
 refine af (au tb V [0,1,2,1002,1004] (V3 [.int (f.aa.length:Nat),_]) [3] U5 Y ⟨aD cT,U⟩ ?_)
 refine ln 3 λ_=>?_
 refine cj 4 ?_ ?_<;>intro hb1<;>try simp at hb1
 ·
  refine aj (nx (af (ax (au tb V [0,1,2,1006] (V3 [.ptr (aN (G f.aa k)),_,_,_]) [3] U4 Y ⟨bn cD,U⟩ ?_))))
  refine cj 3 ?_ ?_<;>intro hb2<;>try simp at hb2
  ·
   refine cG (ao 4 tb Y (sy (.ptr (aN (G f.aa k))) (λh=>cb (i:=(k:Int)) cD Y (h.get 1 Y) (h.get 0 Y) bM (cq (xs:=f.aa) (k:=k) az) Y h.x) ?_))
   refine ao 2 tb Y (sy (.rd (ai ([(G f.aa k).ae]))) (λh=>ft bx j0 Y (h.get 0 Y) (aK hS _ h.keep h.x _ aV) (jo V h.x)) ?_)
   refine fP (f:=dJ) (m:=7) (s:=20) out ([(G f.aa k).ae]) (λ_=>Y) j6 V hJ0 Y Y Y (lb Y) Y Y (λa w h=>(h.get 0 Y)) az az λv2=>?_
   refine ao 1 tb Y (aA [0,2,10,11] U4 Y ?_)
   refine nx (ln 1 λhl2=>?_)
   refine aT tb V [0,2,1002] [_,.int (k+1:Nat),_] [1] U3 Y ⟨aM,U⟩ ?_
   exact bq (k+1,v2,out++([(G f.aa k).ae])) [1,2,0] ⟨oz,by rw[bR,kP oz,ah];simp[bR,hb2],by simp;omega⟩
  ·
   refine aj (nx (aT tb V [0,2,1002] [_,.int (k+1:Nat),_] [1] U3 Y ⟨aM,U⟩ ?_))
   exact bq (k+1,v,out) [0,2,1] ⟨oz,by rw[bR,kP oz,ah];simp[bR,hb2],oz⟩
 ·
  refine aW (nx (ak tb V [1001] U2 [_] ?_))
  exact tw (λh=>dV hS h (m:=0) (s:=2) Y) (bL 0 (hE:=congrArg (λz=>AV.rd (ai z)) (show out=((bR f.aa).map Hy.ae)from by rw[ah,cS oz])))
theorem KG (hs:List Hy) (t:List BA) (b:hs.length<=40):Fn prog J 203 [.rd (bW hs),.rd (ai t)] (.rd (ct (t::(bR hs).map Hy.ac))):=by
 refine fE func203 λS w0 hS hJ0=>?_
 refine tw cc (ln 0 λcx=>?_)
 refine ln 1 λ_=>?_
 refine ak tb V [0,1] [_] U2 ?_
 refine aL (ao 1 tb Y (Ip eC qO V Y Y Y (lb Y) (λ_ _ h=>(h.get 0 Y)) λv1=>?_))
 refine ao 1 tb Y (aA [0,3] U2 Y ?_)
 refine nx (af (ak tb V [0,1,1000] [_] U3 ?_))
 refine ax (lpo (ι:=Nat×Value×(List (List BA))) (λ(k,_,out)=>(k<=hs.length)/\(out=t::(bR (hs.take k)).map Hy.ac)/\(out.length<=k+1)) (λ(_,v,out)=>[OB.row v 22 1 (out.map kG)]) (λ(k,v,_)=>[(6,.int (k:Nat)),(5,.lit v)]) (λ(k,_,_)=>hs.length-k) [1,2,0] [_] (0,v1,[t]) ⟨aI,by simp[bR],by simp⟩ ?_)
 rintro⟨k,v,out⟩ ⟨aQ,ah,bp⟩
 refine af (au tb V [0,1,2,1003] [_,_,.int (hs.length:Nat),_] [2] U4 Y ⟨aD cT,U⟩ ?_)
 refine cj 3 ?_ ?_<;>intro hb1<;>try simp at hb1
 ·
  refine aj (nx (af (ax (au tb V [0,1,2,1005] [_,_,.ptr (aN (G hs k)),_,_,_] [2] U4 Y ⟨bn cD,U⟩ ?_))))
  refine cj 3 ?_ ?_<;>intro hb2<;>try simp at hb2
  ·
   refine cG (ao 3 tb Y (sy (.ptr (aN (G hs k))) (λh=>cb (i:=(k:Int)) cD Y (h.get 1 Y) (h.get 0 Y) bM (cq (xs:=hs) (k:=k) az) Y h.x) ?_))
   refine ao 2 tb Y (sy (.rd (ct ([(G hs k).ac]))) (λh=>ft eC qO Y (h.get 0 Y) (aK hS _ h.keep h.x _ aV) (jo V h.x)) ?_)
   refine fP (f:=kG) (m:=6) (s:=21) out ([(G hs k).ac]) (λ_=>Y) sD V hJ0 Y Y Y (lb Y) Y Y (λa w h=>(h.get 0 Y)) az az λv2=>?_
   refine ao 1 tb Y (aA [0,2,3,9,10] U5 Y ?_)
   refine nx (ln 1 λhl3=>?_)
   refine ln 2 λ_=>?_
   refine aT tb V [0,3,1002] [_,.int (k+1:Nat),_] [1] U3 Y ⟨aM,U⟩ ?_
   exact bq (k+1,v2,out++([(G hs k).ac])) [1,2,0] ⟨oz,by rw[bR,kP oz,ah];simp[bR,hb2],by simp;omega⟩
  ·
   refine aj (nx (aT tb V [0,2,1002] [_,.int (k+1:Nat),_] [1] U3 Y ⟨aM,U⟩ ?_))
   exact bq (k+1,v,out) [0,2,1] ⟨oz,by rw[bR,kP oz,ah];simp[bR,hb2],oz⟩
 ·
  refine aW (nx (ak tb V [1001] U2 [_] ?_))
  exact tw (λh=>dV hS h (m:=0) (s:=4) Y) (bL 0 (hE:=congrArg (λz=>AV.rd (ct z)) (show out=(t::(bR hs).map Hy.ac)from by rw[ah,cS oz])))
end
end
section
open Go.RowKit
section
variable {J:WP} (V:aS J)
include V
theorem Kz (d:Db) (k:Nat) (hn:k<=d.ab.length) (hk0:k<=400) (hz:0<k->(G d.ab (k-1)).aa.length<=40):Fn prog J 165 [.agg (bZ d),.int (k:Nat)] (.rd (ai (j8 d k))):=by
 refine fE func165 λS w0 hS hJ0=>?_
 clear hJ0
 refine aJ tb V [1,1000] [.ptr (bZ d),_] [0] U2 Y ⟨ej hS V,U⟩ ?_
 refine af (qs tb V [0,1,1001] U2 U3 ?_)
 refine cj 2 ?_ ?_<;>intro hb1<;>try simp at hb1
 ·
  refine qs tb V [1000] [_] [_] ?_
  exact tw (λh=>gj h (m:=0) (s:=4) Y) (aU 0 (hE:=congrArg (λz=>AV.rd (ai z)) (show([]:List BA)=(j8 d k)from by simp[j8,hb1])))
 ·
  refine aj (nx (aJ tb V [1001,1006,1007] (V3 [.int ((k:Int)-(1:Int)),.ptr (aY (G d.ab ((k:Int)-(1:Int)).toNat)),_,.rd (ai ((bR (G d.ab ((k:Int)-(1:Int)).toNat).aa).map Hy.ae)),_]) [3,4,6] U3 Y ⟨l2,wD fK,dh hS V (C3 V (G d.ab ((k:Int)-(1:Int)).toNat) (by have:=hz oz;rw[show((k:Int)-1).toNat=k-1 by omega];omega)) (cO func163),U⟩ ?_))
  refine ln 0 λ_=>?_
  refine ln 1 λ_=>?_
  exact aU 2 (hE:=congrArg (λz=>AV.rd (ai z)) (show((bR (G d.ab ((k:Int)-(1:Int)).toNat).aa).map Hy.ae)=(j8 d k)from by rw[j8,if_neg hb1,show((k:Int)-1).toNat=k-1 by omega]))
theorem yH (d:Db) (n:Nat) (s:BA) (hn:n<=d.ab.length) (hz:∀ i,i<n->(G d.ab i).aa.length<=40/\(G d.ab i).bA.length<=40):Fn prog J 156 [.agg (bZ d),.int (n:Nat),.str s] (.bJ [.bool (fo d n s),.bool (iC d n s)]):=by
 refine fE func156 λS w0 hS hJ0=>?_
 clear hJ0
 refine aJ tb V [1,2,1000,1001,1002] [.ptr (bZ d),_,_] [0] U5 Y ⟨ej hS V,U⟩ ?_
 refine af (qs tb V (r5 [1000]) [_] U6 ?_)
 refine ax (lp (ι:=Nat×Bool×Bool) (λ(k,p,q)=>(k<=n)/\(p=fo d k s)/\(q=iC d k s)) (λ(k,p,q)=>[(8,.int (k:Nat)),(6,.bool p),(7,.bool q)]) (λ(k,_,_)=>n-k) [0,1,2,5,3,4] U3 (0,false,false) ⟨aI,by simp[fo],by simp[iC]⟩ ?_)
 rintro⟨k,p,q⟩ ⟨aQ,ah,bp⟩
 refine af (qs tb V (r6 [1002]) U3 U7 ?_)
 refine cj 6 ?_ ?_<;>intro hb1<;>try simp at hb1
 ·
  refine aj (nx (af (ax (aJ tb V [0,1,2,3,5,1011] (V5 [.ptr (aY (G d.ab k)),_,_,_,_,_,_]) [5] U6 Y ⟨cN fK (hk:=λ(aF:(p==false)=true)=>by(try simp at aF);first | omega | (simp;omega) | grind[aC]),U⟩ ?_))))
  refine aJ tb V (r6 [1001,1005,1006]) (V3 [.ptr (aY (G d.ab k)),_,.rd (bW ((G d.ab k).aa++(G d.ab k).bA)),_]) [3,5] U9 Y ⟨bn fK,dh hS V (vm V (G d.ab k) (by have:=hz k oz;omega)) (cO func158),U⟩ ?_
  refine ln 6 λ_=>?_
  refine ln 7 λ_=>?_
  refine qs tb V (r6 [8,1000]) [_] U8 ?_
  refine ax (lp (ι:=Nat×Bool) (λ(j,q2)=>(j<=((G d.ab k).aa++(G d.ab k).bA).length)/\(q2=(iC d k s|| (((G d.ab k).aa++(G d.ab k).bA).take j).any λh=>decide (h.ae=s)))) (λ(j,q2)=>[(10,.int (j:Nat)),(7,.bool q2)]) (λ(j,_)=>((G d.ab k).aa++(G d.ab k).bA).length-j) [0,1,2,3,5,6,7,4] U6 (0,q) ⟨aI,by simp[bp]⟩ ?_)
  rintro⟨j,q2⟩ ⟨fx,bi⟩
  refine af (aJ tb V (r8 [1003]) [_,_,.int (((G d.ab k).aa++(G d.ab k).bA).length:Nat),_] [2] U9 Y ⟨aD cT,U⟩ ?_)
  refine cj 8 ?_ ?_<;>intro hb2<;>try simp at hb2
  ·
   refine aj (nx (af (ax (dI tb V (r7 [1010]) (V4 [.ptr (aN (G ((G d.ab k).aa++(G d.ab k).bA) j)),_,_,_,_,_,_]) [4] U8 Y ⟨cN cD (hk:=λ(aF:(q2==false)=true)=>by(try simp at aF);first | omega | (simp;omega) | grind[aC]),U⟩ ?_))))
   refine nx (dI tb V (r6 [7,1002]) [_,.int (j+1:Nat),_] [1] U8 Y ⟨aM,U⟩ ?_)
   exact dO (j+1,q2|| (decide (((G ((G d.ab k).aa++(G d.ab k).bA) j).ae)=s))) (r6 [7,6]) ⟨by simp;omega,by rw[sC (by simp;omega),<-Bool.or_assoc,<-bi]⟩
  ·
   refine aW (nx (dI tb V [0,1,2,4,7,1002] [_,.int (k+1:Nat),_] [1] U6 Y ⟨aM,U⟩ ?_))
   exact dO (k+1,p|| (decide (((G d.ab k).ae)=s)),q2) [0,1,2,5,3,4] ⟨oz,by rw[ah,fo,fo,sC oz],by rw[bi,cS (xs:=((G d.ab k).aa++(G d.ab k).bA)) (by simp;omega),iC,iC,sC oz]⟩
 ·
  refine aW (nx (qs tb V [1002,1003] U4 U2 ?_))
  exact aZ (λa w h=>dX (m:=0) (k:=1) Y h Y Y (eB (by rw[ah,show k=n by omega])) (eB (by rw[bp,show k=n by omega])))
theorem KN (x y:Pr)  :Fn prog J 253 [.agg (aR x),.agg (aR y)] (.bool (cB x y)):=by
 refine fE func253 λS w0 hS hJ0=>?_
 clear hJ0
 refine aJ tb V [1000,1001] [.ptr (aR x),.ptr (aR y),_] [0,1] U2 Y ⟨ej hS V,ej hS V,U⟩ ?_
 refine qs tb V [1019] [_,_,_,_,_,_,_,_,_,_,_,_,_,_,_,_,_,_,_,_] [_] ?_
 exact aU 0 (hE:=eB (by first | rfl | grind[aC]))
theorem Dc (l:List Pr) (p:Pr) (b:(l.length+1)*32<=140737488351264):Fn prog J 236 [.rd (bI l),.agg (aR p)] (.rd (bI (fA l p))):=by
 refine fE func236 λS w0 hS hJ0=>?_
 refine tw cc (ln 0 λcx=>?_)
 refine au tb V [0,1000] [.ptr (aR p),_] [0] U2 Y ⟨cW hS V,U⟩ ?_
 refine ak tb V [0,1,1000] [_] U3 ?_
 refine af (ax (lpo (ι:=Nat) (λk=>(k<=l.length)/\(∀ j,j<k->cB (G l j) p=true)) (λ_=>[]) (λk=>[(5,.int (k:Nat))]) (λk=>l.length-k) [0,1,2] U2 0 (show(0<=l.length)/\(∀ j,j<0->cB (G l j) p=true)from by first | trivial | grind) ?_))
 rintro k ⟨aQ,ah⟩
 refine af (au tb V [0,1,2,1011] [_,_,.int (l.length:Nat),_,_,_,_,.ptr (aR (G l k)),_,_,.bool (cB (G l k) p),_] [2,7,10] U4 Y ⟨aD fH,cN de (hk:=λ(aF:((decide ((k:Int)< (l.length:Int)))==true)=true)=>by(try simp at aF);first | omega | (simp;omega) | grind[aC]),bN hS V (KN V (G l k) p) (cO func253),U⟩ ?_)
 refine cj 3 ?_ ?_<;>intro hb1<;>try simp at hb1
 ·
  refine aj (nx (ax (aT tb V [0,1,1002] [_,.int (k+1:Nat),_] [1] U3 Y ⟨aM,U⟩ ?_)))
  exact bq (k+1) [0,1,2] ⟨oz,cF ah (by simp_all)⟩
 ·
  refine aW (nx (af (au tb V [0,1,2,1011] [_,_,.int (l.length:Nat),_,_,_,_,.ptr (aR (G l k)),_,_,.bool (decide ((G l k).a=p.a)&&decide ((G l k).b=p.b)),_] [2,7,10] U4 Y ⟨aD fH,cN de (hk:=λ(aF:((decide ((k:Int)< (l.length:Int)))==true)=true)=>by(try simp at aF);first | omega | (simp;omega) | grind[aC]),λ_ _ _ Z hl hc=>Bk rf Y (hl.dep 8 28 _ Y Y Y hc) (hl.dep 9 29 _ Y Y Y hc) Z,U⟩ ?_)))
  refine cj 3 ?_ ?_<;>intro hb2<;>try simp at hb2
  ·
   refine ak tb V [1001] U2 [_] ?_
   exact bL 0 (hE:=congrArg (λz=>AV.rd (bI z)) (show l=(fA l p)from by rw[Bi l p k aQ ah (by grind),if_pos ⟨hb2.1,by simp[ib,hb2]⟩]))
  ·
   refine aj (nx (af (λa w h=>nZ (id:=6) (t:=70) (e:=162) (size:=2) (bytes:=32) (i0:=0) (dg:=12) (d:=4) (ch:=[(4,((l.take k).map aR)),(7,(([p]).map aR)),(11,((l.drop k).map aR))]) (λix'=>([.any,.rd (bI l),.int (k:Nat),.rd (bI (l.take k)),.any,.agg (aR p),.rd (bI ([p])),.any,.rd (bI l),.int (k:Nat),.rd (bI (l.drop k)),.any,.any]:List AV).getD ix' .any) (λ_=>true) [] (((l.take k)++([p])++(l.drop k)).map aR) yz ?Tl V hJ0 h cP Y Y Y Y ⟨?_,?_,?_,?_,?_,?_,?_,?_,?_,?_,?_,?_,?_,U⟩ trivial (λv1=>?QN))))
   case Tl=>
    refine Row.mk' u4 ⟨_,Y,Y,Y,Y,Y⟩ ⟨?WH,?WI,?WJ,U⟩ ⟨_,_,_,_,Y,Y,Y,Y,Y,Y,Y,Y,Y⟩ Y Y Y
    case WH=>exact⟨_,_,_,_,Y,Y,Y,Y,Y,Y,Y,Y,je (f:=aR) (λ_=>rfl),(by have hm:maxLen=9223372036854775807:=Y;simp[upto];first | omega | (simp;omega) | grind[aC]),(by have hm:maxLen=9223372036854775807:=Y;simp[upto];first | omega | (simp;omega) | grind[aC]),λ_ _ _ _ _ hl=>(hl.dep 3 36 _ Y Y Y Y)⟩
    case WI=>exact⟨_,_,_,_,Y,Y,Y,Y,Y,Y,Y,Y,je (f:=aR) (λ_=>rfl),(by have hm:maxLen=9223372036854775807:=Y;simp[upto];first | omega | (simp;omega) | grind[aC]),(by have hm:maxLen=9223372036854775807:=Y;simp[upto];first | omega | (simp;omega) | grind[aC]),λ_ _ _ _ _ hl=>(hl.dep 6 39 _ Y Y Y Y)⟩
    case WJ=>exact⟨_,_,_,_,Y,Y,Y,Y,Y,Y,Y,Y,je (f:=aR) (λ_=>rfl),(by have hm:maxLen=9223372036854775807:=Y;simp[upto];first | omega | (simp;omega) | grind[aC]),(by have hm:maxLen=9223372036854775807:=Y;simp[upto];first | omega | (simp;omega) | grind[aC]),λ_ _ _ _ _ hl=>(hl.dep 10 43 _ Y Y Y Y)⟩
   exact λh=>bB Y h
   exact λ_ _=>⟨Y,λ_ _ _ Z hl _=>b8 Y (hl.env 0 0 _ Y Y) Z⟩
   exact λ_ _=>⟨Y,λ_ _ _ Z hl _=>b8 Y (hl.env 2 5 _ Y Y) Z⟩
   exact λ_ _=>⟨Y,λ_ _ _ Z hl _=>iH (ys:=l.take k) (lo:=0) (hi:=k) drop_zero de (λ_=>Y) Y (hl.dep 1 34 _ Y Y Y Y) Y (hl.dep 2 35 _ Y Y Y Y) az az Z⟩
   exact λh=>bB Y h
   exact λ_ _=>⟨Y,λ_ _ _ Z hl _=>jB ju Y (hl.env 1 3 _ Y Y) aV Z⟩
   exact λ_ _=>⟨Y,λ_ _ hk Z hl _=>mY de Cd dz Y Y (hl.dep 5 38 _ Y Y Y Y) (aK hS _ hk Z _ aV) (jo V Z)⟩
   exact λh=>bB Y h
   exact λ_ _=>⟨Y,λ_ _ _ Z hl _=>b8 Y (hl.env 0 0 _ Y Y) Z⟩
   exact λ_ _=>⟨Y,λ_ _ _ Z hl _=>b8 Y (hl.env 2 5 _ Y Y) Z⟩
   exact λ_ _=>⟨Y,λ_ _ _ Z hl _=>iH (ys:=l.drop k) (lo:=k) (hi:=l.length) (by rw[take_length]) de (λ_=>Y) Y (hl.dep 8 41 _ Y Y Y Y) (hl.dep 9 42 _ Y Y Y Y) Y az az Z⟩
   exact λh=>bB Y h
   exact λh=>bB Y h
   clear a w h
   exact nx (tw (λh=>dV hS h (m:=0) (s:=4) Y) (bL 0 (hE:=congrArg (λz=>AV.rd (bI z)) (show((l.take k)++([p])++(l.drop k))=(fA l p)from by rw[Bi l p k aQ ah (by grind),if_neg (by simp[ib];grind)];simp))))
theorem Kt (ws zs:List Pr) (b:(ws.length+zs.length+1)*32<=140737488351264):Fn prog J 205 [.rd (bI ws),.rd (bI zs)] (.rd (bI (mR ws zs))):=by
 refine fE func205 λS w0 hS hJ0=>?_
 refine tw cc (ln 0 λcx=>?_)
 refine ln 1 λ_=>?_
 refine ak tb V [0,1] [_] U2 ?_
 refine aL (ko de V Y Y Y (lb Y) λv1=>?_)
 refine ao 1 tb Y (aA [0,2,3] U3 Y ?_)
 refine nx (af (tw (λh=>dV hS h (m:=0) (s:=5) Y) (ak tb V [0,1,2,1000] [_] U4 ?_)))
 refine ax (lpo (ι:=Nat×(List Pr)) (λ(k,out)=>(k<=ws.length)/\(out=(ws.take k).foldl fA [])/\(out.length<=k)) (λ(_,_)=>[]) (λ(k,out)=>[(6,.int (k:Nat)),(5,.rd (bI out))]) (λ(k,_)=>ws.length-k) [1,2,3,0] U2 (0,[]) ⟨aI,by simp,by simp⟩ ?_)
 rintro⟨k,out⟩ ⟨aQ,ah,bp⟩
 refine af (au tb V [0,1,2,3,1003] [_,_,.int (ws.length:Nat),_] [2] U5 Y ⟨aD fH,U⟩ ?_)
 refine ln 3 λ_=>?_
 refine cj 4 ?_ ?_<;>intro hb1<;>try simp at hb1
 ·
  refine aj (nx (af (ax (aT tb V [0,1,2,1005,1006] (V3 [.ptr (aR (G ws k)),_,.rd (bI (fA out (G ws k))),_]) [3,5] U5 Y ⟨bn de,bN hS V (Dc V out (G ws k) (by exact Nat.le_trans (Nat.mul_le_mul_right 32 oz) b)) (cO func236),U⟩ ?_))))
  refine nx (ln 3 λtF=>?_)
  refine aT tb V [0,1,4,1002] [_,.int (k+1:Nat),_] [1] U4 Y ⟨aM,U⟩ ?_
  exact bq (k+1,(fA out (G ws k))) [0,1,3,2] ⟨oz,by rw[ah,Er oz],by have:=Hc out (G ws k);omega⟩
 ·
  refine aW (nx (af (ak tb V [1,3,1000] [_] U3 ?_)))
  refine ax (lpo (ι:=Nat×(List Pr)) (λ(j,fz)=>(j<=zs.length)/\(fz=(ws++zs.take j).foldl fA [])/\(fz.length<=ws.length+j)) (λ(_,_)=>[]) (λ(j,fz)=>[(7,.int (j:Nat)),(5,.rd (bI fz))]) (λ(j,_)=>zs.length-j) [0,2,1] [_] (0,out) ⟨aI,by rw[ah,cS oz];simp,oz⟩ ?_)
  rintro⟨j,fz⟩ ⟨fx,bi,iN⟩
  refine af (au tb V [0,1,2,1003] [_,_,.int (zs.length:Nat),_] [2] U4 Y ⟨aD fH,U⟩ ?_)
  refine ln 2 λ_=>?_
  refine cj 3 ?_ ?_<;>intro hb2<;>try simp at hb2
  ·
   refine aj (nx (af (ax (aT tb V [0,1,1005,1006] (V3 [.ptr (aR (G zs j)),_,.rd (bI (fA fz (G zs j))),_]) [3,5] U4 Y ⟨bn de,bN hS V (Dc V fz (G zs j) (by exact Nat.le_trans (Nat.mul_le_mul_right 32 oz) b)) (cO func236),U⟩ ?_))))
   refine nx (ln 2 λzX=>?_)
   refine aT tb V [0,3,1002] [_,.int (j+1:Nat),_] [1] U3 Y ⟨aM,U⟩ ?_
   exact bq (j+1,(fA fz (G zs j))) [0,2,1] ⟨oz,by rw[bi,dG oz,<-append_assoc];simp only[List.foldl_append,List.foldl_cons,List.foldl_nil],by have:=Hc fz (G zs j);omega⟩
  ·
   refine aW (nx (ak tb V [1001] U2 [_] ?_))
   exact bL 0 (hE:=congrArg (λz=>AV.rd (bI z)) (show fz=(mR ws zs)from by rw[bi,cS (xs:=zs) oz];rfl))
end
theorem KL {J:WP} (V:aS J) (d:Db) (k:Nat) (y:Hy) (bs:List Hy) (dm:Bool) (hk0:k<d.ab.length) (hf:d.ab.length<=400) (hz:∀ i,i<k+1->(G d.ab i).aa.length<=40/\(G d.ab i).bA.length<=40) (hb:bs.length<=80):Fn prog J 159 [.agg (bZ d),.int (k:Nat),.agg (aN y),.rd (bW bs),.bool dm] (.int (eN d k y bs dm)):=by
 refine fE func159 λS w0 hS hJ0=>?_
 refine tw cc (ln 3 λcx=>?_)
 refine au tb V [1,3,4,1000,1001] [.ptr (bZ d),.ptr (aN y),_] [0,1] U5 Y ⟨cW hS V,cW hS V,U⟩ ?_
 refine au tb V (r5 [1001,1003]) [_,_,.int (y.ac.length:Nat),_] [2] U7 Y ⟨aD b6,U⟩ ?_
 refine ln 5 λ_=>?_
 refine af (au tb V [0,1,3,4,1032] [_,_,.bool (fW y.ae),_,_,_,_,_,_,_,_,_,_,_,_,_,_,_,_,_,_,_,_,_,_,_,_,_,_,_,_,_,_] [2] U5 Y ⟨bN hS V (yG V y.ae) (cO func155),U⟩ ?_)
 refine cj 4 ?_ ?_<;>intro hb1
 ·
  replace hb1:gY y dm=true:=hb1
  refine ak tb V [1000] [_] [_] ?_
  exact bL 0 (hE:=eI (by subst_vars;grind[eN]))
 ·
  replace hb1:gY y dm=false:=hb1
  have rK:=EK hb1
  refine aj (nx (au tb V [0,1,2,3,1009] [_,_,.int (k+1:Nat),_,_,.bJ [.bool (fo d (k+1) y.ae),.bool (iC d (k+1) y.ae)],_,_,_,_,_] [2,5] U5 Y ⟨aM,bN hS V (yH V d (k+1) y.ae az (hz)) (cO func156),U⟩ ?_))
  refine af (au tb V [0,1,2,3,1006] (V5 [.bool (fG d y.ae),_]) [5] U5 Y ⟨bN hS V (yI V d y.ae) (cO func157),U⟩ ?_)
  refine cj 4 ?_ ?_<;>intro hb2
  ·
   replace hb2:(fo d (k+1) y.ae||fG d y.ae)=true:=hb2
   refine ak tb V [1000] [_] [_] ?_
   exact bL 0 (hE:=eI (by subst_vars;grind[eN]))
  ·
   replace hb2:(fo d (k+1) y.ae||fG d y.ae)=false:=hb2
   refine aj (nx (af (ak tb V [0,1,2,3,1000] [_] U5 ?_)))
   refine ax (lpo (ι:=Nat) (λj=>(j<=bs.length)/\((bs.take j).any (kS y)=false)) (λ_=>[]) (λj=>[(14,.int (j:Nat))]) (λj=>bs.length-j) (r5 []) U4 0 ⟨aI,Y⟩ ?_)
   rintro j ⟨aQ,ah⟩
   refine af (au tb V (r5 [1003]) [_,_,.int (bs.length:Nat),_] [2] U6 Y ⟨aD cT,U⟩ ?_)
   refine cj 5 ?_ ?_<;>intro aE<;>try simp at aE
   ·
    refine aj (nx (af (ax (au tb V (r5 [1007]) [_,_,.ptr (aN (G bs j)),_,_,_,_,_] [2] U6 Y ⟨bn cD,U⟩ ?_))))
    refine cj 5 ?_ ?_<;>intro bh<;>try simp at bh
    ·
     have q4:=mj (p:=kS y) (xs:=bs) (k:=j) oz (by simpa [kS]using bh)
     refine ak tb V [1000] [_] [_] ?_
     exact bL 0 (hE:=eI (by subst_vars;grind[eN]))
    ·
     refine aj (nx (aT tb V [0,1,2,3,1002] [_,.int (j+1:Nat),_] [1] U5 Y ⟨aM,U⟩ ?_))
     exact bq (j+1) (r5 []) ⟨oz,ml oz ah (by simpa [kS]using bh)⟩
   ·
    have e3:=mn (p:=kS y) ah oz
    refine aW (nx (af (au tb V [0,1,2,3,1021] (V7 [.ptr [lS (G y.ac 0)],_,.bool (decide ((G y.ac 0)∈d.bH)),_,_,_,_,_,_,.ptr [lS (G y.ac 1)],_,.bool (decide ((G y.ac 1)∈d.vars)),_,_,_]) [7,9,16,18] U5 Y ⟨cN (k:=0) bx (hk:=λ(aF:(y.be==true)=true)=>by(try simp at aF);omega),bN hS V (jM V d.bH (G y.ac 0)) (cO func154),cN (k:=1) bx (hk:=λ(aF:((y.be==true)&& ((!(decide ((G y.ac 0)∈d.bH)))==false))=true)=>by(try simp at aF);have:=im hb1 (by simp_all);omega),bN hS V (jM V d.vars (G y.ac 1)) (cO func154),U⟩ ?_)))
    refine cj 4 ?_ ?_<;>intro bV
    ·
     replace bV:oF d y=true:=bV
     refine ak tb V [1000] [_] [_] ?_
     exact bL 0 (hE:=eI (by subst_vars;grind[eN]))
    ·
     replace bV:oF d y=false:=bV
     refine aj (nx (af (ak tb V [0,1,2,3,1002] U3 U5 ?_)))
     refine cj 4 ?_ ?_<;>intro eM<;>try simp at eM
     ·
      refine au tb V [0,1,2,3,1004] (V3 [.int (iz d y.ac),_]) [3] U5 Y ⟨bN hS V (C9 V d y.ac az) (cO func160),U⟩ ?_
      refine ak tb V (r5 [1001]) U2 U6 ?_
      refine cj 5 ?_ ?_<;>intro fM
      ·
       refine ak tb V [1001] U2 [_] ?_
       exact bL 0 (hE:=eI (by subst_vars;grind[eN]))
      ·
       refine aj (nx (aL (ko cD V Y Y Y (lb Y) λv1=>?_)))
       refine ao 1 tb Y (aA [0,2,3,4,5] U5 Y ?_)
       refine nx (af (ak tb V (r5 [1000]) [_] U6 ?_))
       refine ax (lpo (ι:=Nat×Value×(List Hy)) (λ(i,_,others)=>(i<=k)/\(others=iV d i)/\(others.length<=80*i)) (λ(_,vo,others)=>[OB.row vo 119 3 (others.map aN)]) (λ(i,vo,_)=>[(17,.int (i:Nat)),(16,.lit vo)]) (λ(i,_,_)=>k-i) [1,2,3,4,5,0] U4 (0,v1,([]:List Hy)) ⟨aI,Y,aI⟩ ?_)
       rintro⟨i,vo,others⟩ ⟨fx,bi,iN⟩
       refine af (ak tb V (r6 [1002]) U3 U7 ?_)
       refine cj 6 ?_ ?_<;>intro iA<;>try simp at iA
       ·
        refine aj (nx (af (ax (cG (ao 4 tb Y (sy (.ptr (aY (G d.ab i))) (λh=>cb (i:=(i:Int)) fK Y (h.get 1 Y) (h.get 0 Y) bM (cq (xs:=d.ab) (k:=i) az) Y h.x) ?_))))))
        refine ao 1 tb Y (sy (.rd (bW ((G d.ab i).aa++(G d.ab i).bA))) (λh=>cQ (vm V (G d.ab i) (by have:=hz i oz;omega)) (cO func158) Y (aK hS _ h.keep h.x) (h.x.1) (aq (h.get 0 Y) aP) (jo V h.x)) ?_)
        refine fP (f:=aN) (m:=6) (s:=126) others ((G d.ab i).aa++(G d.ab i).bA) (λ_=>Y) nl V hJ0 Y Y Y (lb Y) Y Y (λa w h=>(h.get 0 Y)) (by first | (have:=hz i oz;simp;omega) | (have:=hz i oz;refine km ?_;simp;omega)) (by first | (have:=hz i oz;simp;omega) | (have:=hz i oz;refine km ?_;simp;omega)) λv2=>?_
        refine ao 1 tb Y (aA [0,2,6,9,10,11,12,13] U8 Y ?_)
        refine nx (ln 1 λhl3=>?_)
        refine ln 2 λ_=>?_
        refine aT tb V [0,3,4,5,6,1002] [_,.int (i+1:Nat),_] [1] U6 Y ⟨aM,U⟩ ?_
        exact bq (i+1,v2,others++((G d.ab i).aa++(G d.ab i).bA)) [1,2,3,4,5,0] ⟨oz,by rw[rY oz,bi],by have:=hz i oz;simp;omega⟩
       ·
        have pZ:i=k:=by omega
        rw[pZ]at bi iN
        refine aW (nx (af (tw (λh=>dV hS h (m:=5) (s:=16) Y) (ak tb V [0,2,4,1001] U2 U4 ?_))))
        refine ln 0 λ_=>?_
        refine cj 3 ?_ ?_<;>intro g5<;>try simp at g5
        ·
         have Pm:=im hb1 g5
         refine af (λa w h=>nZ (id:=24) (t:=69) (e:=119) (size:=3) (bytes:=48) (i0:=0) (dg:=5) (d:=18) (ch:=[(2,(others.map aN)),(4,(bs.map aN))]) (λix'=>([.any,.rd (bW others),.any,.rd (bW bs),.any,.any]:List AV).getD ix' .any) (λ_=>true) [(0,16,.rd (bW others)),(1,3,.rd (bW bs)),(2,7,.ptr (aN y))] ((others++bs).map aN) yz ?Tj V hJ0 h cP Y Y Y Y ⟨?_,?_,?_,?_,?_,?_,U⟩ ⟨Y,Y,Y,Y,Y,Y,U⟩ (λv3=>?Xs))
         case Tj=>
          refine Row.mk' nl ⟨_,Y,Y,Y,Y,Y⟩ ⟨?WD,?WE,U⟩ ⟨_,_,_,_,Y,Y,Y,Y,Y,Y,Y,Y,Y⟩ Y Y Y
          case WD=>exact⟨_,_,_,_,Y,Y,Y,Y,Y,Y,Y,Y,je (f:=aN) (λ_=>rfl),(by have hm:maxLen=9223372036854775807:=Y;simp[upto];first | (have:=hz i oz;simp;omega) | (have:=hz i oz;refine km ?_;simp;omega)),(by have hm:maxLen=9223372036854775807:=Y;simp[upto];first | (have:=hz i oz;simp;omega) | (have:=hz i oz;refine km ?_;simp;omega)),λ_ _ _ _ _ hl=>(hl.dep 1 137 _ Y Y Y Y)⟩
          case WE=>exact⟨_,_,_,_,Y,Y,Y,Y,Y,Y,Y,Y,je (f:=aN) (λ_=>rfl),(by have hm:maxLen=9223372036854775807:=Y;simp[upto];first | (have:=hz i oz;simp;omega) | (have:=hz i oz;refine km ?_;simp;omega)),(by have hm:maxLen=9223372036854775807:=Y;simp[upto];first | (have:=hz i oz;simp;omega) | (have:=hz i oz;refine km ?_;simp;omega)),λ_ _ _ _ _ hl=>(hl.dep 3 139 _ Y Y Y Y)⟩
         exact λh=>bB Y h
         exact λ_ _=>⟨Y,λ_ _ _ Z hl _=>b8 Y (hl.env 0 16 _ Y Y) Z⟩
         exact λh=>bB Y h
         exact λ_ _=>⟨Y,λ_ _ _ Z hl _=>b8 Y (hl.env 1 3 _ Y Y) Z⟩
         exact λh=>bB Y h
         exact λh=>bB Y h
         clear a w h
         refine nx (af (tw (λh=>dV hS h (m:=0) (s:=18) Y) (ak tb V [0,1,2,3,1000] [_] U5 ?_)))
         refine ln 0 λ_=>?_
         refine ax (lpo (ι:=Nat) (λj=>(j<=(others++bs).length)/\(((others++bs).take j).any (jz y)=false)) (λ_=>[]) (λj=>[(19,.int (j:Nat))]) (λj=>(others++bs).length-j) (r5 []) U4 0 ⟨aI,Y⟩ ?_)
         rintro j ⟨ri,jO⟩
         refine af (au tb V (r5 [1003]) [_,_,.int ((others++bs).length:Nat),_] [2] U6 Y ⟨aD cT,U⟩ ?_)
         refine cj 5 ?_ ?_<;>intro io<;>try simp at io
         ·
          refine aj (nx (af (ax (au tb V (r5 [1006,1021]) [_,_,.ptr (aN (G (others++bs) j)),_,_,_,.rd (ai (y.ac.drop 1)),.bool (gu (G (others++bs) j) (y.ac.drop 1)),_,_,_,.ptr (aN (G (others++bs) j)),_,_,.ptr [lS (G ((G (others++bs) j).ac) 0)],_,_,_,.ptr [lS (G y.ac 0)],_,_,_] [2,6,7,11,14,18] U7 Y ⟨bn cD,λ_ _ _ Z hl _=>iH (ys:=y.ac.drop 1) (lo:=1) (hi:=y.ac.length) (by rw[take_length]) bx (λ_=>Y) Y (hl.dep 5 152 _ Y Y Y Y) (Rel.aG (.int .i64 1)) Y az az Z,bN hS V (sL V (G (others++bs) j) (y.ac.drop 1)) (cO func200),cN cD (hk:=λ(aF:((gu (G (others++bs) j) (y.ac.drop 1))==true)=true)=>by(try simp at aF);first | omega | (simp;omega) | grind[aC]),cN (k:=0) bx (hk:=λ(aF:((gu (G (others++bs) j) (y.ac.drop 1))==true)=true)=>by(try simp at aF);have:=Gk aF;omega),cN (k:=0) bx (hk:=λ(aF:((gu (G (others++bs) j) (y.ac.drop 1))==true)=true)=>by(try simp at aF);first | omega | (simp;omega) | grind[aC]),U⟩ ?_))))
          refine ln 5 λ_=>?_
          refine cj 6 ?_ ?_<;>intro ll<;>try simp at ll
          ·
           have Hj:=mj (p:=jz y) (xs:=others++bs) (k:=j) (by simp;omega) (by simpa [jz]using ll)
           refine ak tb V [1000] [_] [_] ?_
           exact bL 0 (hE:=eI (by subst_vars;grind[eN]))
          ·
           refine aj (nx (aT tb V [0,1,2,3,1002] [_,.int (j+1:Nat),_] [1] U5 Y ⟨aM,U⟩ ?_))
           exact bq (j+1) (r5 []) ⟨by simp;omega,ml (by simp;omega) jO (by simp[jz];grind)⟩
         ·
          have e10:=mn (p:=jz y) jO (by simp;omega)
          refine aW (nx (ak tb V [1,2,3,1000] [_] U4 ?_))
          refine ax (lpo (ι:=Nat) (λj=>(j<=bs.length)/\((bs.take j).any (gZ y)=false)) (λ_=>[]) (λj=>[(20,.int (j:Nat))]) (λj=>bs.length-j) [0,1,2,3] U3 0 ⟨aI,Y⟩ ?_)
          rintro j ⟨MG,s8⟩
          refine af (au tb V [0,1,2,3,1003] [_,_,.int (bs.length:Nat),_] [2] U5 Y ⟨aD cT,U⟩ ?_)
          refine cj 4 ?_ ?_<;>intro nH<;>try simp at nH
          ·
           refine aj (nx (af (ax (au tb V [0,1,2,3,1006,1007] [_,_,.ptr (aN (G bs j)),_,_,_,.rd (ai (y.ac.drop 1)),.bool (gu (G bs j) (y.ac.drop 1))] [2,6,7] U6 Y ⟨bn cD,λ_ _ _ Z hl _=>iH (ys:=y.ac.drop 1) (lo:=1) (hi:=y.ac.length) (by rw[take_length]) bx (λ_=>Y) Y (hl.dep 5 180 _ Y Y Y Y) (Rel.aG (.int .i64 1)) Y az az Z,bN hS V (sL V (G bs j) (y.ac.drop 1)) (cO func200),U⟩ ?_))))
           refine ln 4 λ_=>?_
           refine cj 5 ?_ ?_<;>intro lR<;>try simp at lR
           ·
            have Hk:=mj (p:=gZ y) (xs:=bs) (k:=j) oz (by simpa [gZ]using lR)
            refine ak tb V [1000] [_] [_] ?_
            exact bL 0 (hE:=eI (by subst_vars;grind[eN]))
           ·
            refine aj (nx (aT tb V [0,1,2,1002] [_,.int (j+1:Nat),_] [1] U4 Y ⟨aM,U⟩ ?_))
            exact bq (j+1) [0,1,2,3] ⟨oz,ml oz s8 (by simpa [gZ]using lR)⟩
          ·
           have e12:=mn (p:=gZ y) s8 oz
           refine aW (nx (af (ak tb V [0,2,1000] [_] U3 ?_)))
           refine ax (lpo (ι:=Nat) (λj=>(j<=others.length)/\((others.take j).any (fL y)=false)) (λ_=>[]) (λj=>[(21,.int (j:Nat))]) (λj=>others.length-j) [0,1,2] U2 0 ⟨aI,Y⟩ ?_)
           rintro j ⟨zh,lL⟩
           refine af (au tb V [0,1,2,1003] [_,_,.int (others.length:Nat),_] [2] U4 Y ⟨aD cT,U⟩ ?_)
           refine cj 3 ?_ ?_<;>intro pX<;>try simp at pX
           ·
            refine aj (nx (af (ax (au tb V [0,1,2,1016] [_,_,.ptr (aN (G others j)),_,_,_,_,_,_,_,_,.ptr (aN (G others j)),_,_,.bool (kX (G others j) y),_,_] [2,11,14] U4 Y ⟨bn cD,cN cD (hk:=λ(aF:((decide (((G others j).ae)=y.ae))==true)=true)=>by(try simp at aF);first | omega | (simp;omega) | grind[aC]),bN hS V (vn V (G others j) y) (cO func201),U⟩ ?_))))
            refine cj 3 ?_ ?_<;>intro lT<;>try simp at lT
            ·
             have Bj:=mj (p:=fL y) (xs:=others) (k:=j) oz (by simpa [fL]using lT)
             refine ak tb V [1000] [_] [_] ?_
             exact bL 0 (hE:=eI (by subst_vars;grind[eN]))
            ·
             refine aj (nx (aT tb V [0,1,1002] [_,.int (j+1:Nat),_] [1] U3 Y ⟨aM,U⟩ ?_))
             exact bq (j+1) [0,1,2] ⟨oz,ml oz lL (by simp[fL];grind)⟩
           ·
            have e14:=mn (p:=fL y) lL oz
            refine aW (nx (ak tb V [1000] [_] [_] ?_))
            exact bL 0 (hE:=eI (by subst_vars;grind[eN]))
        ·
         refine aj (nx (af (ak tb V [0,2,1000] [_] U3 ?_)))
         refine ax (lpo (ι:=Nat) (λj=>(j<=others.length)/\((others.take j).any (fL y)=false)) (λ_=>[]) (λj=>[(21,.int (j:Nat))]) (λj=>others.length-j) [0,1,2] U2 0 ⟨aI,Y⟩ ?_)
         rintro j ⟨zh,lL⟩
         refine af (au tb V [0,1,2,1003] [_,_,.int (others.length:Nat),_] [2] U4 Y ⟨aD cT,U⟩ ?_)
         refine cj 3 ?_ ?_<;>intro pX<;>try simp at pX
         ·
          refine aj (nx (af (ax (au tb V [0,1,2,1016] [_,_,.ptr (aN (G others j)),_,_,_,_,_,_,_,_,.ptr (aN (G others j)),_,_,.bool (kX (G others j) y),_,_] [2,11,14] U4 Y ⟨bn cD,cN cD (hk:=λ(aF:((decide (((G others j).ae)=y.ae))==true)=true)=>by(try simp at aF);first | omega | (simp;omega) | grind[aC]),bN hS V (vn V (G others j) y) (cO func201),U⟩ ?_))))
          refine cj 3 ?_ ?_<;>intro lT<;>try simp at lT
          ·
           have Bj:=mj (p:=fL y) (xs:=others) (k:=j) oz (by simpa [fL]using lT)
           refine ak tb V [1000] [_] [_] ?_
           exact bL 0 (hE:=eI (by subst_vars;grind[eN]))
          ·
           refine aj (nx (aT tb V [0,1,1002] [_,.int (j+1:Nat),_] [1] U3 Y ⟨aM,U⟩ ?_))
           exact bq (j+1) [0,1,2] ⟨oz,ml oz lL (by simp[fL];grind)⟩
         ·
          have e14:=mn (p:=fL y) lL oz
          refine aW (nx (ak tb V [1000] [_] [_] ?_))
          exact bL 0 (hE:=eI (by subst_vars;grind[eN]))
     ·
      refine aj (nx (aL (ko cD V Y Y Y (lb Y) λv4=>?_)))
      refine ao 1 tb Y (aA [0,2,3,4,5] U5 Y ?_)
      refine nx (af (ak tb V (r5 [1000]) [_] U6 ?_))
      refine ax (lpo (ι:=Nat×Value×(List Hy)) (λ(i,_,others)=>(i<=k)/\(others=iV d i)/\(others.length<=80*i)) (λ(_,vo,others)=>[OB.row vo 119 3 (others.map aN)]) (λ(i,vo,_)=>[(17,.int (i:Nat)),(16,.lit vo)]) (λ(i,_,_)=>k-i) [1,2,3,4,5,0] U4 (0,v4,([]:List Hy)) ⟨aI,Y,aI⟩ ?_)
      rintro⟨i,vo,others⟩ ⟨fx,bi,iN⟩
      refine af (ak tb V (r6 [1002]) U3 U7 ?_)
      refine cj 6 ?_ ?_<;>intro iA<;>try simp at iA
      ·
       refine aj (nx (af (ax (cG (ao 4 tb Y (sy (.ptr (aY (G d.ab i))) (λh=>cb (i:=(i:Int)) fK Y (h.get 1 Y) (h.get 0 Y) bM (cq (xs:=d.ab) (k:=i) az) Y h.x) ?_))))))
       refine ao 1 tb Y (sy (.rd (bW ((G d.ab i).aa++(G d.ab i).bA))) (λh=>cQ (vm V (G d.ab i) (by have:=hz i oz;omega)) (cO func158) Y (aK hS _ h.keep h.x) (h.x.1) (aq (h.get 0 Y) aP) (jo V h.x)) ?_)
       refine fP (f:=aN) (m:=6) (s:=126) others ((G d.ab i).aa++(G d.ab i).bA) (λ_=>Y) nl V hJ0 Y Y Y (lb Y) Y Y (λa w h=>(h.get 0 Y)) (by first | (have:=hz i oz;simp;omega) | (have:=hz i oz;refine km ?_;simp;omega)) (by first | (have:=hz i oz;simp;omega) | (have:=hz i oz;refine km ?_;simp;omega)) λv5=>?_
       refine ao 1 tb Y (aA [0,2,6,9,10,11,12,13] U8 Y ?_)
       refine nx (ln 1 λOJ=>?_)
       refine ln 2 λ_=>?_
       refine aT tb V [0,3,4,5,6,1002] [_,.int (i+1:Nat),_] [1] U6 Y ⟨aM,U⟩ ?_
       exact bq (i+1,v5,others++((G d.ab i).aa++(G d.ab i).bA)) [1,2,3,4,5,0] ⟨oz,by rw[rY oz,bi],by have:=hz i oz;simp;omega⟩
      ·
       have pZ:i=k:=by omega
       rw[pZ]at bi iN
       refine aW (nx (af (tw (λh=>dV hS h (m:=5) (s:=16) Y) (ak tb V [0,2,4,1001] U2 U4 ?_))))
       refine ln 0 λ_=>?_
       refine cj 3 ?_ ?_<;>intro g5<;>try simp at g5
       ·
        have Pm:=im hb1 g5
        refine af (λa w h=>nZ (id:=24) (t:=69) (e:=119) (size:=3) (bytes:=48) (i0:=0) (dg:=5) (d:=18) (ch:=[(2,(others.map aN)),(4,(bs.map aN))]) (λix'=>([.any,.rd (bW others),.any,.rd (bW bs),.any,.any]:List AV).getD ix' .any) (λ_=>true) [(0,16,.rd (bW others)),(1,3,.rd (bW bs)),(2,7,.ptr (aN y))] ((others++bs).map aN) yz ?Tk V hJ0 h cP Y Y Y Y ⟨?_,?_,?_,?_,?_,?_,U⟩ ⟨Y,Y,Y,Y,Y,Y,U⟩ (λv6=>?Xt))
        case Tk=>
         refine Row.mk' nl ⟨_,Y,Y,Y,Y,Y⟩ ⟨?WF,?WG,U⟩ ⟨_,_,_,_,Y,Y,Y,Y,Y,Y,Y,Y,Y⟩ Y Y Y
         case WF=>exact⟨_,_,_,_,Y,Y,Y,Y,Y,Y,Y,Y,je (f:=aN) (λ_=>rfl),(by have hm:maxLen=9223372036854775807:=Y;simp[upto];first | (have:=hz i oz;simp;omega) | (have:=hz i oz;refine km ?_;simp;omega)),(by have hm:maxLen=9223372036854775807:=Y;simp[upto];first | (have:=hz i oz;simp;omega) | (have:=hz i oz;refine km ?_;simp;omega)),λ_ _ _ _ _ hl=>(hl.dep 1 137 _ Y Y Y Y)⟩
         case WG=>exact⟨_,_,_,_,Y,Y,Y,Y,Y,Y,Y,Y,je (f:=aN) (λ_=>rfl),(by have hm:maxLen=9223372036854775807:=Y;simp[upto];first | (have:=hz i oz;simp;omega) | (have:=hz i oz;refine km ?_;simp;omega)),(by have hm:maxLen=9223372036854775807:=Y;simp[upto];first | (have:=hz i oz;simp;omega) | (have:=hz i oz;refine km ?_;simp;omega)),λ_ _ _ _ _ hl=>(hl.dep 3 139 _ Y Y Y Y)⟩
        exact λh=>bB Y h
        exact λ_ _=>⟨Y,λ_ _ _ Z hl _=>b8 Y (hl.env 0 16 _ Y Y) Z⟩
        exact λh=>bB Y h
        exact λ_ _=>⟨Y,λ_ _ _ Z hl _=>b8 Y (hl.env 1 3 _ Y Y) Z⟩
        exact λh=>bB Y h
        exact λh=>bB Y h
        clear a w h
        refine nx (af (tw (λh=>dV hS h (m:=0) (s:=18) Y) (ak tb V [0,1,2,3,1000] [_] U5 ?_)))
        refine ln 0 λ_=>?_
        refine ax (lpo (ι:=Nat) (λj=>(j<=(others++bs).length)/\(((others++bs).take j).any (jz y)=false)) (λ_=>[]) (λj=>[(19,.int (j:Nat))]) (λj=>(others++bs).length-j) (r5 []) U4 0 ⟨aI,Y⟩ ?_)
        rintro j ⟨ri,jO⟩
        refine af (au tb V (r5 [1003]) [_,_,.int ((others++bs).length:Nat),_] [2] U6 Y ⟨aD cT,U⟩ ?_)
        refine cj 5 ?_ ?_<;>intro io<;>try simp at io
        ·
         refine aj (nx (af (ax (au tb V (r5 [1006,1021]) [_,_,.ptr (aN (G (others++bs) j)),_,_,_,.rd (ai (y.ac.drop 1)),.bool (gu (G (others++bs) j) (y.ac.drop 1)),_,_,_,.ptr (aN (G (others++bs) j)),_,_,.ptr [lS (G ((G (others++bs) j).ac) 0)],_,_,_,.ptr [lS (G y.ac 0)],_,_,_] [2,6,7,11,14,18] U7 Y ⟨bn cD,λ_ _ _ Z hl _=>iH (ys:=y.ac.drop 1) (lo:=1) (hi:=y.ac.length) (by rw[take_length]) bx (λ_=>Y) Y (hl.dep 5 152 _ Y Y Y Y) (Rel.aG (.int .i64 1)) Y az az Z,bN hS V (sL V (G (others++bs) j) (y.ac.drop 1)) (cO func200),cN cD (hk:=λ(aF:((gu (G (others++bs) j) (y.ac.drop 1))==true)=true)=>by(try simp at aF);first | omega | (simp;omega) | grind[aC]),cN (k:=0) bx (hk:=λ(aF:((gu (G (others++bs) j) (y.ac.drop 1))==true)=true)=>by(try simp at aF);have:=Gk aF;omega),cN (k:=0) bx (hk:=λ(aF:((gu (G (others++bs) j) (y.ac.drop 1))==true)=true)=>by(try simp at aF);first | omega | (simp;omega) | grind[aC]),U⟩ ?_))))
         refine ln 5 λ_=>?_
         refine cj 6 ?_ ?_<;>intro ll<;>try simp at ll
         ·
          have Hj:=mj (p:=jz y) (xs:=others++bs) (k:=j) (by simp;omega) (by simpa [jz]using ll)
          refine ak tb V [1000] [_] [_] ?_
          exact bL 0 (hE:=eI (by subst_vars;grind[eN]))
         ·
          refine aj (nx (aT tb V [0,1,2,3,1002] [_,.int (j+1:Nat),_] [1] U5 Y ⟨aM,U⟩ ?_))
          exact bq (j+1) (r5 []) ⟨by simp;omega,ml (by simp;omega) jO (by simp[jz];grind)⟩
        ·
         have e10:=mn (p:=jz y) jO (by simp;omega)
         refine aW (nx (ak tb V [1,2,3,1000] [_] U4 ?_))
         refine ax (lpo (ι:=Nat) (λj=>(j<=bs.length)/\((bs.take j).any (gZ y)=false)) (λ_=>[]) (λj=>[(20,.int (j:Nat))]) (λj=>bs.length-j) [0,1,2,3] U3 0 ⟨aI,Y⟩ ?_)
         rintro j ⟨MG,s8⟩
         refine af (au tb V [0,1,2,3,1003] [_,_,.int (bs.length:Nat),_] [2] U5 Y ⟨aD cT,U⟩ ?_)
         refine cj 4 ?_ ?_<;>intro nH<;>try simp at nH
         ·
          refine aj (nx (af (ax (au tb V [0,1,2,3,1006,1007] [_,_,.ptr (aN (G bs j)),_,_,_,.rd (ai (y.ac.drop 1)),.bool (gu (G bs j) (y.ac.drop 1))] [2,6,7] U6 Y ⟨bn cD,λ_ _ _ Z hl _=>iH (ys:=y.ac.drop 1) (lo:=1) (hi:=y.ac.length) (by rw[take_length]) bx (λ_=>Y) Y (hl.dep 5 180 _ Y Y Y Y) (Rel.aG (.int .i64 1)) Y az az Z,bN hS V (sL V (G bs j) (y.ac.drop 1)) (cO func200),U⟩ ?_))))
          refine ln 4 λ_=>?_
          refine cj 5 ?_ ?_<;>intro lR<;>try simp at lR
          ·
           have Hk:=mj (p:=gZ y) (xs:=bs) (k:=j) oz (by simpa [gZ]using lR)
           refine ak tb V [1000] [_] [_] ?_
           exact bL 0 (hE:=eI (by subst_vars;grind[eN]))
          ·
           refine aj (nx (aT tb V [0,1,2,1002] [_,.int (j+1:Nat),_] [1] U4 Y ⟨aM,U⟩ ?_))
           exact bq (j+1) [0,1,2,3] ⟨oz,ml oz s8 (by simpa [gZ]using lR)⟩
         ·
          have e12:=mn (p:=gZ y) s8 oz
          refine aW (nx (af (ak tb V [0,2,1000] [_] U3 ?_)))
          refine ax (lpo (ι:=Nat) (λj=>(j<=others.length)/\((others.take j).any (fL y)=false)) (λ_=>[]) (λj=>[(21,.int (j:Nat))]) (λj=>others.length-j) [0,1,2] U2 0 ⟨aI,Y⟩ ?_)
          rintro j ⟨zh,lL⟩
          refine af (au tb V [0,1,2,1003] [_,_,.int (others.length:Nat),_] [2] U4 Y ⟨aD cT,U⟩ ?_)
          refine cj 3 ?_ ?_<;>intro pX<;>try simp at pX
          ·
           refine aj (nx (af (ax (au tb V [0,1,2,1016] [_,_,.ptr (aN (G others j)),_,_,_,_,_,_,_,_,.ptr (aN (G others j)),_,_,.bool (kX (G others j) y),_,_] [2,11,14] U4 Y ⟨bn cD,cN cD (hk:=λ(aF:((decide (((G others j).ae)=y.ae))==true)=true)=>by(try simp at aF);first | omega | (simp;omega) | grind[aC]),bN hS V (vn V (G others j) y) (cO func201),U⟩ ?_))))
           refine cj 3 ?_ ?_<;>intro lT<;>try simp at lT
           ·
            have Bj:=mj (p:=fL y) (xs:=others) (k:=j) oz (by simpa [fL]using lT)
            refine ak tb V [1000] [_] [_] ?_
            exact bL 0 (hE:=eI (by subst_vars;grind[eN]))
           ·
            refine aj (nx (aT tb V [0,1,1002] [_,.int (j+1:Nat),_] [1] U3 Y ⟨aM,U⟩ ?_))
            exact bq (j+1) [0,1,2] ⟨oz,ml oz lL (by simp[fL];grind)⟩
          ·
           have e14:=mn (p:=fL y) lL oz
           refine aW (nx (ak tb V [1000] [_] [_] ?_))
           exact bL 0 (hE:=eI (by subst_vars;grind[eN]))
       ·
        refine aj (nx (af (ak tb V [0,2,1000] [_] U3 ?_)))
        refine ax (lpo (ι:=Nat) (λj=>(j<=others.length)/\((others.take j).any (fL y)=false)) (λ_=>[]) (λj=>[(21,.int (j:Nat))]) (λj=>others.length-j) [0,1,2] U2 0 ⟨aI,Y⟩ ?_)
        rintro j ⟨zh,lL⟩
        refine af (au tb V [0,1,2,1003] [_,_,.int (others.length:Nat),_] [2] U4 Y ⟨aD cT,U⟩ ?_)
        refine cj 3 ?_ ?_<;>intro pX<;>try simp at pX
        ·
         refine aj (nx (af (ax (au tb V [0,1,2,1016] [_,_,.ptr (aN (G others j)),_,_,_,_,_,_,_,_,.ptr (aN (G others j)),_,_,.bool (kX (G others j) y),_,_] [2,11,14] U4 Y ⟨bn cD,cN cD (hk:=λ(aF:((decide (((G others j).ae)=y.ae))==true)=true)=>by(try simp at aF);first | omega | (simp;omega) | grind[aC]),bN hS V (vn V (G others j) y) (cO func201),U⟩ ?_))))
         refine cj 3 ?_ ?_<;>intro lT<;>try simp at lT
         ·
          have Bj:=mj (p:=fL y) (xs:=others) (k:=j) oz (by simpa [fL]using lT)
          refine ak tb V [1000] [_] [_] ?_
          exact bL 0 (hE:=eI (by subst_vars;grind[eN]))
         ·
          refine aj (nx (aT tb V [0,1,1002] [_,.int (j+1:Nat),_] [1] U3 Y ⟨aM,U⟩ ?_))
          exact bq (j+1) [0,1,2] ⟨oz,ml oz lL (by simp[fL];grind)⟩
        ·
         have e14:=mn (p:=fL y) lL oz
         refine aW (nx (ak tb V [1000] [_] [_] ?_))
         exact bL 0 (hE:=eI (by subst_vars;grind[eN]))
theorem KS {J:WP} (V:aS J) (d:Db) (f:Fr) (h1:d.vars.length<=8000) (h2:f.aa.length<=40) (h3:f.wide.length*32<=140737488351232) (h4:∀ h∈f.aa,h.be=true->h.ac.length=2):Fn prog J 161 [.agg (bZ d),.agg (aY f)] (.bool (f4 d f)):=by
 refine fE func161 λS w0 hS hJ0=>?_
 refine tw cc (au tb V [1000,1001] [.ptr (bZ d),.ptr (aY f),_] [0,1] U2 Y ⟨cW hS V,cW hS V,U⟩ ?_)
 refine au tb V [0,1,1001,1003,1004,1006,1007,1008] (V4 [.rd (ct (f.ac::(bR f.aa).map Hy.ac)),_,_,.rd (ai (dl d.vars (f.ac::(bR f.aa).map Hy.ac).flatten)),_]) [4,7] U8 Y ⟨bN hS V (KG V f.aa f.ac az) (cO func203),bN hS V (KP V (f.ac::(bR f.aa).map Hy.ac) d.vars az) (cO func202),U⟩ ?_
 refine ln 2 λ_=>?_
 refine ln 3 λ_=>?_
 refine ln 4 λ_=>?_
 refine ln 5 λ_=>?_
 refine ln 6 λ_=>?_
 refine aL (ko bx V Y Y Y (lb Y) λv1=>?_)
 refine ao 1 tb Y (aA [0,2,3,9] U4 Y ?_)
 refine nx (af (ak tb V [0,1,2,3,1000] [_] U5 ?_))
 refine ax (lpo (ι:=Nat×Value×(List BA)) (λ(k,_,found)=>(k<=f.aa.length)/\(found=eG (f.aa.take k))/\(found.length<=k)/\((f.aa.take k).all (hIn (fX d f))=true)) (λ(_,vo,found)=>[OB.row vo 9 1 (found.map dJ)]) (λ(k,vo,_)=>[(7,.int (k:Nat)),(6,.lit vo)]) (λ(k,_,_)=>f.aa.length-k) [1,2,3,4,0] U3 (0,v1,([]:List BA)) ⟨aI,Y,aI,Y⟩ ?_)
 rintro⟨k,vo,found⟩ ⟨aQ,ah,bp,gV⟩
 refine af (au tb V (r5 [1004]) (V3 [.int (f.aa.length:Nat),_]) [3] U6 Y ⟨aD cT,U⟩ ?_)
 refine cj 5 ?_ ?_<;>intro hb1<;>try simp at hb1
 ·
  refine aj (nx (af (ax (au tb V (r5 [1005]) (V3 [.ptr (aN (G f.aa k)),_,_]) [3] U6 Y ⟨bn cD,U⟩ ?_))))
  refine cj 5 ?_ ?_<;>intro hb2<;>try simp at hb2
  ·
   refine af (au tb V (r5 [1007]) (V3 [.ptr (aN (G f.aa k)),_,_,.bool (gu (G f.aa k) (dl d.vars (f.ac::(bR f.aa).map Hy.ac).flatten)),_]) [3,6] U6 Y ⟨bn cD,bN hS V (sL V (G f.aa k) (dl d.vars (f.ac::(bR f.aa).map Hy.ac).flatten)) (cO func200),U⟩ ?_)
   refine cj 5 ?_ ?_<;>intro aE<;>try simp at aE
   ·
    have q3:f.aa.all (hIn (fX d f))=false:=tX hb1 (by simp only[hIn,hb2,fX];simpa using aE)
    refine ak tb V [1000] [_] [_] ?_
    exact bL 0 (hE:=eB (by first | (rw[f4,q3];rfl) | (rw[f4,e1,q5];rfl) | (rw[f4,e1,e4,q7];rfl) | (rw[f4,e1,e4,e6];rfl)))
   ·
    refine aj (nx (cG (ao 4 tb Y (sy (.ptr (aN (G f.aa k))) (λh=>cb (i:=(k:Int)) cD Y (h.get 1 Y) (h.get 0 Y) bM (cq (xs:=f.aa) (k:=k) az) Y h.x) ?_))))
    refine ao 2 tb Y (sy (.ptr [lS (G ((G f.aa k).ac) 1)]) (λh=>cb (i:=((1:Nat):Int)) bx Y (h.get 0 Y) (Rel.aG (.int .i64 1)) bM (cq (xs:=(G f.aa k).ac) (k:=1) (by have:=h4 _ (aC hb1) hb2;omega)) Y h.x) ?_)
    refine ao 1 tb Y (sy (.rd (ai ([(G ((G f.aa k).ac) 1)]))) (λh=>ft bx j0 Y (h.get 0 Y) (aK hS _ h.keep h.x _ aV) (jo V h.x)) ?_)
    refine fP (f:=dJ) (m:=9) (s:=41) found ([(G ((G f.aa k).ac) 1)]) (λ_=>Y) j6 V hJ0 Y Y Y (lb Y) Y Y (λa w h=>(h.get 0 Y)) (by first | (simp;omega) | (refine BI ?_;simp;omega)) (by first | (simp;omega) | (refine BI ?_;simp;omega)) λv2=>?_
    refine ao 1 tb Y (aA [0,2,5,12,13,14,15] U7 Y ?_)
    refine nx (ln 1 λzX=>?_)
    refine ln 2 λ_=>?_
    refine aT tb V [0,3,4,5,1002] [_,.int (k+1:Nat),_] [1] U5 Y ⟨aM,U⟩ ?_
    exact bq (k+1,v2,found++([(G ((G f.aa k).ac) 1)])) [1,2,3,4,0] ⟨oz,by rw[ah,eG,eG,kP oz];simp[hb2],by simp;omega,by rw[qZ oz,gV];simp only[hIn,hb2,fX];simpa using aE⟩
  ·
   refine aj (nx (aT tb V [0,1,2,4,1002] [_,.int (k+1:Nat),_] [1] U5 Y ⟨aM,U⟩ ?_))
   exact bq (k+1,vo,found) [0,1,2,4,3] ⟨oz,by rw[ah,eG,eG,kP oz];simp[hb2],oz,by rw[qZ oz,gV];simp[hIn,hb2]⟩
 ·
  have e1:f.aa.all (hIn (fX d f))=true:=by rw[<-cS (xs:=f.aa) oz];exact gV
  have s5:found=eG f.aa:=by rw[ah,cS oz]
  refine aW (nx (af (tw (λh=>dV hS h (m:=4) (s:=6) Y) (ak tb V [0,1,2,3,1000] [_] U5 ?_))))
  refine ln 0 λ_=>?_
  refine ax (lpo (ι:=Nat) (λk=>(k<=(fX d f).length)/\(((fX d f).take k).all (λs=>decide (s∈eG f.aa))=true)) (λ_=>[]) (λk=>[(8,.int (k:Nat))]) (λk=>(fX d f).length-k) (r5 []) U4 0 ⟨aI,Y⟩ ?_)
  rintro k ⟨fx,bi⟩
  refine af (au tb V (r5 [1003]) [_,_,.int ((dl d.vars (f.ac::(bR f.aa).map Hy.ac).flatten).length:Nat),_] [2] U6 Y ⟨aD b6,U⟩ ?_)
  refine cj 5 ?_ ?_<;>intro bh<;>try simp at bh
  ·
   have W2:=bh
   replace bh:k< (fX d f).length:=bh
   refine aj (nx (af (ax (au tb V (r5 [1006]) (V3 [.ptr [lS (G (dl d.vars (f.ac::(bR f.aa).map Hy.ac).flatten) k)],_,.bool (decide ((G (dl d.vars (f.ac::(bR f.aa).map Hy.ac).flatten) k)∈found)),_]) [3,5] U6 Y ⟨bn bx,bN hS V (jM V found (G (dl d.vars (f.ac::(bR f.aa).map Hy.ac).flatten) k)) (cO func154),U⟩ ?_))))
   refine cj 5 ?_ ?_<;>intro bV<;>try simp at bV
   ·
    have q5:(fX d f).all (λs=>decide (s∈eG f.aa))=false:=tX bh (decide_eq_false (by rw[<-s5];exact bV))
    refine ak tb V [1000] [_] [_] ?_
    exact bL 0 (hE:=eB (by first | (rw[f4,q3];rfl) | (rw[f4,e1,q5];rfl) | (rw[f4,e1,e4,q7];rfl) | (rw[f4,e1,e4,e6];rfl)))
   ·
    refine aj (nx (aT tb V [0,1,2,3,1002] [_,.int (k+1:Nat),_] [1] U5 Y ⟨aM,U⟩ ?_))
    exact bq (k+1) (r5 []) ⟨oz,by rw[qZ bh,bi,Bool.true_and];exact decide_eq_true (by rw[<-s5];exact bV)⟩
  ·
   replace bh:(fX d f).length<=k:=bh
   have e4:(fX d f).all (λs=>decide (s∈eG f.aa))=true:=by rw[<-cS (xs:=fX d f) bh];exact bi
   refine aW (nx (af (ak tb V [1,2,3,1000] [_] U4 ?_)))
   refine ax (lpo (ι:=Nat) (λk=>(k<=f.wide.length)/\((f.wide.take k).any (pz d)=false)) (λ_=>[]) (λk=>[(9,.int (k:Nat))]) (λk=>f.wide.length-k) [0,1,2,3] U3 0 ⟨aI,Y⟩ ?_)
   rintro k ⟨ri,jO⟩
   refine af (au tb V [0,1,2,3,1002,1004] (V3 [.int (f.wide.length:Nat),_]) [3] U6 Y ⟨aD fH,U⟩ ?_)
   refine ln 4 λ_=>?_
   refine cj 5 ?_ ?_<;>intro eM<;>try simp at eM
   ·
    refine aj (nx (af (ax (aL (ao 3 tb Y (sy (.ptr (aR (G f.wide k))) (λh=>cb (i:=(k:Int)) de Y (h.get 1 Y) (h.get 0 Y) bM (cq (xs:=f.wide) (k:=k) az) Y h.x) ?_))))))
    refine ao 1 tb Y (iJ (cs:=aR (G f.wide k)) xX Y Y Y (lb Y) Y Y Y dz (m:=0) Y Y (λa w h=>aK hS _ h.keep h.x _ aV) (λa w h w' hk'=>fi V _ _ hk' h.x) ?_)
    refine aA [0,6,7,8,9] U5 Y (nx (au tb V [1,2,3,4,1020] (qU [.bool (decide (((G f.wide k).a)∈d.vars)),_,_,_,_,_,_,_,.bool (decide (((G f.wide k).b)∈d.vars)),_,_]) [10,18] U5 Y ⟨bN hS V (jM V d.vars ((G f.wide k).a)) (cO func154),bN hS V (jM V d.vars ((G f.wide k).b)) (cO func154),U⟩ ?_))
    refine cj 4 ?_ ?_<;>intro fM
    ·
     have q7:f.wide.any (pz d)=true:=mj (by omega:k<f.wide.length) fM
     refine ak tb V [1000] [_] [_] ?_
     exact bL 0 (hE:=eB (by first | (rw[f4,q3];rfl) | (rw[f4,e1,q5];rfl) | (rw[f4,e1,e4,q7];rfl) | (rw[f4,e1,e4,e6];rfl)))
    ·
     refine aj (nx (aT tb V [0,1,2,1002] [_,.int (k+1:Nat),_] [1] U4 Y ⟨aM,U⟩ ?_))
     exact bq (k+1) [0,1,2,3] ⟨oz,ml oz jO fM⟩
   ·
    have e6:=mn (p:=pz d) jO oz
    refine aW (nx (au tb V [1004,1015] (V4 [.rd (bI (mR f.wide ([]:List Pr))),.bool (decide (f.wide=(mR f.wide ([]:List Pr)))),_,_,_,_,_,_,.rd (bI (f.wide.filter (iQ (dl d.vars (f.ac::(bR f.aa).map Hy.ac).flatten)))),.bool (decide (f.apart=(f.wide.filter (iQ (dl d.vars (f.ac::(bR f.aa).map Hy.ac).flatten))))),_,_]) [4,5,12,13] U2 Y ⟨λ_ _ hk Z hl _=>cQ (Kt V f.wide ([]:List Pr) (by simp only[List.length_nil];omega)) (cO func205) Y (aK hS _ hk Z) (Z.1) (aq (hl.dep 3 101 _ Y Y Y Y) (aq (wW (Rel.aG (.slice none 0 0))) aP)) (jo V Z),bN hS V (De V f.wide (mR f.wide ([]:List Pr))) (cO func204),λ_ _ hk Z hl hc=>cQ (KU V f.wide (dl d.vars (f.ac::(bR f.aa).map Hy.ac).flatten) (by have aF:((decide (f.wide=(mR f.wide ([]:List Pr))))==true)=true:=hc;(try simp at aF);(omega))) (cO func206) Y (aK hS _ hk Z) (Z.1) (aq (hl.dep 10 108 _ Y Y Y hc) (aq (hl.dep 11 109 _ Y Y Y hc) aP)) (jo V Z),bN hS V (De V f.apart (f.wide.filter (iQ (dl d.vars (f.ac::(bR f.aa).map Hy.ac).flatten)))) (cO func204),U⟩ ?_))
    refine ln 0 λ_=>?_
    exact bL 1 (hE:=eB (by first | (rw[f4,q3];rfl) | (rw[f4,e1,q5];rfl) | (rw[f4,e1,e4,q7];rfl) | (rw[f4,e1,e4,e6];rfl)))
theorem KT {J:WP} (V:aS J) (d:Db)  :Fn prog J 127 [.agg (bZ d)] (.int (ec d)):=by
 refine fE func127 λS w0 hS hJ0=>?_
 clear hJ0
 refine aJ tb V [1000] [.ptr (bZ d),_] [0] [_] Y ⟨ej hS V,U⟩ ?_
 refine af (qs tb V [0,1000] [_] U2 ?_)
 refine ax (lp (ι:=Nat) (λk=>(k<=d.bH.length)/\(∀ j,j<k->gF d j=0)) (λk=>[(3,.int (k:Nat))]) (λk=>d.bH.length-k) [0,1] [_] 0 ⟨aI,λj hj=>by omega⟩ ?_)
 rintro k ⟨aQ,ah⟩
 refine af (aJ tb V [0,1,1002,1004] (V3 [.int (d.bH.length:Nat),_]) [3] U4 Y ⟨aD b6,U⟩ ?_)
 refine ln 2 λ_=>?_
 refine cj 3 ?_ ?_<;>intro hb1<;>try simp at hb1
 ·
  refine aj (nx (af (ax (af (aJ tb V [0,1,1006] (V3 [.ptr [lS (G d.bH k)],_,.bool (gP (G d.bH k)),_]) [3,5] U3 Y ⟨bn bx,dh hS V (C5 V (G d.bH k)) (cO func153),U⟩ ?_)))))
  refine cj 2 ?_ ?_<;>intro hb2<;>try simp at hb2
  ·
   have q2:gF d k=2:=by simp[gF,hb2]
   refine qs tb V [1000] [_] [_] ?_
   exact aU 0 (hE:=eI (by first | (have:=i8 (by omega:k<d.bH.length) ah (by rw[q2];decide);rw[ec,this,q2];rfl) | (have:=i8 (by omega:k<d.vars.length) bi (by rw[q5];decide);rw[ec,e1,this,q5];rfl) | (rw[ec,e1,e4];rfl)))
  ·
   refine aj (nx (aJ tb V [0,1,1003,1009] (V3 [.rd (ai (d.bH.take k)),_,_,_,.ptr [lS (G d.bH k)],_,.bool (decide ((G d.bH k)∈(d.bH.take k)))]) [3,7,9] U4 Y ⟨λ_ _ _ Z hl _=>iH (ys:=d.bH.take k) (lo:=0) (hi:=k) drop_zero bx (λ_=>Y) Y (hl.dep 1 20 _ Y Y Y Y) Y (hl.dep 2 21 _ Y Y Y Y) az az Z,bn bx,dh hS V (jM V (d.bH.take k) (G d.bH k)) (cO func154),U⟩ ?_))
   refine ln 2 λ_=>?_
   refine cj 3 ?_ ?_<;>intro aE<;>try simp at aE
   ·
    have q2:gF d k=6:=by simp[gF,hb2,aE]
    refine qs tb V [1000] [_] [_] ?_
    exact aU 0 (hE:=eI (by first | (have:=i8 (by omega:k<d.bH.length) ah (by rw[q2];decide);rw[ec,this,q2];rfl) | (have:=i8 (by omega:k<d.vars.length) bi (by rw[q5];decide);rw[ec,e1,this,q5];rfl) | (rw[ec,e1,e4];rfl)))
   ·
    refine aj (nx (dI tb V [0,1002] [_,.int (k+1:Nat),_] [1] U2 Y ⟨aM,U⟩ ?_))
    exact dO (k+1) [0,1] ⟨oz,cF ah (by simp_all[gF])⟩
 ·
  have e1:fS d.bH.length (gF d)=0:=mB λj hj=>ah j oz
  refine aW (nx (af (qs tb V [0,1000] [_] U2 ?_)))
  refine ax (lp (ι:=Nat) (λk=>(k<=d.vars.length)/\(∀ j,j<k->iM d j=0)) (λk=>[(4,.int (k:Nat))]) (λk=>d.vars.length-k) [0,1] [_] 0 ⟨aI,λj hj=>by omega⟩ ?_)
  rintro k ⟨fx,bi⟩
  refine af (aJ tb V [0,1,1002,1004] (V3 [.int (d.vars.length:Nat),_]) [3] U4 Y ⟨aD b6,U⟩ ?_)
  refine ln 2 λ_=>?_
  refine cj 3 ?_ ?_<;>intro bh<;>try simp at bh
  ·
   refine aj (nx (af (ax (af (aJ tb V [0,1,1006] (V3 [.ptr [lS (G d.vars k)],_,.bool (gP (G d.vars k)),_]) [3,5] U3 Y ⟨bn bx,dh hS V (C5 V (G d.vars k)) (cO func153),U⟩ ?_)))))
   refine cj 2 ?_ ?_<;>intro bV<;>try simp at bV
   ·
    have q5:iM d k=2:=by simp[iM,bV]
    refine qs tb V [1000] [_] [_] ?_
    exact aU 0 (hE:=eI (by first | (have:=i8 (by omega:k<d.bH.length) ah (by rw[q2];decide);rw[ec,this,q2];rfl) | (have:=i8 (by omega:k<d.vars.length) bi (by rw[q5];decide);rw[ec,e1,this,q5];rfl) | (rw[ec,e1,e4];rfl)))
   ·
    refine aj (nx (aJ tb V [0,1,1019] (V5 [.ptr [lS (G d.vars k)],_,.bool (decide ((G d.vars k)∈d.bH)),_,_,_,_,.rd (ai (d.vars.take k)),_,_,_,.ptr [lS (G d.vars k)],_,.bool (decide ((G d.vars k)∈(d.vars.take k))),_]) [5,7,12,16,18] U3 Y ⟨bn bx,dh hS V (jM V d.bH (G d.vars k)) (cO func154),λ_ _ _ Z hl hc=>iH (ys:=d.vars.take k) (lo:=0) (hi:=k) drop_zero bx (λ_=>Y) Y (hl.dep 10 53 _ Y Y Y hc) Y (hl.dep 11 54 _ Y Y Y hc) (by have aF:((decide ((G d.vars k)∈d.bH))==false)=true:=hc;(try simp at aF);(first | omega | (simp;omega) | grind[aC])) (by have aF:((decide ((G d.vars k)∈d.bH))==false)=true:=hc;(try simp at aF);(first | omega | (simp;omega) | grind[aC])) Z,cN bx (hk:=λ(aF:((decide ((G d.vars k)∈d.bH))==false)=true)=>by(try simp at aF);first | omega | (simp;omega) | grind[aC]),dh hS V (jM V (d.vars.take k) (G d.vars k)) (cO func154),U⟩ ?_))
    refine cj 2 ?_ ?_<;>intro eM<;>try simp at eM
    ·
     have q5:iM d k=6:=by simp_all[iM]
     refine qs tb V [1000] [_] [_] ?_
     exact aU 0 (hE:=eI (by first | (have:=i8 (by omega:k<d.bH.length) ah (by rw[q2];decide);rw[ec,this,q2];rfl) | (have:=i8 (by omega:k<d.vars.length) bi (by rw[q5];decide);rw[ec,e1,this,q5];rfl) | (rw[ec,e1,e4];rfl)))
    ·
     refine aj (nx (dI tb V [0,1002] [_,.int (k+1:Nat),_] [1] U2 Y ⟨aM,U⟩ ?_))
     exact dO (k+1) [0,1] ⟨oz,cF bi (by simp_all[iM])⟩
  ·
   have e4:fS d.vars.length (iM d)=0:=mB λj hj=>bi j oz
   refine aW (nx (qs tb V [1000] [_] [_] ?_))
   exact aU 0 (hE:=eI (by first | (have:=i8 (by omega:k<d.bH.length) ah (by rw[q2];decide);rw[ec,this,q2];rfl) | (have:=i8 (by omega:k<d.vars.length) bi (by rw[q5];decide);rw[ec,e1,this,q5];rfl) | (rw[ec,e1,e4];rfl)))
theorem KH {J:WP} (V:aS J) (d:Db) (k:Nat) (hk0:k<d.ab.length) (hf:d.ab.length<=400) (hv:d.vars.length<=8000) (hz:∀ i,i<k->(G d.ab i).aa.length<=40/\(G d.ab i).bA.length<=40) (hw:(G d.ab k).wide.length*32<=140737488351232):Fn prog J 128 [.agg (bZ d),.int (k:Nat)] (.int (dB d k)):=by
 refine fE func128 λS w0 hS hJ0=>?_
 clear hJ0
 refine aJ tb V [1,1000] [.ptr (bZ d),_] [0] U2 Y ⟨ej hS V,U⟩ ?_
 refine aL (ao 3 tb Y (sy (.ptr (aY (G d.ab k))) (λh=>cb (i:=(k:Int)) fK Y (h.get 1 Y) (h.get 0 Y) bM (cq (xs:=d.ab) (k:=k) az) Y h.x) ?_))
 refine ao 1 tb Y (iJ (cs:=aY (G d.ab k)) xY Y Y Y (lb Y) Y Y Y dz (m:=0) Y Y (λa w h=>hS _ h.keep.size) (λa w h w' hk'=>V _ _ hk' h.x) ?_)
 refine aA [0,4,6,7] U4 Y (nx (ln 1 λcx=>?_))
 refine af (aJ tb V [0,2,3,1003] [_,_,.bool (fW ((G d.ab k).ae)),_] [2] U4 Y ⟨dh hS V (yG V ((G d.ab k).ae)) (cO func155),U⟩ ?_)
 refine cj 3 ?_ ?_<;>intro hb1<;>try simp at hb1
 ·
  refine qs tb V [1000] [_] [_] ?_
  exact aU 0 (hE:=eI (by first | (show eD d k j=_;have q6:eD d k j≠0:=iU bV;rw[dB,eZ];grind) | (rw[dB,eZ];grind)))
 ·
  refine aj (nx (af (aJ tb V [0,1,2,1008,1009] (V4 [.bJ [.bool (fo d k ((G d.ab k).ae)),.bool (iC d k ((G d.ab k).ae))],_,_,_,_,_]) [4] U5 Y ⟨dh hS V (yH V d k ((G d.ab k).ae) az (hz)) (cO func156),U⟩ ?_)))
  refine aJ tb V [0,1,2,1009] (V8 [.bool (fG d ((G d.ab k).ae)),_]) [8] U4 Y ⟨dh hS V (yI V d ((G d.ab k).ae)) (cO func157),U⟩ ?_
  refine cj 3 ?_ ?_<;>intro hb2
  ·
   refine qs tb V [1000] [_] [_] ?_
   exact aU 0 (hE:=eI (by first | (show eD d k j=_;have q6:eD d k j≠0:=iU bV;rw[dB,eZ];grind) | (rw[dB,eZ];grind)))
  ·
   refine aj (nx (af (aJ tb V [0,1,2,1001,1009] [_,_,.int (((G d.ab k).aa).length:Nat),_,_,_,_,.int (((G d.ab k).bA).length:Nat),_,_] [2,7] U5 Y ⟨aD cT,aD cT,U⟩ ?_)))
   refine ln 3 λ_=>?_
   refine cj 4 ?_ ?_<;>intro aE
   ·
    refine qs tb V [1000] [_] [_] ?_
    exact aU 0 (hE:=eI (by first | (show eD d k j=_;have q6:eD d k j≠0:=iU bV;rw[dB,eZ];grind) | (rw[dB,eZ];grind)))
   ·
    have e3:(G d.ab k).aa.length<=40/\(G d.ab k).bA.length<=40:=by simp at aE;omega
    refine aj (nx (aJ tb V [0,1,2,1001,1002] [_,.rd (bW ((G d.ab k).aa++(G d.ab k).bA)),_] [1] U5 Y ⟨dh hS V (vm V (G d.ab k) az) (cO func158),U⟩ ?_))
    refine ln 3 λ_=>?_
    refine af (qs tb V [0,1,2,4,1000] [_] U5 ?_)
    refine ax (lp (ι:=Nat) (λj=>(j<=((G d.ab k).aa++(G d.ab k).bA).length)/\(∀ i,i<j->eD d k i=0)) (λj=>[(9,.int (j:Nat))]) (λj=>((G d.ab k).aa++(G d.ab k).bA).length-j) (r5 []) U4 0 ⟨aI,λj hj=>by omega⟩ ?_)
    rintro j ⟨aQ,ah⟩
    refine af (aJ tb V (r5 [1003]) [_,_,.int (((G d.ab k).aa++(G d.ab k).bA).length:Nat),_] [2] U6 Y ⟨aD cT,U⟩ ?_)
    refine cj 5 ?_ ?_<;>intro bh<;>try simp at bh
    ·
     refine aj (nx (af (ax (aJ tb V (r5 [1008,1015]) (V4 [.ptr (aN (G ((G d.ab k).aa++(G d.ab k).bA) j)),_,_,_,.rd (bW (((G d.ab k).aa++(G d.ab k).bA).take j)),_,_,_,.int (((G d.ab k).aa).length:Nat),_,.int (eN d k (G ((G d.ab k).aa++(G d.ab k).bA) j) (((G d.ab k).aa++(G d.ab k).bA).take j) (decide (((((G d.ab k).aa).length:Nat):Int)<=(j:Int)))),_]) [4,8,12,14] U7 Y ⟨bn cD,λ_ _ _ Z hl _=>iH (ys:=((G d.ab k).aa++(G d.ab k).bA).take j) (lo:=0) (hi:=j) drop_zero cD (λ_=>Y) Y (hl.dep 6 68 _ Y Y Y Y) Y (hl.dep 7 69 _ Y Y Y Y) az az Z,aD cT,dh hS V (KL V d k (G ((G d.ab k).aa++(G d.ab k).bA) j) (((G d.ab k).aa++(G d.ab k).bA).take j) (decide (((((G d.ab k).aa).length:Nat):Int)<=(j:Int))) az az (by intro i hi;by_cases e:i=k;(subst e;exact e3);exact hz i oz) (by have:=List.length_take_le' j ((G d.ab k).aa++(G d.ab k).bA);simp at this ⊢;omega)) (cO func159),U⟩ ?_))))
     refine ln 5 λ_=>?_
     refine qs tb V (r5 [6,1001]) U2 U7 ?_
     refine cj 6 ?_ ?_<;>intro bV
     ·
      have q5:lu d k=eD d k j:=i8 (by simp;omega) ah (iU bV)
      refine qs tb V [1001] U2 [_] ?_
      exact aU 0 (hE:=eI (by first | (show eD d k j=_;have q6:eD d k j≠0:=iU bV;rw[dB,eZ];grind) | (rw[dB,eZ];grind)))
     ·
      refine aj (nx (dI tb V [0,1,2,3,1002] [_,.int (j+1:Nat),_] [1] U5 Y ⟨aM,U⟩ ?_))
      exact dO (j+1) (r5 []) ⟨by simp;omega,cF ah (oU bV)⟩
    ·
     have e4:lu d k=0:=mB λi hi=>ah i (by simp at bh hi;omega)
     refine aW (nx (af (aJ tb V [0,1,2,1001,1009] [_,_,.int (((G d.ab k).ac).length:Nat),_,_,_,_,.int (((G d.ab k).ac).length:Nat),_,_] [2,7] U5 Y ⟨aD b6,aD b6,U⟩ ?_)))
     refine ln 3 λ_=>?_
     refine cj 4 ?_ ?_<;>intro eM
     ·
      refine qs tb V [1000] [_] [_] ?_
      exact aU 0 (hE:=eI (by first | (show eD d k j=_;have q6:eD d k j≠0:=iU bV;rw[dB,eZ];grind) | (rw[dB,eZ];grind)))
     ·
      refine aj (nx (af (aJ tb V [0,1,2,1004] (V3 [.int (iz d ((G d.ab k).ac)),_]) [3] U4 Y ⟨dh hS V (C9 V d ((G d.ab k).ac) az) (cO func160),U⟩ ?_)))
      refine qs tb V [0,1,2,3,1001] U2 U5 ?_
      refine cj 4 ?_ ?_<;>intro fM<;>try simp at fM
      ·
       refine qs tb V [1001] U2 [_] ?_
       exact aU 0 (hE:=eI (by first | (show eD d k j=_;have q6:eD d k j≠0:=iU bV;rw[dB,eZ];grind) | (rw[dB,eZ];grind)))
      ·
       refine aj (nx (af (aJ tb V [0,1,2,1003] [_,_,.bool (f4 d (G d.ab k)),_] [2] U4 Y ⟨dh hS V (KS V d (G d.ab k) az az (hw) (λh hh=>Qo e4 h (by simp[hh]))) (cO func161),U⟩ ?_)))
       refine cj 3 ?_ ?_<;>intro iA<;>try simp at iA
       ·
        refine qs tb V [1000] [_] [_] ?_
        exact aU 0 (hE:=eI (by first | (show eD d k j=_;have q6:eD d k j≠0:=iU bV;rw[dB,eZ];grind) | (rw[dB,eZ];grind)))
       ·
        refine aj (nx (af (aJ tb V [0,1,2,1001,1014] [_,_,.int (((G d.ab k).proof).length:Nat),_,_,_,_,_,_,_,_,_,.int (((G d.ab k).proof).length:Nat),_,_] [2,12] U5 Y ⟨aD b6,aD b6,U⟩ ?_)))
        refine ln 3 λ_=>?_
        refine cj 4 ?_ ?_<;>intro g5
        ·
         refine qs tb V [1000] [_] [_] ?_
         exact aU 0 (hE:=eI (by first | (show eD d k j=_;have q6:eD d k j≠0:=iU bV;rw[dB,eZ];grind) | (rw[dB,eZ];grind)))
        ·
         refine aj (nx (af (qs tb V [0,1,2,1000] [_] U4 ?_)))
         refine ax (lp (ι:=Nat) (λj=>(j<=(G d.ab k).proof.length)/\(((G d.ab k).proof.take j).all fq=true)) (λj=>[(12,.int (j:Nat))]) (λj=>(G d.ab k).proof.length-j) [0,1,2,3] U3 0 ⟨aI,Y⟩ ?_)
         rintro j ⟨fx,bi⟩
         refine af (aJ tb V [0,1,2,3,1004] (V3 [.int (((G d.ab k).proof).length:Nat),_]) [3] U5 Y ⟨aD b6,U⟩ ?_)
         refine cj 4 ?_ ?_<;>intro io<;>try simp at io
         ·
          refine aj (nx (af (ax (aJ tb V [0,1,2,3,1006] (V3 [.ptr [lS (G ((G d.ab k).proof) j)],_,.bool (fq (G ((G d.ab k).proof) j)),_]) [3,5] U5 Y ⟨bn bx,dh hS V (Kr V (G ((G d.ab k).proof) j)) (cO func162),U⟩ ?_))))
          refine cj 4 ?_ ?_<;>intro ll<;>try simp at ll
          ·
           have Hj:(G d.ab k).proof.all fq=false:=tX io ll
           refine qs tb V [1000] [_] [_] ?_
           exact aU 0 (hE:=eI (by first | (show eD d k j=_;have q6:eD d k j≠0:=iU bV;rw[dB,eZ];grind) | (rw[dB,eZ];grind)))
          ·
           refine aj (nx (dI tb V [0,1,2,1002] [_,.int (j+1:Nat),_] [1] U4 Y ⟨aM,U⟩ ?_))
           exact dO (j+1) [0,1,2,3] ⟨oz,by rw[qZ oz,bi];simpa using ll⟩
         ·
          have e10:(G d.ab k).proof.all fq=true:=by rw[<-cS (xs:=(G d.ab k).proof) oz];exact bi
          refine aW (nx (aJ tb V [1,2,1001,1002] [_,.rd (ai ((bR (G d.ab k).aa).map Hy.ae)),_] [1] U4 Y ⟨dh hS V (C3 V (G d.ab k) az) (cO func163),U⟩ ?_))
          refine ln 2 λ_=>?_
          refine af (aJ tb V [0,1,3,1002,1005] [_,_,.rd (ai (j8 d k)),_,.int (gp (j8 d k) ((bR (G d.ab k).aa).map Hy.ae):Nat),_] [2,4] U5 Y ⟨dh hS V (Kz V d k az az (λh=>(hz (k-1) oz).1)) (cO func165),dh hS V (KB V (j8 d k) ((bR (G d.ab k).aa).map Hy.ae)) (cO func164),U⟩ ?_)
          refine ln 3 λ_=>?_
          refine ax (lp (ι:=Nat) (λm=>(gp (j8 d k) ((bR (G d.ab k).aa).map Hy.ae)<=m)/\(m<=((bR (G d.ab k).aa).map Hy.ae).length)/\(∀ i,gp (j8 d k) ((bR (G d.ab k).aa).map Hy.ae)<=i->i<m->iC d k (G ((bR (G d.ab k).aa).map Hy.ae) i)=false)) (λm=>[(14,.int (m:Nat))]) (λm=>((bR (G d.ab k).aa).map Hy.ae).length-m) [0,1,2,4] U3 (gp (j8 d k) ((bR (G d.ab k).aa).map Hy.ae)) ⟨Nat.le_refl _,yQ _ _,λi h1 h2=>by omega⟩ ?_)
          rintro m ⟨ri,jO,zg⟩
          refine af (aJ tb V [0,1,2,3,1003] [_,_,.int (((bR (G d.ab k).aa).map Hy.ae).length:Nat),_] [2] U5 Y ⟨aD b6,U⟩ ?_)
          refine cj 4 ?_ ?_<;>intro nH
          ·
           replace nH:m< ((bR (G d.ab k).aa).map Hy.ae).length:=by have:=of_decide_eq_true nH;omega
           refine aj (nx (af (ax (aJ tb V [0,1,2,3,1011] (V4 [.ptr [lS (G ((bR (G d.ab k).aa).map Hy.ae) m)],_,.bJ [.bool (fo d k (G ((bR (G d.ab k).aa).map Hy.ae) m)),.bool (iC d k (G ((bR (G d.ab k).aa).map Hy.ae) m))],_,_,_,_,_]) [4,6] U5 Y ⟨bn bx,dh hS V (yH V d k (G ((bR (G d.ab k).aa).map Hy.ae) m) az (hz)) (cO func156),U⟩ ?_))))
           refine qs tb V [0,1,2,3,1000] [_] U5 ?_
           refine cj 4 ?_ ?_<;>intro lR<;>try simp at lR
           ·
            have Hk:uf d k (G d.ab k)=true:=LF ri nH lR
            refine qs tb V [1000] [_] [_] ?_
            exact aU 0 (hE:=eI (by first | (show eD d k j=_;have q6:eD d k j≠0:=iU bV;rw[dB,eZ];grind) | (rw[dB,eZ];grind)))
           ·
            refine aj (nx (dI tb V [0,1,2,1002] [_,.int (m+1:Nat),_] [1] U4 Y ⟨aM,U⟩ ?_))
            exact dO (m+1) [0,1,2,3] ⟨oz,oz,λi h1 h2=>by by_cases e:i=m;(subst e;simpa using lR);exact zg i h1 oz⟩
          ·
           replace nH:((bR (G d.ab k).aa).map Hy.ae).length<=m:=by have:=of_decide_eq_false nH;omega
           have e12:uf d k (G d.ab k)=false:=LG λi h1 h2=>zg i h1 oz
           refine aW (nx (qs tb V [1000] [_] [_] ?_))
           exact aU 0 (hE:=eI (by first | (show eD d k j=_;have q6:eD d k j≠0:=iU bV;rw[dB,eZ];grind) | (rw[dB,eZ];grind)))
theorem Kn {J:WP} (V:aS J) (d:Db) (hw:∀ i,i<d.ab.length->(G d.ab i).wide.length*32<=140737488351232):Fn prog J 97 [.agg (bZ d)] (.int (dy d)):=by
 refine fE func97 λS w0 hS hJ0=>?_
 clear hJ0
 refine aJ tb V [1000] [.ptr (bZ d),_] [0] [_] Y ⟨ej hS V,U⟩ ?_
 refine af (aJ tb V [0,1001,1015] [_,_,.int (d.ab.length:Nat),_,_,_,_,.int (d.bH.length:Nat),_,_,_,_,_,.int (d.vars.length:Nat),_,_] [2,7,13] U3 Y ⟨aD m8,aD b6,aD b6,U⟩ ?_)
 refine ln 1 λ_=>?_
 refine cj 2 ?_ ?_<;>intro hb1
 ·
  refine qs tb V [1000] [_] [_] ?_
  exact aU 0 (hE:=eI (by rw[dy];grind))
 ·
  have e1:(d.ab.length<=400/\d.bH.length<=8000)/\d.vars.length<=8000:=by simp at hb1;omega
  refine aj (nx (af (aJ tb V [0,1002] [_,.int (ec d),_] [1] U2 Y ⟨dh hS V (KT V d) (cO func127),U⟩ ?_)))
  refine qs tb V [0,1,1001] U2 U3 ?_
  refine cj 2 ?_ ?_<;>intro hb2<;>try simp at hb2
  ·
   refine qs tb V [1001] U2 [_] ?_
   exact aU 0 (hE:=eI (by rw[dy];grind))
  ·
   refine aj (nx (af (qs tb V [0,1000] [_] U2 ?_)))
   refine ax (lp (ι:=Nat) (λk=>(k<=d.ab.length)/\(∀ i,i<k->dB d i=0)) (λk=>[(4,.int (k:Nat))]) (λk=>d.ab.length-k) [0,1] [_] 0 ⟨aI,λj hj=>by omega⟩ ?_)
   rintro k ⟨aQ,ah⟩
   refine af (aJ tb V [0,1,1004] (V3 [.int (d.ab.length:Nat),_]) [3] U3 Y ⟨aD m8,U⟩ ?_)
   refine cj 2 ?_ ?_<;>intro aE<;>try simp at aE
   ·
    refine aj (nx (af (ax (aJ tb V [0,1,1003] [_,_,.int (dB d k),_] [2] U3 Y ⟨dh hS V (KH V d k az (e1.1.1) (e1.2) (λi hi=>tl (ah i hi)) (hw k oz)) (cO func128),U⟩ ?_))))
    refine qs tb V [0,1,2,1001] U2 U4 ?_
    refine cj 3 ?_ ?_<;>intro bh<;>try simp at bh
    ·
     have q4:=i8 oz ah bh
     refine qs tb V [1001] U2 [_] ?_
     exact aU 0 (hE:=eI (by rw[dy];grind))
    ·
     refine aj (nx (dI tb V [0,1002] [_,.int (k+1:Nat),_] [1] U2 Y ⟨aM,U⟩ ?_))
     exact dO (k+1) [0,1] ⟨oz,cF ah bh⟩
   ·
    have e3:fS d.ab.length (dB d)=0:=mB λi hi=>ah i oz
    refine aW (nx (qs tb V [1000] [_] [_] ?_))
    exact aU 0 (hE:=eI (by rw[dy];grind))
section
variable {J:WP} (V:aS J)
include V
theorem w7 (M1 M2:Nat) (M3 M4 M5:Nat) (cs vs:List BA) (s:BA)  :cM prog J 171 [OB.set aB M1 cs,OB.set aB M2 vs] [.ptr (di [M1,M2,M3,M4,M5]),.str s] (.bool (decide (s∈cs)||decide (s∈vs))):=by
 refine fk func171 λS w0 hS hJ0 hH=>?_
 clear hJ0
 refine qs tb V [0,1] [_] U2 ?_
 refine aJ tb V [1014] (V5 [.bool (decide (s∈cs)),_,_,_,_,_,_,.bool (decide (s∈vs)),_,_]) [5,12] [_] Y ⟨λ_ _ hk Z hl _=>jD (Kd:=aB) (xs:=cs) iD jJ s Y (gt hH hk (mo 0 Y)) (hl.D 3 8 Y Y) (hl.D 4 9 Y Y) Z,λ_ _ hk Z hl hc=>jD (Kd:=aB) (xs:=vs) iD jJ s Y (gt hH hk (mo 1 Y)) (hl.D 10 15 Y hc) (hl.D 11 16 Y hc) Z,U⟩ ?_
 exact aU 0 (hE:=eB (by first | rfl | grind[aC]))
theorem SZ (M1 M2:Nat) (M3 M4 M5:Nat) (cs vs:List BA) (s:BA)  :cM prog J 214 [OB.set aB M1 cs,OB.set aB M2 vs] [.str s,.ptr [.ptr (di [M1,M2,M3,M4,M5])]] (.bool (!(decide (s∈cs)||decide (s∈vs)))):=by
 refine fk func214 λS w0 hS hJ0 hH=>?_
 clear hJ0
 refine qs tb V [0,1] [_] U2 ?_
 refine aJ tb V [1004] [_,_,.bool (decide (s∈cs)||decide (s∈vs)),_,_] [2] [_] Y ⟨λ_ _ hk Z hl _=>dE (w7 V M1 M2 M3 M4 M5 cs vs s) (cO func171) Y (nm hS hk) (Z) (dC (gt hH hk (mo 0 Y)) (dC (gt hH hk (mo 1 Y)) b9)) (aq (hl.D 0 4 Y Y) (aq (hl.D 1 5 Y Y) aP)) (js V Z),U⟩ ?_
 exact aU 0 (hE:=Y)
theorem Sb (xs:List BA) (f:FuncId) (caps:List AV) (Os:List OB) (p:BA->Bool) (hf:∀ q',cM prog J f Os ([.str (q')]++caps) (.bool (p q'))) (hk0:dL prog f):cM prog J 169 Os [.rd (ai xs),.fn f caps] (.int (cH p xs)):=by
 refine fk func169 λS w0 hS hJ0 hH=>?_
 clear hJ0
 refine ln 0 λ_=>?_
 refine qs tb V [0,1] [_] U2 ?_
 refine af (aJ tb V [0,1,1001,1002] [_,.int (xs.length:Nat),_] [1] U4 Y ⟨aD b6,U⟩ ?_)
 refine ax (lp (ι:=Nat) (λk=>(k<=xs.length)/\(∀ j,j<k->p (G xs j)=false)) (λk=>[(8,.int (k:Nat))]) (λk=>xs.length-k) [0,1,2,3] U3 0 ⟨aI,λj hj=>by omega⟩ ?_)
 rintro k ⟨aQ,ah⟩
 refine qs tb V [0,1,2,3,1000] [_] U5 ?_
 refine cI 4 ?_ ?_<;>intro hb1<;>try simp at hb1
 ·
  refine aj (nx (af (ax (qs tb V [0,1,2,3,1001] U2 U5 ?_))))
  refine aJ tb V (r5 [1005]) (V3 [.ptr [lS (G xs k)],_,.bool (p (G xs k))]) [3,5] U6 Y ⟨bn bx,λ_ _ hk Z hl _=>iW (hf (G xs k)) hk0 Y (hl.D 0 11 Y Y) (nm hS hk) (Z) (λ_ ho=>gt hH hk ho) (aq (hl.D 4 15 Y Y) aP) (js V Z),U⟩ ?_
  refine cj 5 ?_ ?_<;>intro hb2<;>try simp at hb2
  ·
   refine qs tb V [1001] U2 [_] ?_
   exact aU 0 (hE:=eI (by first | exact(jb hb1 hb2 ah).symm | exact(jc λj hj=>ah j oz).symm))
  ·
   refine aj (nx (dI tb V [0,1,2,1001] [.int (k+1:Nat),_] [0] U4 Y ⟨aM,U⟩ ?_))
   exact dO (k+1) [0,1,2,3] ⟨oz,cF ah hb2⟩
 ·
  refine aW (nx (qs tb V [1000] [_] [_] ?_))
  exact aU 0 (hE:=eI (by first | exact(jb hb1 hb2 ah).symm | exact(jc λj hj=>ah j oz).symm))
end
end
section
open Go.RowKit
section
variable {J:WP} (V:aS J)
include V
theorem uh (xs:List BA) (f:FuncId) (caps:List AV) (Os:List OB) (p:BA->Bool) (hf:∀ q',cM prog J f Os ([.str (q')]++caps) (.bool (p q'))) (hk0:dL prog f):cM prog J 135 Os [.rd (ai xs),.fn f caps] (.bool (xs.any p)):=by
 refine fk func135 λS w0 hS hJ0 hH=>?_
 clear hJ0
 refine ln 0 λ_=>?_
 refine qs tb V [0,1] [_] U2 ?_
 refine aJ tb V [1004] [_,_,.int (cH p xs),_,_] [2] [_] Y ⟨λ_ _ hk Z hl _=>dE (Sb V xs f caps Os p (hf) (hk0)) (cO func169) Y (nm hS hk) (Z) (λ_ ho=>gt hH hk ho) (aq (hl.D 0 5 Y Y) (aq (hl.D 1 6 Y Y) aP)) (js V Z),U⟩ ?_
 exact aU 0 (hE:=eB (by rw[<-p9]))
theorem GI (xs:List Hy) (f:FuncId) (caps:List AV) (Os:List OB) (p:Hy->Bool) (hf:∀ q',cM prog J f Os ([.agg (aN (q'))]++caps) (.bool (p q'))) (hk0:dL prog f):cM prog J 187 Os [.rd (bW xs),.fn f caps] (.int (cH p xs)):=by
 refine fk func187 λS w0 hS hJ0 hH=>?_
 clear hJ0
 refine ln 0 λ_=>?_
 refine qs tb V [0,1] [_] U2 ?_
 refine af (aJ tb V [0,1,1001,1002] [_,.int (xs.length:Nat),_] [1] U4 Y ⟨aD cT,U⟩ ?_)
 refine ax (lp (ι:=Nat) (λk=>(k<=xs.length)/\(∀ j,j<k->p (G xs j)=false)) (λk=>[(8,.int (k:Nat))]) (λk=>xs.length-k) [0,1,2,3] U3 0 ⟨aI,λj hj=>by omega⟩ ?_)
 rintro k ⟨aQ,ah⟩
 refine qs tb V [0,1,2,3,1000] [_] U5 ?_
 refine cI 4 ?_ ?_<;>intro hb1<;>try simp at hb1
 ·
  refine aj (nx (af (ax (qs tb V [0,1,2,3,1001] U2 U5 ?_))))
  refine aJ tb V (r5 [1005]) (V3 [.ptr (aN (G xs k)),_,.bool (p (G xs k))]) [3,5] U6 Y ⟨bn cD,λ_ _ hk Z hl _=>iW (hf (G xs k)) hk0 Y (hl.D 0 11 Y Y) (nm hS hk) (Z) (λ_ ho=>gt hH hk ho) (aq (hl.D 4 15 Y Y) aP) (js V Z),U⟩ ?_
  refine cj 5 ?_ ?_<;>intro hb2<;>try simp at hb2
  ·
   refine qs tb V [1001] U2 [_] ?_
   exact aU 0 (hE:=eI (by first | exact(jb hb1 hb2 ah).symm | exact(jc λj hj=>ah j oz).symm))
  ·
   refine aj (nx (dI tb V [0,1,2,1001] [.int (k+1:Nat),_] [0] U4 Y ⟨aM,U⟩ ?_))
   exact dO (k+1) [0,1,2,3] ⟨oz,cF ah hb2⟩
 ·
  refine aW (nx (qs tb V [1000] [_] [_] ?_))
  exact aU 0 (hE:=eI (by first | exact(jb hb1 hb2 ah).symm | exact(jc λj hj=>ah j oz).symm))
theorem RV (xs:List Hy) (f:FuncId) (caps:List AV) (Os:List OB) (p:Hy->Bool) (hf:∀ q',cM prog J f Os ([.agg (aN (q'))]++caps) (.bool (p q'))) (hk0:dL prog f):cM prog J 142 Os [.rd (bW xs),.fn f caps] (.bool (xs.any p)):=by
 refine fk func142 λS w0 hS hJ0 hH=>?_
 clear hJ0
 refine ln 0 λ_=>?_
 refine qs tb V [0,1] [_] U2 ?_
 refine aJ tb V [1004] [_,_,.int (cH p xs),_,_] [2] [_] Y ⟨λ_ _ hk Z hl _=>dE (GI V xs f caps Os p (hf) (hk0)) (cO func187) Y (nm hS hk) (Z) (λ_ ho=>gt hH hk ho) (aq (hl.D 0 5 Y Y) (aq (hl.D 1 6 Y Y) aP)) (js V Z),U⟩ ?_
 exact aU 0 (hE:=eB (by rw[<-p9]))
theorem Sa (xs:List Pr) (f:FuncId) (caps:List AV) (Os:List OB) (p:Pr->Bool) (hf:∀ q',cM prog J f Os ([.agg (aR (q'))]++caps) (.bool (p q'))) (hk0:dL prog f):cM prog J 257 Os [.rd (bI xs),.fn f caps] (.int (cH p xs)):=by
 refine fk func257 λS w0 hS hJ0 hH=>?_
 clear hJ0
 refine ln 0 λ_=>?_
 refine qs tb V [0,1] [_] U2 ?_
 refine af (aJ tb V [0,1,1001,1002] [_,.int (xs.length:Nat),_] [1] U4 Y ⟨aD fH,U⟩ ?_)
 refine ax (lp (ι:=Nat) (λk=>(k<=xs.length)/\(∀ j,j<k->p (G xs j)=false)) (λk=>[(8,.int (k:Nat))]) (λk=>xs.length-k) [0,1,2,3] U3 0 ⟨aI,λj hj=>by omega⟩ ?_)
 rintro k ⟨aQ,ah⟩
 refine qs tb V [0,1,2,3,1000] [_] U5 ?_
 refine cI 4 ?_ ?_<;>intro hb1<;>try simp at hb1
 ·
  refine aj (nx (af (ax (qs tb V [0,1,2,3,1001] U2 U5 ?_))))
  refine aJ tb V (r5 [1005]) (V3 [.ptr (aR (G xs k)),_,.bool (p (G xs k))]) [3,5] U6 Y ⟨bn de,λ_ _ hk Z hl _=>iW (hf (G xs k)) hk0 Y (hl.D 0 11 Y Y) (nm hS hk) (Z) (λ_ ho=>gt hH hk ho) (aq (hl.D 4 15 Y Y) aP) (js V Z),U⟩ ?_
  refine cj 5 ?_ ?_<;>intro hb2<;>try simp at hb2
  ·
   refine qs tb V [1001] U2 [_] ?_
   exact aU 0 (hE:=eI (by first | exact(jb hb1 hb2 ah).symm | exact(jc λj hj=>ah j oz).symm))
  ·
   refine aj (nx (dI tb V [0,1,2,1001] [.int (k+1:Nat),_] [0] U4 Y ⟨aM,U⟩ ?_))
   exact dO (k+1) [0,1,2,3] ⟨oz,cF ah hb2⟩
 ·
  refine aW (nx (qs tb V [1000] [_] [_] ?_))
  exact aU 0 (hE:=eI (by first | exact(jb hb1 hb2 ah).symm | exact(jc λj hj=>ah j oz).symm))
theorem R9 (xs:List Int) (f:FuncId) (caps:List AV) (Os:List OB) (p:Int->Bool) (hf:∀ q',cM prog J f Os ([.int (q')]++caps) (.bool (p q'))) (hk0:dL prog f):cM prog J 92 Os [.rd (bS xs),.fn f caps] (.int (cH p xs)):=by
 refine fk func92 λS w0 hS hJ0 hH=>?_
 clear hJ0
 refine ln 0 λ_=>?_
 refine qs tb V [0,1] [_] U2 ?_
 refine af (aJ tb V [0,1,1001,1002] [_,.int (xs.length:Nat),_] [1] U4 Y ⟨aD eW,U⟩ ?_)
 refine ax (lp (ι:=Nat) (λk=>(k<=xs.length)/\(∀ j,j<k->p (G xs j)=false)) (λk=>[(8,.int (k:Nat))]) (λk=>xs.length-k) [0,1,2,3] U3 0 ⟨aI,λj hj=>by omega⟩ ?_)
 rintro k ⟨aQ,ah⟩
 refine qs tb V [0,1,2,3,1000] [_] U5 ?_
 refine cI 4 ?_ ?_<;>intro hb1<;>try simp at hb1
 ·
  refine aj (nx (af (ax (qs tb V [0,1,2,3,1001] U2 U5 ?_))))
  refine aJ tb V (r5 [1005]) (V3 [.ptr [lI (G xs k)],_,.bool (p (G xs k))]) [3,5] U6 Y ⟨bn dc,λ_ _ hk Z hl _=>iW (hf (G xs k)) hk0 Y (hl.D 0 11 Y Y) (nm hS hk) (Z) (λ_ ho=>gt hH hk ho) (aq (hl.D 4 15 Y Y) aP) (js V Z),U⟩ ?_
  refine cj 5 ?_ ?_<;>intro hb2<;>try simp at hb2
  ·
   refine qs tb V [1001] U2 [_] ?_
   exact aU 0 (hE:=eI (by first | exact(jb hb1 hb2 ah).symm | exact(jc λj hj=>ah j oz).symm))
  ·
   refine aj (nx (dI tb V [0,1,2,1001] [.int (k+1:Nat),_] [0] U4 Y ⟨aM,U⟩ ?_))
   exact dO (k+1) [0,1,2,3] ⟨oz,cF ah hb2⟩
 ·
  refine aW (nx (qs tb V [1000] [_] [_] ?_))
  exact aU 0 (hE:=eI (by first | exact(jb hb1 hb2 ah).symm | exact(jc λj hj=>ah j oz).symm))
theorem GF (xs:List Int) (f:FuncId) (caps:List AV) (Os:List OB) (p:Int->Bool) (hf:∀ q',cM prog J f Os ([.int (q')]++caps) (.bool (p q'))) (hk0:dL prog f):cM prog J 65 Os [.rd (bS xs),.fn f caps] (.bool (xs.any p)):=by
 refine fk func65 λS w0 hS hJ0 hH=>?_
 clear hJ0
 refine ln 0 λ_=>?_
 refine qs tb V [0,1] [_] U2 ?_
 refine aJ tb V [1004] [_,_,.int (cH p xs),_,_] [2] [_] Y ⟨λ_ _ hk Z hl _=>dE (R9 V xs f caps Os p (hf) (hk0)) (cO func92) Y (nm hS hk) (Z) (λ_ ho=>gt hH hk ho) (aq (hl.D 0 5 Y Y) (aq (hl.D 1 6 Y Y) aP)) (js V Z),U⟩ ?_
 exact aU 0 (hE:=eB (by rw[<-p9]))
theorem GH (xs:List Fr) (f:FuncId) (caps:List AV) (Os:List OB) (p:Fr->Bool) (hf:∀ q',cM prog J f Os ([.agg (aY (q'))]++caps) (.bool (p q'))) (hk0:dL prog f):cM prog J 59 Os [.rd (dU xs),.fn f caps] (.int (cH p xs)):=by
 refine fk func59 λS w0 hS hJ0 hH=>?_
 clear hJ0
 refine ln 0 λ_=>?_
 refine qs tb V [0,1] [_] U2 ?_
 refine af (aJ tb V [0,1,1001,1002] [_,.int (xs.length:Nat),_] [1] U4 Y ⟨aD m8,U⟩ ?_)
 refine ax (lp (ι:=Nat) (λk=>(k<=xs.length)/\(∀ j,j<k->p (G xs j)=false)) (λk=>[(8,.int (k:Nat))]) (λk=>xs.length-k) [0,1,2,3] U3 0 ⟨aI,λj hj=>by omega⟩ ?_)
 rintro k ⟨aQ,ah⟩
 refine qs tb V [0,1,2,3,1000] [_] U5 ?_
 refine cI 4 ?_ ?_<;>intro hb1<;>try simp at hb1
 ·
  refine aj (nx (af (ax (qs tb V [0,1,2,3,1001] U2 U5 ?_))))
  refine aJ tb V (r5 [1005]) (V3 [.ptr (aY (G xs k)),_,.bool (p (G xs k))]) [3,5] U6 Y ⟨bn fK,λ_ _ hk Z hl _=>iW (hf (G xs k)) hk0 Y (hl.D 0 11 Y Y) (nm hS hk) (Z) (λ_ ho=>gt hH hk ho) (aq (hl.D 4 15 Y Y) aP) (js V Z),U⟩ ?_
  refine cj 5 ?_ ?_<;>intro hb2<;>try simp at hb2
  ·
   refine qs tb V [1001] U2 [_] ?_
   exact aU 0 (hE:=eI (by first | exact(jb hb1 hb2 ah).symm | exact(jc λj hj=>ah j oz).symm))
  ·
   refine aj (nx (dI tb V [0,1,2,1001] [.int (k+1:Nat),_] [0] U4 Y ⟨aM,U⟩ ?_))
   exact dO (k+1) [0,1,2,3] ⟨oz,cF ah hb2⟩
 ·
  refine aW (nx (qs tb V [1000] [_] [_] ?_))
  exact aU 0 (hE:=eI (by first | exact(jb hb1 hb2 ah).symm | exact(jc λj hj=>ah j oz).symm))
theorem RU (xs:List Fr) (f:FuncId) (caps:List AV) (Os:List OB) (p:Fr->Bool) (hf:∀ q',cM prog J f Os ([.agg (aY (q'))]++caps) (.bool (p q'))) (hk0:dL prog f):cM prog J 28 Os [.rd (dU xs),.fn f caps] (.bool (xs.any p)):=by
 refine fk func28 λS w0 hS hJ0 hH=>?_
 clear hJ0
 refine ln 0 λ_=>?_
 refine qs tb V [0,1] [_] U2 ?_
 refine aJ tb V [1004] [_,_,.int (cH p xs),_,_] [2] [_] Y ⟨λ_ _ hk Z hl _=>dE (GH V xs f caps Os p (hf) (hk0)) (cO func59) Y (nm hS hk) (Z) (λ_ ho=>gt hH hk ho) (aq (hl.D 0 5 Y Y) (aq (hl.D 1 6 Y Y) aP)) (js V Z),U⟩ ?_
 exact aU 0 (hE:=eB (by rw[<-p9]))
theorem w6 (xs ys:List BA)  :Fn prog J 58 [.rd (ai xs),.rd (ai ys)] (.bool (decide (xs=ys))):=by
 refine fE func58 λS w0 hS hJ0=>?_
 clear hJ0
 refine ln 0 λ_=>?_
 refine ln 1 λ_=>?_
 refine qs tb V [0,1] [_] U2 ?_
 refine af (aJ tb V [0,1,1004] [_,.int (xs.length:Nat),_,.int (ys.length:Nat),_] [1,3] U3 Y ⟨aD b6,aD b6,U⟩ ?_)
 refine cj 2 ?_ ?_<;>intro hb1<;>try simp at hb1
 ·
  refine qs tb V [1000] [_] [_] ?_
  exact aU 0 (hE:=eB (by first | (have:=jN (xs:=xs) (ys:=ys) oz (λj hj=>ah j oz);simp[this];done) | (symm;rw[decide_eq_false_iff_not];intro e;subst e;simp_all;done)))
 ·
  refine aj (nx (af (aJ tb V [0,1,1001,1002] [_,.int (xs.length:Nat),_] [1] U4 Y ⟨aD b6,U⟩ ?_)))
  refine ax (lp (ι:=Nat) (λk=>(k<=xs.length)/\(∀ j,j<k->G xs j=G ys j)) (λk=>[(13,.int (k:Nat))]) (λk=>xs.length-k) [0,1,2,3] U3 0 ⟨aI,λj hj=>by omega⟩ ?_)
  rintro k ⟨aQ,ah⟩
  refine qs tb V [0,1,2,3,1000] [_] U5 ?_
  refine cI 4 ?_ ?_<;>intro hb2<;>try simp at hb2
  ·
   refine aj (nx (af (ax (qs tb V [0,1,2,3,1001] U2 U5 ?_))))
   refine aJ tb V [0,1,2,3,1008] [_,_,.ptr [lS (G xs k)],_,_,_,.ptr [lS (G ys k)],_,_] [2,6] U5 Y ⟨bn bx,bn bx,U⟩ ?_
   refine cj 4 ?_ ?_<;>intro aE<;>try simp at aE
   ·
    refine qs tb V [1000] [_] [_] ?_
    exact aU 0 (hE:=eB (by first | (have:=jN (xs:=xs) (ys:=ys) oz (λj hj=>ah j oz);simp[this];done) | (symm;rw[decide_eq_false_iff_not];intro e;subst e;simp_all;done)))
   ·
    refine aj (nx (dI tb V [0,1,2,1001] [.int (k+1:Nat),_] [0] U4 Y ⟨aM,U⟩ ?_))
    exact dO (k+1) [0,1,2,3] ⟨oz,cF ah aE⟩
  ·
   refine aW (nx (qs tb V [1000] [_] [_] ?_))
   exact aU 0 (hE:=eB (by first | (have:=jN (xs:=xs) (ys:=ys) oz (λj hj=>ah j oz);simp[this];done) | (symm;rw[decide_eq_false_iff_not];intro e;subst e;simp_all;done)))
theorem R1 (xs ys:List Int)  :Fn prog J 31 [.rd (bS xs),.rd (bS ys)] (.bool (decide (xs=ys))):=by
 refine fE func31 λS w0 hS hJ0=>?_
 clear hJ0
 refine ln 0 λ_=>?_
 refine ln 1 λ_=>?_
 refine qs tb V [0,1] [_] U2 ?_
 refine af (aJ tb V [0,1,1004] [_,.int (xs.length:Nat),_,.int (ys.length:Nat),_] [1,3] U3 Y ⟨aD eW,aD eW,U⟩ ?_)
 refine cj 2 ?_ ?_<;>intro hb1<;>try simp at hb1
 ·
  refine qs tb V [1000] [_] [_] ?_
  exact aU 0 (hE:=eB (by first | (have:=jN (xs:=xs) (ys:=ys) oz (λj hj=>ah j oz);simp[this];done) | (symm;rw[decide_eq_false_iff_not];intro e;subst e;simp_all;done)))
 ·
  refine aj (nx (af (aJ tb V [0,1,1001,1002] [_,.int (xs.length:Nat),_] [1] U4 Y ⟨aD eW,U⟩ ?_)))
  refine ax (lp (ι:=Nat) (λk=>(k<=xs.length)/\(∀ j,j<k->G xs j=G ys j)) (λk=>[(13,.int (k:Nat))]) (λk=>xs.length-k) [0,1,2,3] U3 0 ⟨aI,λj hj=>by omega⟩ ?_)
  rintro k ⟨aQ,ah⟩
  refine qs tb V [0,1,2,3,1000] [_] U5 ?_
  refine cI 4 ?_ ?_<;>intro hb2<;>try simp at hb2
  ·
   refine aj (nx (af (ax (qs tb V [0,1,2,3,1001] U2 U5 ?_))))
   refine aJ tb V [0,1,2,3,1008] [_,_,.ptr [lI (G xs k)],_,_,_,.ptr [lI (G ys k)],_,_] [2,6] U5 Y ⟨bn dc,bn dc,U⟩ ?_
   refine cj 4 ?_ ?_<;>intro aE<;>try simp at aE
   ·
    refine qs tb V [1000] [_] [_] ?_
    exact aU 0 (hE:=eB (by first | (have:=jN (xs:=xs) (ys:=ys) oz (λj hj=>ah j oz);simp[this];done) | (symm;rw[decide_eq_false_iff_not];intro e;subst e;simp_all;done)))
   ·
    refine aj (nx (dI tb V [0,1,2,1001] [.int (k+1:Nat),_] [0] U4 Y ⟨aM,U⟩ ?_))
    exact dO (k+1) [0,1,2,3] ⟨oz,cF ah aE⟩
  ·
   refine aW (nx (qs tb V [1000] [_] [_] ?_))
   exact aU 0 (hE:=eB (by first | (have:=jN (xs:=xs) (ys:=ys) oz (λj hj=>ah j oz);simp[this];done) | (symm;rw[decide_eq_false_iff_not];intro e;subst e;simp_all;done)))
theorem GC (xs:List BA) (b:xs.length*16<=140737488351232):eX (ι:=Value) prog J 87 [] [.rd (ai xs)] [] (λi'=>.lit (i')) (λi'=>[OB.row i' 9 1 (xs.map dJ)]):=by
 refine i7 func87 λS w0 R hS hJ0 hH=>?_
 refine gQ (B:=So J S w0 8 (R) [(0,.rd (ai xs))]) ?_ λa w h=>h
 refine ln 0 λ_=>?_
 refine ak tb V [0] [_] [_] ?_
 refine af (aL (ao 1 tb Y (uz (f:=dJ) (xs:=xs) b6 Y Y Y (lb Y) (λa w h=>(h.get 0 Y)) λg1 lW=>?_)))
 refine aA [0,2] U2 Y (nx (cj 0 (λhb1=>?_) λhb1=>?_))
 ·
  try simp at hb1
  refine ak tb V [1000] [_] [_] ?_
  refine tw (iK 9 1 V) (tw (ji (congrArg (λz'=>OB.row (.slice none 0 0) 9 1 ((z').map dJ)) (show([]:List BA)=xs from by first | exact(lW (by assumption)).symm | simp))) ?_)
  exact aZ (λa w h=>dt  (m:=0) (.slice none 0 0) Y h Y Y)
 ·
  try simp at hb1
  refine aj (nx (af (λa w h=>nZ (id:=3) (t:=22) (e:=9) (size:=1) (bytes:=16) (i0:=0) (dg:=3) (d:=2) (ch:=[(2,(xs.map dJ))]) (λix'=>([.any,.rd (ai xs),.any,.any]:List AV).getD ix' .any) (λ_=>true) [] (xs.map dJ) yz ?nY V hJ0 h cP Y Y Y Y ⟨?_,?_,?_,?_,U⟩ trivial (λv2=>?nU))))
  case nY=>
   refine Row.mk' j6 ⟨_,Y,Y,Y,Y,Y⟩ ⟨?oi,U⟩ ⟨_,_,_,_,Y,Y,Y,Y,Y,Y,Y,Y,Y⟩ Y Y Y
   case oi=>exact⟨_,_,_,_,Y,Y,Y,Y,Y,Y,Y,Y,je (f:=dJ) (λ_=>rfl),(by have hm:maxLen=9223372036854775807:=Y;simp[upto];first | omega | (simp;omega)),(by have hm:maxLen=9223372036854775807:=Y;simp[upto];first | omega | (simp;omega)),λ_ _ _ _ _ hl=>(hl.D 1 6 Y Y)⟩
  exact λh=>bB Y h
  exact λ_ _=>⟨Y,λ_ _ _ Z hl _=>b8 Y (hl.env 1 0 _ Y Y) Z⟩
  exact λh=>bB Y h
  exact λh=>bB Y h
  clear a w h
  exact nx (aZ (λa w h=>dt  (m:=0) v2 Y h Y Y))
theorem RP (xs:List Hy) (b:xs.length*48<=140737488351232):eX (ι:=Value) prog J 183 [] [.rd (bW xs)] [] (λi'=>.lit (i')) (λi'=>[OB.row i' 119 3 (xs.map aN)]):=by
 refine i7 func183 λS w0 R hS hJ0 hH=>?_
 refine gQ (B:=So J S w0 8 (R) [(0,.rd (bW xs))]) ?_ λa w h=>h
 refine ln 0 λ_=>?_
 refine ak tb V [0] [_] [_] ?_
 refine af (aL (ao 1 tb Y (uz (f:=aN) (xs:=xs) cT Y Y Y (lb Y) (λa w h=>(h.get 0 Y)) λg1 lW=>?_)))
 refine aA [0,2] U2 Y (nx (cj 0 (λhb1=>?_) λhb1=>?_))
 ·
  try simp at hb1
  refine ak tb V [1000] [_] [_] ?_
  refine tw (iK 119 3 V) (tw (ji (congrArg (λz'=>OB.row (.slice none 0 0) 119 3 ((z').map aN)) (show([]:List Hy)=xs from by first | exact(lW (by assumption)).symm | simp))) ?_)
  exact aZ (λa w h=>dt  (m:=0) (.slice none 0 0) Y h Y Y)
 ·
  try simp at hb1
  refine aj (nx (af (λa w h=>nZ (id:=3) (t:=69) (e:=119) (size:=3) (bytes:=48) (i0:=0) (dg:=3) (d:=2) (ch:=[(2,(xs.map aN))]) (λix'=>([.any,.rd (bW xs),.any,.any]:List AV).getD ix' .any) (λ_=>true) [] (xs.map aN) yz ?nY V hJ0 h cP Y Y Y Y ⟨?_,?_,?_,?_,U⟩ trivial (λv2=>?nU))))
  case nY=>
   refine Row.mk' nl ⟨_,Y,Y,Y,Y,Y⟩ ⟨?oi,U⟩ ⟨_,_,_,_,Y,Y,Y,Y,Y,Y,Y,Y,Y⟩ Y Y Y
   case oi=>exact⟨_,_,_,_,Y,Y,Y,Y,Y,Y,Y,Y,je (f:=aN) (λ_=>rfl),(by have hm:maxLen=9223372036854775807:=Y;simp[upto];first | omega | (simp;omega)),(by have hm:maxLen=9223372036854775807:=Y;simp[upto];first | omega | (simp;omega)),λ_ _ _ _ _ hl=>(hl.D 1 6 Y Y)⟩
  exact λh=>bB Y h
  exact λ_ _=>⟨Y,λ_ _ _ Z hl _=>b8 Y (hl.env 1 0 _ Y Y) Z⟩
  exact λh=>bB Y h
  exact λh=>bB Y h
  clear a w h
  exact nx (aZ (λa w h=>dt  (m:=0) v2 Y h Y Y))
theorem RQ (xs:List Pr) (b:xs.length*32<=140737488351232):eX (ι:=Value) prog J 243 [] [.rd (bI xs)] [] (λi'=>.lit (i')) (λi'=>[OB.row i' 162 2 (xs.map aR)]):=by
 refine i7 func243 λS w0 R hS hJ0 hH=>?_
 refine gQ (B:=So J S w0 8 (R) [(0,.rd (bI xs))]) ?_ λa w h=>h
 refine ln 0 λ_=>?_
 refine ak tb V [0] [_] [_] ?_
 refine af (aL (ao 1 tb Y (uz (f:=aR) (xs:=xs) fH Y Y Y (lb Y) (λa w h=>(h.get 0 Y)) λg1 lW=>?_)))
 refine aA [0,2] U2 Y (nx (cj 0 (λhb1=>?_) λhb1=>?_))
 ·
  try simp at hb1
  refine ak tb V [1000] [_] [_] ?_
  refine tw (iK 162 2 V) (tw (ji (congrArg (λz'=>OB.row (.slice none 0 0) 162 2 ((z').map aR)) (show([]:List Pr)=xs from by first | exact(lW (by assumption)).symm | simp))) ?_)
  exact aZ (λa w h=>dt  (m:=0) (.slice none 0 0) Y h Y Y)
 ·
  try simp at hb1
  refine aj (nx (af (λa w h=>nZ (id:=3) (t:=70) (e:=162) (size:=2) (bytes:=32) (i0:=0) (dg:=3) (d:=2) (ch:=[(2,(xs.map aR))]) (λix'=>([.any,.rd (bI xs),.any,.any]:List AV).getD ix' .any) (λ_=>true) [] (xs.map aR) yz ?nY V hJ0 h cP Y Y Y Y ⟨?_,?_,?_,?_,U⟩ trivial (λv2=>?nU))))
  case nY=>
   refine Row.mk' u4 ⟨_,Y,Y,Y,Y,Y⟩ ⟨?oi,U⟩ ⟨_,_,_,_,Y,Y,Y,Y,Y,Y,Y,Y,Y⟩ Y Y Y
   case oi=>exact⟨_,_,_,_,Y,Y,Y,Y,Y,Y,Y,Y,je (f:=aR) (λ_=>rfl),(by have hm:maxLen=9223372036854775807:=Y;simp[upto];first | omega | (simp;omega)),(by have hm:maxLen=9223372036854775807:=Y;simp[upto];first | omega | (simp;omega)),λ_ _ _ _ _ hl=>(hl.D 1 6 Y Y)⟩
  exact λh=>bB Y h
  exact λ_ _=>⟨Y,λ_ _ _ Z hl _=>b8 Y (hl.env 1 0 _ Y Y) Z⟩
  exact λh=>bB Y h
  exact λh=>bB Y h
  clear a w h
  exact nx (aZ (λa w h=>dt  (m:=0) v2 Y h Y Y))
end
theorem RZ {J:WP} (V:aS J) (v:Value) (xs:List Hy) (f:FuncId) (caps:List AV) (Os Hs:List OB) (p:Hy->Bool) (hf:∀ q',cM prog J f (Os++Hs) ([.agg (aN (q'))]++caps) (.bool (p q'))) (hk0:dL prog f) (hn:xs.length<=9223372036854775807):eX (ι:=Unit) prog J 182 Hs [.lit v,.fn f caps] (OB.row v 119 3 (xs.map aN)::Os) (λ_=>.rd (bW (xs.filter λx'=>!p x'))) (λ_=>(Os)):=by
 refine i7 func182 λS w0 R hS hJ0 hH=>?_
 refine gQ (B:=So J S w0 42 (OB.row v 119 3 (xs.map aN)::(Os++R)) [(0,.lit v),(1,.fn f caps)]) ?_ λa w h=>h
 refine ak tb V [0,1] [_] U2 ?_
 refine lZ tb V [0,1,1003] [_,_,.int (cH p xs),_] [2] U3 Y ⟨λ_ _ hk Z hl _=>dE (GI V xs f caps (Os++Hs) p (hf) (hk0)) (cO func187) Y (nm hS hk) (Z.1) (we (λ_ ho=>ug Z (mem_cons_of_mem _ (mem_append_left _ ho))) (λ_ ho=>EP hH hk Z ho)) (aq (kB hS Z (mo 0 Y) (hl.D 0 8 Y Y)) (aq (hl.D 1 9 Y Y) aP)) (jo V Z),U⟩ ?_
 refine af (ak tb V [0,1,2,1001] U2 U4 ?_)
 refine cj 3 ?_ ?_<;>intro hb1
 ·
  have e1:=of_decide_eq_true hb1
  refine ak tb V [1001] U2 [_] ?_
  exact tw (λh=>dV hS h (m:=0) (s:=4) Y) (aZ (λa w h=>dt  (m:=0) () Y h Y (congrArg (λz=>AV.rd (bW z)) (show xs=(xs.filter λx'=>!p x')from by first | exact fu.none e1 | exact aQ.fin (by have:=aQ.len;omega)))))
 ·
  have e1:=of_decide_eq_false hb1
  refine aj (nx (af (tw (sa 2 Y (congrArg AV.int (show cH p xs=(((cH p xs).toNat:Nat):Int)from by have:=oQ e1;omega))) (au tb V [0,1,2,1002] [_,.int ((cH p xs).toNat+1:Nat),_] [1] U4 Y ⟨aM (h0:=by have:=(oQ e1).2.1;omega),U⟩ ?_))))
  refine ax (lpo (ι:=Nat×Nat×(List Hy)×Value) (λ(i,j,ys,_)=>(fu p xs ys i j)) (λ(_,_,ys,vo)=>(OB.row vo 119 3 (ys.map aN)::(Os++R))) (λ(i,j,_,vo)=>[(5,.int (i:Nat)),(6,.int (j:Nat)),(0,.lit vo)]) (λ(_,j,_,_)=>xs.length-j) [1,2,3,0] [_] ((cH p xs).toNat,(cH p xs).toNat+1,xs,v) (show(fu p xs xs ((cH p xs).toNat) ((cH p xs).toNat+1))from fu.init e1) ?_)
  rintro⟨i,j,ys,vo⟩ hF
  have aQ:fu p xs ys i j:=hF
  refine af (lZ tb V [0,1,2,3,1003] [_,_,.int (ys.length:Nat),_] [2] U5 Y ⟨λ_ _ _ Z hl _=>kh cT Y (kB hS Z (mo 0 Y) (hl.D 1 17 Y Y)) Z,U⟩ ?_)
  refine cj 4 ?_ ?_<;>intro hb2<;>try simp at hb2
  ·
   refine aj (nx (af (ax (aL (ao 2 tb Y (sy (.lit (cA vo (j*3))) (λh=>eQ (i:=(j:Int)) cD Y (aH h.x (mo 0 Y)) (h.get 1 Y) (h.get 0 Y) bM (by rw[length_map];exact Int.ofNat_lt.2 oz) h.x) ?_))))))
   refine sy (.agg (aN (G ys j))) (λh=>oW (i:=j) nk Y (aH h.x (mo 0 Y)) (h.get 0 Y) (ir (xs:=ys) (k:=j) oz) Y h.x) ?_
   refine iJ (cs:=aN (G ys j)) su Y Y Y (lb Y) Y Y Y dz (m:=0) Y Y (λa w h=>aK hS _ h.keep h.x _ aV) (λa w h w' hk'=>fi V _ _ hk' h.x) ?_
   refine aA [0,5,6,7,8] U5 Y (nx (au tb V (r5 [1003]) [_,_,.bool (p (G ys j)),_] [2] U6 Y ⟨λ_ _ hk Z hl _=>iW (hf (G ys j)) hk0 Y (hl.D 0 26 Y Y) (aK hS _ hk Z) (Z.1) (we (λ_ ho=>aH Z (mem_cons_of_mem _ (mem_append_left _ ho))) (λ_ ho=>dD hH hk Z ho)) (aq (hl.D 1 27 Y Y) aP) (jo V Z),U⟩ ?_))
   refine cj 5 ?_ ?_<;>intro aE<;>try simp at aE
   ·
    refine aL (ao 3 tb Y (sy (.lit (cA vo (i*3))) (λh=>eQ (i:=(i:Int)) cD Y (aH h.x (mo 0 Y)) (h.get 2 Y) (h.get 1 Y) bM (by rw[length_map];exact Int.ofNat_lt.2 (by have:=aQ.le;omega)) h.x) ?_))
    refine xF (i:=i) V hJ0 jn Y Y Y (by rw[length_map];exact(by have:=aQ.le;omega)) Y (λa w h=>⟨(h.get 0 Y),(h.get 1 Y)⟩) ?_
    rw[show(ys.map aN).set i (aN (G ys j))=(ys.set i (G ys j)).map aN from map_set.symm]
    refine aA [5,6,7,8] U4 Y (nx (aT tb V [0,2,3,1002] [_,.int (i+1:Nat),_] [1] U4 Y ⟨aM (h0:=by have:=aQ.le;have:=aQ.len;omega),U⟩ ?_))
    refine nx (aT tb V [0,2,3,1002] [_,.int (j+1:Nat),_] [1] U4 Y ⟨aM (h0:=by have:=aQ.lt;have:=aQ.len;omega),U⟩ ?_)
    exact bq (i+1,j+1,ys.set i (G ys j),vo) [0,2,3,1] (show(fu p xs (ys.set i (G ys j)) (i+1) (j+1))from aQ.keep (by have:=aQ.len;omega) (by simpa using aE)) (hm:=(show xs.length-(j+1)<xs.length-j from by have:=aQ.lt;have:=aQ.len;omega))
   ·
    refine aj (nx (aT tb V [1,2,4,1002] [_,.int (j+1:Nat),_] [1] U4 Y ⟨aM (h0:=by have:=aQ.lt;have:=aQ.len;omega),U⟩ ?_))
    exact bq (i,j+1,ys,vo) [0,1,3,2] (show(fu p xs ys i (j+1))from aQ.skip (by have:=aQ.len;omega) (by simpa using aE)) (hm:=(show xs.length-(j+1)<xs.length-j from by have:=aQ.lt;have:=aQ.len;omega))
  ·
   refine aW (nx (aL (ao 2 tb Y (sy (.lit (jF vo i 3)) (λh=>xg (lo:=i) cD Y (aH h.x (mo 0 Y)) (h.get 1 Y) (h.get 0 Y) (by rw[length_map];exact(by have:=aQ.le;have:=aQ.lt;have:=aQ.len;omega)) h.x) ?_))))
   refine BN (lo:=i) WM cT dz V hJ0 Y Y Y (by rw[length_map];exact(by have:=aQ.le;have:=aQ.lt;have:=aQ.len;omega)) (λa w h=>(h.get 0 Y)) ?_
   rw[<-List.map_take]
   refine aA [4,6] U2 Y (nx (au tb V [1003] [_,_,.lit (du vo i),_] [2] [_] Y ⟨λ_ _ _ Z hl _=>qt (m:=i) cD Y (aH Z (mo 0 Y)) (by first | rfl | (rw[length_map];exact(by have:=aQ.le;have:=aQ.lt;have:=aQ.len;simp;omega))) (hl.D 0 39 Y Y) (hl.D 1 40 Y Y) Z,U⟩ ?_))
   exact tw (λh=>dV hS h (m:=0) (s:=4) Y) (aZ (λa w h=>dt  (m:=0) () Y h Y (congrArg (λz=>AV.rd (bW z)) (show(ys.take i)=(xs.filter λx'=>!p x')from by first | exact fu.none e1 | exact aQ.fin (by have:=aQ.len;omega)))))
theorem R0 {J:WP} (V:aS J) (v:Value) (xs:List Pr) (f:FuncId) (caps:List AV) (Os Hs:List OB) (p:Pr->Bool) (hf:∀ q',cM prog J f (Os++Hs) ([.agg (aR (q'))]++caps) (.bool (p q'))) (hk0:dL prog f) (hn:xs.length<=9223372036854775807):eX (ι:=Unit) prog J 242 Hs [.lit v,.fn f caps] (OB.row v 162 2 (xs.map aR)::Os) (λ_=>.rd (bI (xs.filter λx'=>!p x'))) (λ_=>(Os)):=by
 refine i7 func242 λS w0 R hS hJ0 hH=>?_
 refine gQ (B:=So J S w0 42 (OB.row v 162 2 (xs.map aR)::(Os++R)) [(0,.lit v),(1,.fn f caps)]) ?_ λa w h=>h
 refine ak tb V [0,1] [_] U2 ?_
 refine lZ tb V [0,1,1003] [_,_,.int (cH p xs),_] [2] U3 Y ⟨λ_ _ hk Z hl _=>dE (Sa V xs f caps (Os++Hs) p (hf) (hk0)) (cO func257) Y (nm hS hk) (Z.1) (we (λ_ ho=>ug Z (mem_cons_of_mem _ (mem_append_left _ ho))) (λ_ ho=>EP hH hk Z ho)) (aq (kB hS Z (mo 0 Y) (hl.D 0 8 Y Y)) (aq (hl.D 1 9 Y Y) aP)) (jo V Z),U⟩ ?_
 refine af (ak tb V [0,1,2,1001] U2 U4 ?_)
 refine cj 3 ?_ ?_<;>intro hb1
 ·
  have e1:=of_decide_eq_true hb1
  refine ak tb V [1001] U2 [_] ?_
  exact tw (λh=>dV hS h (m:=0) (s:=4) Y) (aZ (λa w h=>dt  (m:=0) () Y h Y (congrArg (λz=>AV.rd (bI z)) (show xs=(xs.filter λx'=>!p x')from by first | exact fu.none e1 | exact aQ.fin (by have:=aQ.len;omega)))))
 ·
  have e1:=of_decide_eq_false hb1
  refine aj (nx (af (tw (sa 2 Y (congrArg AV.int (show cH p xs=(((cH p xs).toNat:Nat):Int)from by have:=oQ e1;omega))) (au tb V [0,1,2,1002] [_,.int ((cH p xs).toNat+1:Nat),_] [1] U4 Y ⟨aM (h0:=by have:=(oQ e1).2.1;omega),U⟩ ?_))))
  refine ax (lpo (ι:=Nat×Nat×(List Pr)×Value) (λ(i,j,ys,_)=>(fu p xs ys i j)) (λ(_,_,ys,vo)=>(OB.row vo 162 2 (ys.map aR)::(Os++R))) (λ(i,j,_,vo)=>[(5,.int (i:Nat)),(6,.int (j:Nat)),(0,.lit vo)]) (λ(_,j,_,_)=>xs.length-j) [1,2,3,0] [_] ((cH p xs).toNat,(cH p xs).toNat+1,xs,v) (show(fu p xs xs ((cH p xs).toNat) ((cH p xs).toNat+1))from fu.init e1) ?_)
  rintro⟨i,j,ys,vo⟩ hF
  have aQ:fu p xs ys i j:=hF
  refine af (lZ tb V [0,1,2,3,1003] [_,_,.int (ys.length:Nat),_] [2] U5 Y ⟨λ_ _ _ Z hl _=>kh fH Y (kB hS Z (mo 0 Y) (hl.D 1 17 Y Y)) Z,U⟩ ?_)
  refine cj 4 ?_ ?_<;>intro hb2<;>try simp at hb2
  ·
   refine aj (nx (af (ax (aL (ao 2 tb Y (sy (.lit (cA vo (j*2))) (λh=>eQ (i:=(j:Int)) de Y (aH h.x (mo 0 Y)) (h.get 1 Y) (h.get 0 Y) bM (by rw[length_map];exact Int.ofNat_lt.2 oz) h.x) ?_))))))
   refine sy (.agg (aR (G ys j))) (λh=>oW (i:=j) ju Y (aH h.x (mo 0 Y)) (h.get 0 Y) (ir (xs:=ys) (k:=j) oz) Y h.x) ?_
   refine iJ (cs:=aR (G ys j)) xX Y Y Y (lb Y) Y Y Y dz (m:=0) Y Y (λa w h=>aK hS _ h.keep h.x _ aV) (λa w h w' hk'=>fi V _ _ hk' h.x) ?_
   refine aA [0,5,6,7,8] U5 Y (nx (au tb V (r5 [1003]) [_,_,.bool (p (G ys j)),_] [2] U6 Y ⟨λ_ _ hk Z hl _=>iW (hf (G ys j)) hk0 Y (hl.D 0 26 Y Y) (aK hS _ hk Z) (Z.1) (we (λ_ ho=>aH Z (mem_cons_of_mem _ (mem_append_left _ ho))) (λ_ ho=>dD hH hk Z ho)) (aq (hl.D 1 27 Y Y) aP) (jo V Z),U⟩ ?_))
   refine cj 5 ?_ ?_<;>intro aE<;>try simp at aE
   ·
    refine aL (ao 3 tb Y (sy (.lit (cA vo (i*2))) (λh=>eQ (i:=(i:Int)) de Y (aH h.x (mo 0 Y)) (h.get 2 Y) (h.get 1 Y) bM (by rw[length_map];exact Int.ofNat_lt.2 (by have:=aQ.le;omega)) h.x) ?_))
    refine xF (i:=i) V hJ0 jZ Y Y Y (by rw[length_map];exact(by have:=aQ.le;omega)) Y (λa w h=>⟨(h.get 0 Y),(h.get 1 Y)⟩) ?_
    rw[show(ys.map aR).set i (aR (G ys j))=(ys.set i (G ys j)).map aR from map_set.symm]
    refine aA [5,6,7,8] U4 Y (nx (aT tb V [0,2,3,1002] [_,.int (i+1:Nat),_] [1] U4 Y ⟨aM (h0:=by have:=aQ.le;have:=aQ.len;omega),U⟩ ?_))
    refine nx (aT tb V [0,2,3,1002] [_,.int (j+1:Nat),_] [1] U4 Y ⟨aM (h0:=by have:=aQ.lt;have:=aQ.len;omega),U⟩ ?_)
    exact bq (i+1,j+1,ys.set i (G ys j),vo) [0,2,3,1] (show(fu p xs (ys.set i (G ys j)) (i+1) (j+1))from aQ.keep (by have:=aQ.len;omega) (by simpa using aE)) (hm:=(show xs.length-(j+1)<xs.length-j from by have:=aQ.lt;have:=aQ.len;omega))
   ·
    refine aj (nx (aT tb V [1,2,4,1002] [_,.int (j+1:Nat),_] [1] U4 Y ⟨aM (h0:=by have:=aQ.lt;have:=aQ.len;omega),U⟩ ?_))
    exact bq (i,j+1,ys,vo) [0,1,3,2] (show(fu p xs ys i (j+1))from aQ.skip (by have:=aQ.len;omega) (by simpa using aE)) (hm:=(show xs.length-(j+1)<xs.length-j from by have:=aQ.lt;have:=aQ.len;omega))
  ·
   refine aW (nx (aL (ao 2 tb Y (sy (.lit (jF vo i 2)) (λh=>xg (lo:=i) de Y (aH h.x (mo 0 Y)) (h.get 1 Y) (h.get 0 Y) (by rw[length_map];exact(by have:=aQ.le;have:=aQ.lt;have:=aQ.len;omega)) h.x) ?_))))
   refine BN (lo:=i) Jf fH dz V hJ0 Y Y Y (by rw[length_map];exact(by have:=aQ.le;have:=aQ.lt;have:=aQ.len;omega)) (λa w h=>(h.get 0 Y)) ?_
   rw[<-List.map_take]
   refine aA [4,6] U2 Y (nx (au tb V [1003] [_,_,.lit (du vo i),_] [2] [_] Y ⟨λ_ _ _ Z hl _=>qt (m:=i) de Y (aH Z (mo 0 Y)) (by first | rfl | (rw[length_map];exact(by have:=aQ.le;have:=aQ.lt;have:=aQ.len;simp;omega))) (hl.D 0 39 Y Y) (hl.D 1 40 Y Y) Z,U⟩ ?_))
   exact tw (λh=>dV hS h (m:=0) (s:=4) Y) (aZ (λa w h=>dt  (m:=0) () Y h Y (congrArg (λz=>AV.rd (bI z)) (show(ys.take i)=(xs.filter λx'=>!p x')from by first | exact fu.none e1 | exact aQ.fin (by have:=aQ.len;omega)))))
end
end Go.Proofs.YtdfadihhfppjaaaGreatDoor
