/-
  Part of the proof that MinimizeChecks returns true. Conditions: none.
-/
import Derived.Test.YtdfadihhfppjaaaGreatDoorBES
import Derived.Laws.StructEq
import Derived.Test.YtdfadihhfppjaaaGreatDoorBEN
namespace Go.Proofs.YtdfadihhfppjaaaGreatDoor
set_option maxRecDepth 100000
set_option maxHeartbeats 8000000
open Go.Proofs.Tryz
open List (append_assoc drop_zero length_map map_set mem_append_left mem_cons mem_cons_of_mem not_mem_nil take_length)
section
open Go.RowKit
theorem fO {s k o:Nat} (h:db prog s k o:=by exact λb off w=>by kernel_rfl):db prog s k o:=h
theorem eO {s k o:Nat} (h:dA prog s k o:=by exact⟨by kernel_rfl,λw=>by kernel_rfl⟩):dA prog s k o:=h
theorem nO {s:Nat} (h:eu prog s:=by exact λw=>by kernel_rfl):eu prog s:=h
theorem aO {s k:Nat} (h:fY prog s k:=by exact⟨λw=>by kernel_rfl,λw=>by kernel_rfl⟩):fY prog s k:=h
theorem zO {s k:Nat} (h:dV prog s k:=by exact λw=>by kernel_rfl):dV prog s k:=h
theorem cU:prog.follows .mixedOrders=true:=by kernel_rfl
theorem TL:(prog.fieldsOf 162).toList=[{ name:= "A",type:=9,offset:=0,embedded:=false,tag:= "",pkgPath:= "",byteOffset:=0 }, { name:= "B",type:=9,offset:=1,embedded:=false,tag:= "",pkgPath:= "",byteOffset:=16 }]:=by kernel_rfl
theorem TM:prog.underlying 162=some (.struct (prog.fieldsOf 162)):=by kernel_rfl
theorem Jk:prog.underlying 9=some .string:=by kernel_rfl
theorem U1 (c:Array Value) (i:Nat) (v:Value) (h:c[i]?=some v) (w:World):(part 9 c i).run prog w= .ok v w:=by
 simp[part,isAgg9,h]
theorem ru:yw prog 162:=by
 intro a b c d w x y
 refine⟨by simp[eqGuard],by simp[eqGuard],?_⟩
 unfold Op.equal Op.maxDepth
 rw[run_equalIn_struct w 9999 162 _ _ TM (by kernel_rfl),TL]
 have e1:=λ(c:Array Value) (v:Value) (i:Nat) (h:c[i]?=some v)=>U1 c i v h
 have q1:=run_equalIn_string (P:=prog) w 9998 9 a c Jk
 have q2:=run_equalIn_string (P:=prog) w 9998 9 b d Jk
 rw[rn]at q1 q2
 simp only[Op.eqFields]
 rw[if_pos dz,if_pos dz]
 simp only[Sem.run_bind]
 rw[e1 _ (.string a) 0 rfl w,Result.andThen_ok,e1 _ (.string c) 0 rfl w,Result.andThen_ok,q1,Result.andThen_ok]
 by_cases h1:a=c
 ·simp only[h1,decide_true,Bool.not_true,Bool.false_eq_true,if_false,Sem.run_bind]
  rw[e1 _ (.string b) 1 rfl w,Result.andThen_ok,e1 _ (.string d) 1 rfl w,Result.andThen_ok,q2,Result.andThen_ok]
  by_cases h2:b=d
  ·simp[h2,Sem.run_pure]
  ·simp[h2,Sem.run_pure]
 ·simp[h1,Sem.run_pure]
theorem b7:prog.underlying 22=some (.slice 9):=by kernel_rfl
theorem bz:dA prog 22 9 1:=eO
theorem fh:eu prog 9:=nO
theorem fQ:prog.underlying 70=some (.slice 162):=by kernel_rfl
theorem df:dA prog 70 162 2:=eO
theorem jE:fY prog 162 2:=aO
theorem kP:prog.underlying 9=some .string:=by kernel_rfl
theorem tB:db prog 72 2 2:=fO
theorem si:eu prog 69:=nO
theorem NR:db prog 72 5 5:=fO
theorem nG:jA prog 69 119 3 48:=oF (.agg #[.string ⟨#[]⟩,.bool false,.slice none 0 0]) (by kernel_rfl) (by kernel_rfl) rfl dz (λw=>by kernel_rfl)
theorem xl:eu prog 4:=nO
theorem lX:db prog 119 2 2:=fO
theorem ip:eu prog 22:=nO
theorem wl:db prog 119 0 0:=fO
theorem Jm:prog.underlying 4=some .bool:=by kernel_rfl
theorem zF:db prog 25 1 1:=fO
theorem vf:fY prog 25 3:=aO
theorem tv:db prog 162 0 0:=fO
theorem tz:db prog 162 1 1:=fO
theorem Cs:kb prog 162:=⟨.agg #[.string ⟨#[]⟩,.string ⟨#[]⟩],λw=>by kernel_rfl⟩
theorem vk:jA prog 70 162 2 32:=oF (.agg #[.string ⟨#[]⟩,.string ⟨#[]⟩]) (by kernel_rfl) (by kernel_rfl) rfl dz (λw=>by kernel_rfl)
theorem sH:prog.underlying 62=some (.slice 22):=by kernel_rfl
theorem eG:dA prog 62 22 1:=eO
theorem j7:kb prog 9:=⟨.string ⟨#[]⟩,λw=>by kernel_rfl⟩
theorem ke:jA prog 22 9 1 16:=oF (.string ⟨#[]⟩) (by kernel_rfl) (by kernel_rfl) rfl dz (λw=>by kernel_rfl)
theorem cW:prog.underlying 69=some (.slice 119):=by kernel_rfl
theorem cL:dA prog 69 119 3:=eO
theorem ra:kb prog 22:=⟨.slice none 0 0,λw=>by kernel_rfl⟩
theorem sP:jA prog 62 22 1 24:=oF (.slice none 0 0) (by kernel_rfl) (by kernel_rfl) rfl dz (λw=>by kernel_rfl)
theorem qa:db prog 25 2 2:=fO
theorem qA:eu prog 23:=nO
theorem fT:dA prog 23 72 8:=eO
theorem pI:fY prog 72 8:=aO
theorem EC:db prog 72 0 0:=fO
theorem nF:fY prog 119 3:=aO
theorem NQ:db prog 72 4 4:=fO
theorem zJ:db prog 72 6 6:=fO
theorem sj:eu prog 70:=nO
theorem ym:mz prog 162 2:=⟨(#[.string ⟨#[]⟩,.string ⟨#[]⟩]),rfl,by kernel_rfl⟩
theorem zI:db prog 72 3 3:=fO
theorem yn:mz prog 72 8:=⟨(#[.string ⟨#[]⟩,.bool false,.slice none 0 0,.slice none 0 0,.slice none 0 0,.slice none 0 0,.slice none 0 0,.slice none 0 0]),rfl,by kernel_rfl⟩
theorem NP:db prog 72 1 1:=fO
theorem nv:prog.underlying 23=some (.slice 72):=by kernel_rfl
theorem GP:eu prog 215:=nO
theorem iT:j8 prog 215 9 4 aB.kind:=⟨by kernel_rfl,by kernel_rfl⟩
theorem jQ:oB prog 4 (.bool false):=⟨(.bool false),λw=>by kernel_rfl,λS w=>Rel.aH _⟩
theorem NE:db prog 219 1 1:=fO
theorem uq:eu prog 213:=nO
theorem fb:prog.underlying 29=some (.slice 3):=by kernel_rfl
theorem c8:dA prog 29 3 1:=eO
theorem gd:eu prog 3:=nO
theorem sJ:mz prog 119 3:=⟨(#[.string ⟨#[]⟩,.bool false,.slice none 0 0]),rfl,by kernel_rfl⟩
theorem jx:dV prog 119 3:=zO
theorem Xu:mA prog 119 3:=⟨(.agg #[.string ⟨#[]⟩,.bool false,.slice none 0 0]),λw=>by kernel_rfl,rfl,by simp[Value.cells,Value.oneCell']⟩
theorem j6:dV prog 162 2:=zO
theorem JE:mA prog 162 2:=⟨(.agg #[.string ⟨#[]⟩,.string ⟨#[]⟩]),λw=>by kernel_rfl,rfl,by simp[Value.cells,Value.oneCell']⟩
theorem kR:gm prog 119 [.lit (.string ⟨#[]⟩),.lit (.bool false),.sl []]:=⟨(.agg #[.string ⟨#[]⟩,.bool false,.slice none 0 0]),λw=>by kernel_rfl,λS w=>(show bE S w [.lit (.string ⟨#[]⟩),.lit (.bool false),.sl []] [.string ⟨#[]⟩,.bool false,.slice none 0 0]from⟨.lit _ aI,.lit _ True.intro,.nil _ _ aI,trivial⟩)⟩
theorem Vt:dV prog 22 1:=zO
theorem Jw:gm prog 304 ((List.replicate 256 (0:UInt8)).map gi):=W0 (.agg (Array.replicate 256 (.int .u8 0))) (λw=>by kernel_rfl) (by simp[Value.cells])
theorem yi:prog.underlying 3=some (.int .i64):=by kernel_rfl
theorem WC:prog.underlying 5=some (.int .u8):=by kernel_rfl
theorem sQ:Cv prog 304 5 256:=⟨by kernel_rfl,λw=>by kernel_rfl,by decide⟩
theorem xU:dV prog 5 1:=zO
theorem CN:fY prog 304 256:=aO
theorem IG:dV prog 304 256:=zO
theorem WG:prog.underlying 186=some (.slice 5):=by kernel_rfl
theorem zq:dA prog 186 5 1:=eO
theorem RP:eu prog 5:=nO
theorem Xy:kb prog 5:=⟨.int .u8 0,λw=>by kernel_rfl⟩
theorem Xv:mA prog 5 1:=⟨(.int .u8 0),λw=>by kernel_rfl,rfl,by simp[Value.cells,Value.oneCell']⟩
theorem Jl:prog.underlying 322=some (.array 10 321):=by kernel_rfl
theorem xS:dV prog 321 4:=zO
theorem CO:fY prog 321 4:=aO
theorem Jx:gm prog 321 [.lit (.string ⟨#[]⟩),.lit (.bool false),.lit (.int .i64 0),.lit (.int .i64 0)]:=⟨(.agg #[.string ⟨#[]⟩,.bool false,.int .i64 0,.int .i64 0]),λw=>by kernel_rfl,λS w=>(show bE S w [.lit (.string ⟨#[]⟩),.lit (.bool false),.lit (.int .i64 0),.lit (.int .i64 0)] [.string ⟨#[]⟩,.bool false,.int .i64 0,.int .i64 0]from⟨.lit _ aI,.lit _ True.intro,.lit _ True.intro,.lit _ True.intro,trivial⟩)⟩
theorem NH:db prog 287 2 2:=fO
theorem NI:db prog 287 3 3:=fO
theorem Ck:prog.underlying 288=some (.slice 287):=by kernel_rfl
theorem zr:dA prog 288 287 4:=eO
theorem NM:db prog 321 0 0:=fO
theorem W3:mz prog 287 4:=⟨(#[.int .i64 0,.string ⟨#[]⟩,.slice none 0 0,.slice none 0 0]),rfl,by kernel_rfl⟩
theorem Xx:kb prog 287:=⟨.agg #[.int .i64 0,.string ⟨#[]⟩,.slice none 0 0,.slice none 0 0],λw=>by kernel_rfl⟩
theorem NF:db prog 219 2 2:=fO
theorem Ez:db prog 244 1 1:=fO
theorem Bk:eu prog 217:=nO
theorem w9:j8 prog 217 9 9 aB.kind:=⟨by kernel_rfl,by kernel_rfl⟩
theorem JD:oB prog 9 (.str default):=⟨(.string ⟨#[]⟩),λw=>by kernel_rfl,λS w=>(show Rel S w (.str ⟨#[]⟩) _ from Rel.aH _ aI)⟩
theorem NG:db prog 219 4 4:=fO
theorem tA:db prog 219 3 3:=fO
theorem ur:eu prog 216:=nO
theorem uc:j8 prog 216 9 119 aB.kind:=⟨by kernel_rfl,by kernel_rfl⟩
theorem yt:oB prog 119 (.agg (aP default)):=⟨(.agg #[.string ⟨#[]⟩,.bool false,.slice none 0 0]),λw=>by kernel_rfl,λS w=>(show Rel S w (.agg [.lit (.string ⟨#[]⟩),.lit (.bool false),.sl []]) _ from(by simp only[Rel];exact⟨[.string ⟨#[]⟩,.bool false,.slice none 0 0],rfl,.lit _ aI,.lit _ True.intro,.nil _ _ aI,trivial⟩))⟩
theorem WE:prog.underlying 215=some (.map 9 4):=by kernel_rfl
theorem nw:gm prog 162 [.lit (.string ⟨#[]⟩),.lit (.string ⟨#[]⟩)]:=⟨(.agg #[.string ⟨#[]⟩,.string ⟨#[]⟩]),λw=>by kernel_rfl,λS w=>(show bE S w [.lit (.string ⟨#[]⟩),.lit (.string ⟨#[]⟩)] [.string ⟨#[]⟩,.string ⟨#[]⟩]from⟨.lit _ aI,.lit _ aI,trivial⟩)⟩
theorem Jp:prog.underlying 281=some (.slice 69):=by kernel_rfl
theorem vZ:dA prog 281 69 1:=eO
theorem WF:prog.underlying 217=some (.map 9 9):=by kernel_rfl
theorem WS:gm prog 244 [.lit (.map none),.lit (.map none)]:=⟨(.agg #[.map none,.map none]),λw=>by kernel_rfl,λS w=>(show bE S w [.lit (.map none),.lit (.map none)] [.map none,.map none]from⟨.lit _ True.intro,.lit _ True.intro,trivial⟩)⟩
theorem Vu:dV prog 244 2:=zO
theorem JG:mA prog 69 1:=⟨(.slice none 0 0),λw=>by kernel_rfl,rfl,by simp[Value.cells,Value.oneCell']⟩
theorem Jo:prog.underlying 165=some (.slice 182):=by kernel_rfl
theorem p6:dA prog 165 182 2:=eO
theorem W2:mz prog 182 2:=⟨(#[.string ⟨#[]⟩,.slice none 0 0]),rfl,by kernel_rfl⟩
theorem Ey:db prog 182 0 0:=fO
theorem A1:j8 prog 208 9 22 aB.kind:=⟨by kernel_rfl,by kernel_rfl⟩
theorem yu:oB prog 22 (.rd (ai default)):=⟨(.slice none 0 0),λw=>by kernel_rfl,λS w=>(show Rel S w (.rd (.sl [])) _ from(by simp only[Rel];exact .nil _ _ aI))⟩
theorem w8:j8 prog 214 9 4 aB.kind:=⟨by kernel_rfl,by kernel_rfl⟩
theorem II:dV prog 9 1:=zO
theorem JF:mA prog 3 1:=⟨(.int .i64 0),λw=>by kernel_rfl,rfl,by simp[Value.cells,Value.oneCell']⟩
theorem Jn:prog.underlying 230=some (.int .u64):=by kernel_rfl
theorem WY:gm prog 4 [.lit (.bool false)]:=⟨(.bool false),λw=>by kernel_rfl,λS w=>(show bE S w [.lit (.bool false)] [.bool false]from⟨.lit _ True.intro,trivial⟩)⟩
theorem WZ:gm prog 70 [.sl []]:=⟨(.slice none 0 0),λw=>by kernel_rfl,λS w=>(show bE S w [.sl []] [.slice none 0 0]from⟨.nil _ _ aI,trivial⟩)⟩
theorem Vy:dV prog 70 1:=zO
theorem qO:dV prog 4 1:=zO
theorem WB:prog.underlying 179=some (.array 2 69):=by kernel_rfl
theorem IH:dV prog 69 1:=zO
theorem Ct:kb prog 182:=⟨.agg #[.string ⟨#[]⟩,.slice none 0 0],λw=>by kernel_rfl⟩
theorem yH:jA prog 165 182 2 40:=oF (.agg #[.string ⟨#[]⟩,.slice none 0 0]) (by kernel_rfl) (by kernel_rfl) rfl dz (λw=>by kernel_rfl)
theorem ie:db prog 28 0 0:=fO
theorem iD:eu prog 26:=nO
theorem eo:prog.underlying 26=some (.slice 88):=by kernel_rfl
theorem eq:dA prog 26 88 2:=eO
theorem mQ:db prog 88 1 1:=fO
theorem iV:eu prog 29:=nO
theorem ee:fY prog 28 1:=aO
theorem oD:fY prog 88 2:=aO
theorem WW:gm prog 3 [.lit (.int .i64 0)]:=⟨(.int .i64 0),λw=>by kernel_rfl,λS w=>(show bE S w [.lit (.int .i64 0)] [.int .i64 0]from⟨.lit _ True.intro,trivial⟩)⟩
theorem mw:gm prog 88 [.lit (.string ⟨#[]⟩),.sl []]:=⟨(.agg #[.string ⟨#[]⟩,.slice none 0 0]),λw=>by kernel_rfl,λS w=>(show bE S w [.lit (.string ⟨#[]⟩),.sl []] [.string ⟨#[]⟩,.slice none 0 0]from⟨.lit _ aI,.nil _ _ aI,trivial⟩)⟩
theorem qN:dV prog 3 1:=zO
theorem mt:dV prog 88 2:=zO
theorem oN:db prog 113 2 4:=fO
theorem qB:eu prog 62:=nO
theorem rz:db prog 113 0 0:=fO
theorem zE:db prog 113 1 3:=fO
theorem ED:db prog 88 0 0:=fO
theorem sI:gm prog 64 [.lit (.int .i64 0),.lit (.int .i64 0)]:=⟨(.agg #[.int .i64 0,.int .i64 0]),λw=>by kernel_rfl,λS w=>(show bE S w [.lit (.int .i64 0),.lit (.int .i64 0)] [.int .i64 0,.int .i64 0]from⟨.lit _ True.intro,.lit _ True.intro,trivial⟩)⟩
theorem lL:dV prog 64 2:=zO
theorem oC:fY prog 64 2:=aO
theorem Vx:dV prog 62 1:=zO
theorem uo:eu prog 122:=nO
theorem nN:dA prog 122 4 1:=eO
theorem WO:gm prog 122 [.sl []]:=⟨(.slice none 0 0),λw=>by kernel_rfl,λS w=>(show bE S w [.sl []] [.slice none 0 0]from⟨.nil _ _ aI,trivial⟩)⟩
theorem Vq:dV prog 122 1:=zO
set_option maxRecDepth 100000 in
theorem Wk:∀ t∈[3,4,5,9,22,23,26,29,33,34,42,48,62,69,70,77,90,134,158,165,174,189,208,212,213,215,216,217],eu prog t:=by
 intro t h
 simp only[mem_cons,not_mem_nil,or_false]at h
 rcases h with rfl | rfl | rfl | rfl | rfl | rfl | rfl | rfl | rfl | rfl | rfl | rfl | rfl | rfl | rfl | rfl | rfl | rfl | rfl | rfl | rfl | rfl | rfl | rfl | rfl | rfl | rfl | rfl<;>exact λw=>by kernel_rfl
set_option maxRecDepth 100000 in
theorem Wi:∀ q∈[(25,3),(28,1),(31,6),(37,6),(64,2),(72,8),(88,2),(119,3),(162,2),(182,2),(244,2),(287,4),(321,4)],fY prog q.1 q.2:=by
 intro q h
 simp only[mem_cons,not_mem_nil,or_false]at h
 rcases h with rfl | rfl | rfl | rfl | rfl | rfl | rfl | rfl | rfl | rfl | rfl | rfl | rfl<;>exact⟨λw=>by kernel_rfl,λw=>by kernel_rfl⟩
set_option maxRecDepth 100000 in
theorem Wj:∀ q∈[(25,0,0),(25,1,1),(25,2,2),(28,0,0),(31,0,0),(31,1,1),(31,2,2),(31,3,3),(31,4,4),(31,5,5),(37,0,0),(37,1,1),(37,2,2),(37,3,3),(37,4,4),(37,5,5),(64,0,0),(64,1,1),(72,0,0),(72,1,1),(72,2,2),(72,3,3),(72,4,4),(72,5,5),(72,6,6),(72,7,7),(88,0,0),(88,1,1),(92,0,0),(92,1,3),(92,2,4),(92,3,5),(92,4,6),(92,5,7),(113,0,0),(113,1,3),(113,2,4),(119,0,0),(119,1,1),(119,2,2),(162,0,0),(162,1,1),(182,0,0),(182,1,1),(219,0,0),(219,1,1),(219,2,2),(219,3,3),(219,4,4),(244,0,0),(244,1,1),(287,0,0),(287,1,1),(287,2,2),(287,3,3),(321,0,0),(321,1,1),(321,2,2),(321,3,3)],db prog q.1 q.2.1 q.2.2:=by
 intro q h
 simp only[mem_cons,not_mem_nil,or_false]at h
 rcases h with rfl | rfl | rfl | rfl | rfl | rfl | rfl | rfl | rfl | rfl | rfl | rfl | rfl | rfl | rfl | rfl | rfl | rfl | rfl | rfl | rfl | rfl | rfl | rfl | rfl | rfl | rfl | rfl | rfl | rfl | rfl | rfl | rfl | rfl | rfl | rfl | rfl | rfl | rfl | rfl | rfl | rfl | rfl | rfl | rfl | rfl | rfl | rfl | rfl | rfl | rfl | rfl | rfl | rfl | rfl | rfl | rfl | rfl | rfl<;>exact λb off w=>by kernel_rfl
def tb:gz prog where
 one:=qf [3,4,5,9,22,23,26,29,33,34,42,48,62,69,70,77,90,134,158,165,174,189,208,212,213,215,216,217]
 agg:=wZ [(25,3),(28,1),(31,6),(37,6),(64,2),(72,8),(88,2),(119,3),(162,2),(182,2),(244,2),(287,4),(321,4)]
 zD:=w4 [(25,0,0),(25,1,1),(25,2,2),(28,0,0),(31,0,0),(31,1,1),(31,2,2),(31,3,3),(31,4,4),(31,5,5),(37,0,0),(37,1,1),(37,2,2),(37,3,3),(37,4,4),(37,5,5),(64,0,0),(64,1,1),(72,0,0),(72,1,1),(72,2,2),(72,3,3),(72,4,4),(72,5,5),(72,6,6),(72,7,7),(88,0,0),(88,1,1),(92,0,0),(92,1,3),(92,2,4),(92,3,5),(92,4,6),(92,5,7),(113,0,0),(113,1,3),(113,2,4),(119,0,0),(119,1,1),(119,2,2),(162,0,0),(162,1,1),(182,0,0),(182,1,1),(219,0,0),(219,1,1),(219,2,2),(219,3,3),(219,4,4),(244,0,0),(244,1,1),(287,0,0),(287,1,1),(287,2,2),(287,3,3),(321,0,0),(321,1,1),(321,2,2),(321,3,3)]
 h1:=λt h=>Wk t (E8 h)
 h2:=λt k h=>Wi (t,k+1) (F8 h)
 h3:=λs f d h=>Wj (s,f,d) (F9 h)
 mix:=cU
section
variable {J:WP} (V:aR J)
include V
theorem jT (xs:List BA) (s:BA)  :Fn prog J 154 [.rd (ai xs),.str s] (.bool (decide (s∈xs))):=by
 refine fE func154 λS w0 hS hJ0=>?_
 clear hJ0
 refine ln 0 λ_=>?_
 refine qs tb V [0,1] [_] U2 ?_
 refine af (qs tb V [0,1,1000] [_] U3 ?_)
 refine ax (lp (ι:=Nat) (λk=>(k<=xs.length)/\(∀ j,j<k->G xs j≠s)) (λk=>[(5,.int (k:Nat))]) (λk=>xs.length-k) [0,1,2] U2 0 (show(0<=xs.length)/\(∀ j,j<0->G xs j≠s)from by first | trivial | grind) ?_)
 rintro k ⟨aQ,ah⟩
 refine af (aJ tb V [0,1,2,1003] [_,_,.int (xs.length:Nat),_] [2] U4 Y ⟨aC b7,U⟩ ?_)
 refine cj 3 ?_ ?_<;>intro hb1<;>try simp at hb1
 ·refine ak (nx (af (ax (aJ tb V [0,1,2,1005] [_,_,.ptr [lS (G xs k)],_,_,_] [2] U4 Y ⟨bq bz,U⟩ ?_))))
  refine cj 3 ?_ ?_<;>intro hb2<;>try simp at hb2
  ·refine qs tb V [1000] [_] [_] ?_
   exact aU 0 (hE:=eB (by grind[aE]))
  ·refine ak (nx (dK tb V [0,1,1002] [_,.int (k+1:Nat),_] [1] U3 Y ⟨aM,U⟩ ?_))
   exact dM (k+1) [0,1,2] ⟨by first | omega | (simp;omega) | grind[aE],by first | omega | (simp;omega) | grind[aE]⟩
 ·refine aW (nx (qs tb V [1000] [_] [_] ?_))
  exact aU 0 (hE:=eB (by grind[ej]))
theorem Lk (xs ys:List BA)  :Fn prog J 235 [.rd (ai xs),.rd (ai ys)] (.bool (decide (xs=ys))):=by
 refine fE func235 λS w0 hS hJ0=>?_
 clear hJ0
 refine ln 0 λ_=>?_
 refine ln 1 λ_=>?_
 refine qs tb V [0,1] [_] U2 ?_
 refine af (aJ tb V [0,1,1004] [_,.int (xs.length:Nat),_,.int (ys.length:Nat),_] [1,3] U3 Y ⟨aC b7,aC b7,U⟩ ?_)
 refine cj 2 ?_ ?_<;>intro hb1<;>try simp at hb1
 ·refine qs tb V [1000] [_] [_] ?_
  exact aU 0 (hE:=eB (by first | rfl | grind[aE]))
 ·refine ak (nx (af (qs tb V [0,1,1000] [_] U3 ?_)))
  refine ax (lp (ι:=Nat) (λk=>(k<=xs.length)/\(∀ j,j<k->G xs j=G ys j)) (λk=>[(5,.int (k:Nat))]) (λk=>xs.length-k) [0,1,2] U2 0 (show(0<=xs.length)/\(∀ j,j<0->G xs j=G ys j)from by first | trivial | grind) ?_)
  rintro k ⟨aQ,ah⟩
  refine af (aJ tb V [0,1,2,1003] [_,_,.int (xs.length:Nat),_] [2] U4 Y ⟨aC b7,U⟩ ?_)
  refine cj 3 ?_ ?_<;>intro hb2<;>try simp at hb2
  ·refine ak (nx (af (ax (aJ tb V [0,1,2,1008] [_,_,.ptr [lS (G xs k)],_,_,_,.ptr [lS (G ys k)],_,_] [2,6] U4 Y ⟨bq bz,bq bz,U⟩ ?_))))
   refine cj 3 ?_ ?_<;>intro aD<;>try simp at aD
   ·refine qs tb V [1000] [_] [_] ?_
    exact aU 0 (hE:=eB (by first | rfl | grind[aE]))
   ·refine ak (nx (dK tb V [0,1,1002] [_,.int (k+1:Nat),_] [1] U3 Y ⟨aM,U⟩ ?_))
    exact dM (k+1) [0,1,2] ⟨by first | omega | (simp;omega) | grind[aE],by first | omega | (simp;omega) | grind[aE]⟩
  ·refine aW (nx (qs tb V [1000] [_] [_] ?_))
   exact aU 0 (hE:=eB (by have:=ib (xs:=xs) (ys:=ys) oz (λj hj=>ah j oz);simp[this]))
theorem Dx (xs ys:List Pr)  :Fn prog J 204 [.rd (bM xs),.rd (bM ys)] (.bool (decide (xs=ys))):=by
 refine fE func204 λS w0 hS hJ0=>?_
 clear hJ0
 refine ln 0 λ_=>?_
 refine ln 1 λ_=>?_
 refine qs tb V [0,1] [_] U2 ?_
 refine af (aJ tb V [0,1,1004] [_,.int (xs.length:Nat),_,.int (ys.length:Nat),_] [1,3] U3 Y ⟨aC fQ,aC fQ,U⟩ ?_)
 refine cj 2 ?_ ?_<;>intro hb1<;>try simp at hb1
 ·refine qs tb V [1000] [_] [_] ?_
  exact aU 0 (hE:=eB (by first | rfl | grind[aE]))
 ·refine ak (nx (af (qs tb V [0,1,1000] [_] U3 ?_)))
  refine ax (lp (ι:=Nat) (λk=>(k<=xs.length)/\(∀ j,j<k->iq (G xs j) (G ys j)=true)) (λk=>[(5,.int (k:Nat))]) (λk=>xs.length-k) [0,1,2] U2 0 (show(0<=xs.length)/\(∀ j,j<0->iq (G xs j) (G ys j)=true)from by first | trivial | grind) ?_)
  rintro k ⟨aQ,ah⟩
  refine af (aJ tb V [0,1,2,1003] [_,_,.int (xs.length:Nat),_] [2] U4 Y ⟨aC fQ,U⟩ ?_)
  refine cj 3 ?_ ?_<;>intro hb2<;>try simp at hb2
  ·refine ak (nx (af (ax (aJ tb V [0,1,2,1008] [_,_,.ptr (aS (G xs k)),_,_,_,.ptr (aS (G ys k)),_,.bool (!(decide ((G xs k).a=(G ys k).a)&&decide ((G xs k).b=(G ys k).b)))] [2,6,8] U4 Y ⟨bq df,bq df,λ_ _ _ Z hl _=>BE ru Y (hl.dep 3 20 _ Y Y Y Y) (hl.dep 7 24 _ Y Y Y Y) Z,U⟩ ?_))))
   refine cj 3 ?_ ?_<;>intro aD<;>try simp at aD
   ·refine qs tb V [1000] [_] [_] ?_
    exact aU 0 (hE:=eB (by symm;rw[decide_eq_false_iff_not];intro e;subst e;simp at aD))
   ·refine ak (nx (dK tb V [0,1,1002] [_,.int (k+1:Nat),_] [1] U3 Y ⟨aM,U⟩ ?_))
    exact dM (k+1) [0,1,2] ⟨by first | omega | (intro j hj;by_cases e:j=k;(subst e;simp[iq,aD]);exact ah j oz),by first | omega | (intro j hj;by_cases e:j=k;(subst e;simp[iq,aD]);exact ah j oz)⟩
  ·refine aW (nx (qs tb V [1000] [_] [_] ?_))
   exact aU 0 (hE:=eB (by have:=ib (xs:=xs) (ys:=ys) oz (λj hj=>sr.1 (ah j oz));simp[this]))
theorem KW (c:UInt8)  :Fn prog J 234 [.rd (.lit (.int .u8 (c.toNat:Int)))] (.bool (lK c)):=by
 refine fE func234 λS w0 hS hJ0=>?_
 clear hJ0
 refine qs tb V [0] [_] [_] ?_
 refine qs tb V [1006] U7 [_] ?_
 exact aU 0 (hE:=eB (by first | rfl | grind[aE]))
theorem KT (s:BA)  :Fn prog J 199 [.str s] (.bool (ow s)):=by
 refine fE func199 λS w0 hS hJ0=>?_
 clear hJ0
 refine ub 0 λ_=>?_
 refine qs tb V [0] [_] [_] ?_
 refine af (qs tb V [0,1000] [_] U2 ?_)
 refine ax (lp (ι:=Nat) (λk=>(k<=s.size)/\(∀ j,j<k->lK (bt s j)=true)) (λk=>[(3,.int (k:Nat))]) (λk=>s.size-k) [0,1] [_] 0 (show(0<=s.size)/\(∀ j,j<0->lK (bt s j)=true)from by first | trivial | grind) ?_)
 rintro k ⟨aQ,ah⟩
 refine af (aJ tb V [0,1,1003] [_,_,.int (s.size:Nat),_] [2] U3 Y ⟨pc kP,U⟩ ?_)
 refine cj 2 ?_ ?_<;>intro hb1<;>try simp at hb1
 ·refine ak (nx (af (ax (aJ tb V [0,1,1004] [_,_,.rd (.lit (.int .u8 ((G s.data.toList k).toNat:Int))),.bool (lK (G s.data.toList k)),_] [2,3] U3 Y ⟨λ_ _ _ Z hl _=>uE (i:=(k:Int)) kP Y (hl.dep 0 10 _ Y Y Y Y) (hl.dep 1 11 _ Y Y Y Y) bK (sV (s:=s) (k:=k) ay) Z,dh hS V (KW V (G s.data.toList k)) (cO func234),U⟩ ?_))))
  refine cj 2 ?_ ?_<;>intro hb2<;>try simp at hb2
  ·refine qs tb V [1000] [_] [_] ?_
   exact aU 0 (hE:=eB ((Xe hb1 hb2).symm))
  ·refine ak (nx (dK tb V [0,1002] [_,.int (k+1:Nat),_] [1] U2 Y ⟨aM,U⟩ ?_))
   exact dM (k+1) [0,1] ⟨oz,cB ah hb2⟩
 ·refine aW (nx (qs tb V [1002] U3 [_] ?_))
  exact aU 0 (hE:=eB ((Xd λj hj=>ah j oz).symm))
theorem Dm (s:BA)  :Fn prog J 153 [.str s] (.bool (gZ s)):=by
 refine fE func153 λS w0 hS hJ0=>?_
 clear hJ0
 refine ub 0 λ_=>?_
 refine qs tb V [0] [_] [_] ?_
 refine af (qs tb V [0,1000] [_] U2 ?_)
 refine ax (lp (ι:=Nat) (λk=>(k<=s.size)/\(∀ j,j<k->¬ ((bt s j).toNat:Int)=36)) (λk=>[(3,.int (k:Nat))]) (λk=>s.size-k) [0,1] [_] 0 (show(0<=s.size)/\(∀ j,j<0->¬ ((bt s j).toNat:Int)=36)from by first | trivial | grind) ?_)
 rintro k ⟨aQ,ah⟩
 refine af (aJ tb V [0,1,1003] [_,_,.int (s.size:Nat),_] [2] U3 Y ⟨pc kP,U⟩ ?_)
 refine cj 2 ?_ ?_<;>intro hb1<;>try simp at hb1
 ·refine ak (nx (af (ax (aJ tb V [0,1,1003] [_,_,.rd (.lit (.int .u8 ((G s.data.toList k).toNat:Int))),_] [2] U3 Y ⟨λ_ _ _ Z hl _=>uE (i:=(k:Int)) kP Y (hl.dep 0 10 _ Y Y Y Y) (hl.dep 1 11 _ Y Y Y Y) bK (sV (s:=s) (k:=k) ay) Z,U⟩ ?_))))
  refine cj 2 ?_ ?_<;>intro hb2<;>try simp at hb2
  ·refine qs tb V [1000] [_] [_] ?_
   exact aU 0 (hE:=eB ((We hb1 hb2).symm))
  ·refine ak (nx (dK tb V [0,1002] [_,.int (k+1:Nat),_] [1] U2 Y ⟨aM,U⟩ ?_))
   exact dM (k+1) [0,1] ⟨oz,cB ah hb2⟩
 ·refine aW (nx (aJ tb V [1007] [_,.bool (ow s),_,_,.int (s.size:Nat),_,_,_] [1,4] [_] Y ⟨dh hS V (KT V s) (cO func199),pc kP,U⟩ ?_))
  exact aU 0 (hE:=eB ((Wd λj hj=>ah j oz).symm))
theorem yV (s:BA)  :Fn prog J 155 [.str s] (.bool (ga s)):=by
 refine fE func155 λS w0 hS hJ0=>?_
 clear hJ0
 refine ub 0 λ_=>?_
 refine qs tb V [0] [_] [_] ?_
 refine af (qs tb V [0,1000] [_] U2 ?_)
 refine ax (lp (ι:=Nat) (λk=>(k<=s.size)/\(∀ j,j<k->lr (bt s j)=false)) (λk=>[(3,.int (k:Nat))]) (λk=>s.size-k) [0,1] [_] 0 (show(0<=s.size)/\(∀ j,j<0->lr (bt s j)=false)from by first | trivial | grind) ?_)
 rintro k ⟨aQ,ah⟩
 refine af (aJ tb V [0,1,1003] [_,_,.int (s.size:Nat),_] [2] U3 Y ⟨pc kP,U⟩ ?_)
 refine cj 2 ?_ ?_<;>intro hb1<;>try simp at hb1
 ·refine ak (nx (af (ax (aJ tb V [0,1,1003] [_,_,.rd (.lit (.int .u8 ((G s.data.toList k).toNat:Int))),_] [2] U3 Y ⟨λ_ _ _ Z hl _=>uE (i:=(k:Int)) kP Y (hl.dep 0 12 _ Y Y Y Y) (hl.dep 1 13 _ Y Y Y Y) bK (sV (s:=s) (k:=k) ay) Z,U⟩ ?_))))
  refine qs tb V [0,1,2,1014] pB U4 ?_
  refine qs tb V [0,1,1021] [_,_,_,_,_,_,_,_,_,_,_,_,_,_,_,_,_,_,_,_,_,_] U3 ?_
  refine cj 2 ?_ ?_<;>intro hb2
  ·refine qs tb V [1000] [_] [_] ?_
   exact aU 0 (hE:=eB ((Qu hb1 hb2).symm))
  ·refine ak (nx (dK tb V [0,1002] [_,.int (k+1:Nat),_] [1] U2 Y ⟨aM,U⟩ ?_))
   exact dM (k+1) [0,1] ⟨oz,cB ah hb2⟩
 ·refine aW (nx (aJ tb V [1007] (V4 [.int (s.size:Nat),_,_,_]) [4] [_] Y ⟨pc kP,U⟩ ?_))
  exact aU 0 (hE:=eB ((Qt λj hj=>ah j oz).symm))
end
section
variable {J:WP} (V:aR J)
include V
theorem vD (f:Fr) (b:(f.aa.length+f.bB.length)*48<=140737488351232):Fn prog J 158 [.agg (a8 f)] (.rd (bX (f.aa++f.bB))):=by
 refine fE func158 λS w0 hS hJ0=>?_
 refine tw cc (au tb V [1000] [.ptr (a8 f),_] [0] [_] Y ⟨cY hS V,U⟩ ?_)
 refine af (λa w h=>oh (id:=1) (t:=69) (e:=119) (size:=3) (bytes:=48) (i0:=0) (dj:=7) (d:=2) (ch:=[(3,(f.aa.map aP)),(6,(f.bB.map aP))]) (λix'=>([.any,.ptr [bX f.aa,bM f.apart,ai f.ac,bX f.bB,bM f.wide,ai f.proof],.rd (bX f.aa),.any,.ptr [bX f.bB,bM f.wide,ai f.proof],.rd (bX f.bB),.any,.any]:List AV).getD ix' .any) (λ_=>true) [] ((f.aa++f.bB).map aP) yz ?TV V hJ0 h cU Y Y Y Y ⟨?_,?_,?_,?_,?_,?_,?_,?_,U⟩ trivial (λv1=>?ud))
 case TV=>
  refine Row.mk' nG ⟨_,Y,Y,Y,Y,Y⟩ ⟨?Xj,?Xk,U⟩ ⟨_,_,_,_,Y,Y,Y,Y,Y,Y,Y,Y,Y⟩ Y Y Y
  case Xj=>exact⟨_,_,_,_,Y,Y,Y,Y,Y,Y,Y,Y,jm (f:=aP) (λ_=>rfl),(by have hm:maxLen=9223372036854775807:=Y;simp[upto];first | omega | (simp;omega) | grind[aE]),(by have hm:maxLen=9223372036854775807:=Y;simp[upto];first | omega | (simp;omega) | grind[aE]),λ_ _ _ _ _ hl=>(hl.dep 2 5 _ Y Y Y Y)⟩
  case Xk=>exact⟨_,_,_,_,Y,Y,Y,Y,Y,Y,Y,Y,jm (f:=aP) (λ_=>rfl),(by have hm:maxLen=9223372036854775807:=Y;simp[upto];first | omega | (simp;omega) | grind[aE]),(by have hm:maxLen=9223372036854775807:=Y;simp[upto];first | omega | (simp;omega) | grind[aE]),λ_ _ _ _ _ hl=>(hl.dep 5 8 _ Y Y Y Y)⟩
 exact λh=>bC Y h
 exact λ_ _=>⟨Y,λ_ _ _ Z hl _=>cd tB Y (hl.env 0 1 _ Y Y) Z⟩
 exact λ_ _=>⟨Y,λ_ _ _ Z hl _=>bU si Y (hl.dep 1 4 _ Y Y Y Y) Z⟩
 exact λh=>bC Y h
 exact λ_ _=>⟨Y,λ_ _ _ Z hl _=>cd NR Y (hl.env 0 1 _ Y Y) Z⟩
 exact λ_ _=>⟨Y,λ_ _ _ Z hl _=>bU si Y (hl.dep 4 7 _ Y Y Y Y) Z⟩
 exact λh=>bC Y h
 exact λh=>bC Y h
 clear a w h
 exact nx (tw (λh=>dU hS h (m:=0) (s:=2) Y) (bH 0 (hE:=Y)))
theorem KS (s:BA)  :Fn prog J 162 [.str s] (.bool (fy s)):=by
 refine fE func162 λS w0 hS hJ0=>?_
 clear hJ0
 refine ub 0 λ_=>?_
 refine qs tb V [0] [_] [_] ?_
 refine af (qs tb V [0,1005] U6 U2 ?_)
 refine cj 1 ?_ ?_<;>intro hb1<;>try simp at hb1
 ·refine qs tb V [1000] [_] [_] ?_
  exact aU 0 (hE:=eB ((TQ hb1).symm))
 ·refine ak (nx (af (qs tb V [0,1000] [_] U2 ?_)))
  refine ax (lp (ι:=Nat) (λk=>(k<=s.size)/\(∀ j,j<k->mF s j=false)) (λk=>[(3,.int (k:Nat))]) (λk=>s.size-k) [0,1] [_] 0 (show(0<=s.size)/\(∀ j,j<0->mF s j=false)from by first | trivial | grind) ?_)
  rintro k ⟨aQ,ah⟩
  refine af (aJ tb V [0,1,1003] [_,_,.int (s.size:Nat),_] [2] U3 Y ⟨pc kP,U⟩ ?_)
  refine cj 2 ?_ ?_<;>intro hb2<;>try simp at hb2
  ·refine ak (nx (af (ax (aJ tb V [0,1,1012] [_,_,.rd (.lit (.int .u8 ((G s.data.toList k).toNat:Int))),_,_,_,_,_,.int (k+1:Nat),.str (s.extract k (k+1)),.bool (ga (s.extract k (k+1))),_,_] [2,8,9,10] U3 Y ⟨λ_ _ _ Z hl _=>uE (i:=(k:Int)) kP Y (hl.dep 0 16 _ Y Y Y Y) (hl.dep 1 17 _ Y Y Y Y) bK (sV (s:=s) (k:=k) ay) Z,λ_ _ _ Z hl hc=>qE (i:=(k:Int)) (j:=(1:Int)) Y (hl.dep 7 23 _ Y Y Y hc) (Rel.aH (.int .i64 1)) (by have aF:((!decide (((G s.data.toList k).toNat:Int)=(63:Int)))==true)=true:=hc;(try simp at aF);(first | omega | (simp;omega) | grind[aE])) (by have aF:((!decide (((G s.data.toList k).toNat:Int)=(63:Int)))==true)=true:=hc;(try simp at aF);(first | omega | (simp;omega) | grind[aE])) Z,λ_ _ _ Z hl hc=>Un (lo:=k) (hi:=k+1) kP Y (hl.dep 5 21 _ Y Y Y hc) (hl.dep 6 22 _ Y Y Y hc) (hl.dep 8 24 _ Y Y Y hc) (by have aF:((!decide (((G s.data.toList k).toNat:Int)=(63:Int)))==true)=true:=hc;(try simp at aF);(first | omega | (simp;omega) | grind[aE])) (by have aF:((!decide (((G s.data.toList k).toNat:Int)=(63:Int)))==true)=true:=hc;(try simp at aF);(first | omega | (simp;omega) | grind[aE])) Z,dh hS V (yV V (s.extract k (k+1))) (cO func155),U⟩ ?_))))
   refine cj 2 ?_ ?_<;>intro aD
   ·refine qs tb V [1000] [_] [_] ?_
    exact aU 0 (hE:=eB ((TP hb1 hb2 aD).symm))
   ·refine ak (nx (dK tb V [0,1002] [_,.int (k+1:Nat),_] [1] U2 Y ⟨aM,U⟩ ?_))
    exact dM (k+1) [0,1] ⟨oz,cB ah aD⟩
  ·refine aW (nx (qs tb V [1002] U3 [_] ?_))
   exact aU 0 (hE:=eB ((TO hb1 λj hj=>ah j oz).symm))
theorem sX (y:Hy) (vs:List BA)  :Fn prog J 200 [.agg (aP y),.rd (ai vs)] (.bool (gE y vs)):=by
 refine fE func200 λS w0 hS hJ0=>?_
 clear hJ0
 refine ln 1 λ_=>?_
 refine aJ tb V [1,1000] [.ptr (aP y),_] [0] U2 Y ⟨d9 hS V,U⟩ ?_
 refine aJ tb V [1016] (V5 [.int (y.ac.length:Nat),_,_,_,_,_,_,.ptr [lS (G y.ac 1)],_,.bool (decide ((G y.ac 1)∈vs)),_,_]) [5,12,14] [_] Y ⟨aC b7,cT (k:=1) bz (hk:=λ(aF:((y.bn&& (decide ((y.ac.length:Int)=(2:Int))))==true)=true)=>by(try simp at aF);first | omega | (simp;omega) | grind[aE]),dh hS V (jT V vs (G y.ac 1)) (cO func154),U⟩ ?_
 exact aU 0 (hE:=eB (by first | rfl | grind[aE]))
theorem vE (x y:Hy)  :Fn prog J 201 [.agg (aP x),.agg (aP y)] (.bool (k7 x y)):=by
 refine fE func201 λS w0 hS hJ0=>?_
 clear hJ0
 refine aJ tb V [1000,1001] [.ptr (aP x),.ptr (aP y),_] [0,1] U2 Y ⟨d9 hS V,d9 hS V,U⟩ ?_
 refine aJ tb V [1019] (pC [.bool (x.bn==y.bn),_,_,_,_,_,_,.bool (decide (x.ac=y.ac)),_,_]) [10,17] [_] Y ⟨λ_ _ _ Z hl hc=>HU Jm Y (hl.dep 7 12 _ Y Y Y hc) (hl.dep 9 14 _ Y Y Y hc) Z,dh hS V (Lk V x.ac y.ac) (cO func235),U⟩ ?_
 exact aU 0 (hE:=eB (by first | rfl | grind[aE]))
theorem yX (d:Db) (s:BA)  :Fn prog J 157 [.agg (bV d),.str s] (.bool (fP d s)):=by
 refine fE func157 λS w0 hS hJ0=>?_
 clear hJ0
 refine aJ tb V [1,1000] [.ptr (bV d),_] [0] U2 Y ⟨d9 hS V,U⟩ ?_
 refine aJ tb V [1001,1010] (V3 [.bool (decide (s∈d.bL)),_,_,_,_,.bool (decide (s∈d.vars)),_,_]) [3,8] U2 Y ⟨dh hS V (jT V d.bL s) (cO func154),dh hS V (jT V d.vars s) (cO func154),U⟩ ?_
 refine ln 0 λ_=>?_
 exact aU 1 (hE:=eB (by first | rfl | grind[aE]))
theorem Dr (d:Db) (l:List BA) (h0:0<l.length):Fn prog J 160 [.agg (bV d),.rd (ai l)] (.int (iN d l)):=by
 refine fE func160 λS w0 hS hJ0=>?_
 clear hJ0
 refine ln 1 λ_=>?_
 refine aJ tb V [1,1000] [.ptr (bV d),_] [0] U2 Y ⟨d9 hS V,U⟩ ?_
 refine af (aJ tb V [0,1,1001,1006] (V3 [.ptr [lS (G l 0)],_,.bool (decide ((G l 0)∈d.bL)),_]) [3,5] U4 Y ⟨bq (k:=0) bz,dh hS V (jT V d.bL (G l 0)) (cO func154),U⟩ ?_)
 refine ln 2 λ_=>?_
 refine cj 3 ?_ ?_<;>intro hb1<;>try simp at hb1
 ·refine qs tb V [1000] [_] [_] ?_
  exact aU 0 (hE:=eI ((EN hb1).symm))
 ·refine ak (nx (af (qs tb V [0,1,1000] [_] U3 ?_)))
  refine ax (lp (ι:=Nat) (λk=>(1<=k)/\(k<=l.length)/\(∀ j,0<j->j<k->fP d (G l j)=true)) (λk=>[(5,.int (k:Nat))]) (λk=>l.length-k) [0,1,2] U2 1 (show(1<=1)/\(1<=l.length)/\(∀ j,0<j->j<1->fP d (G l j)=true)from by first | trivial | grind) ?_)
  rintro k ⟨aQ,ah,bh⟩
  refine af (aJ tb V [0,1,2,1003] [_,_,.int (l.length:Nat),_] [2] U4 Y ⟨aC b7,U⟩ ?_)
  refine cj 3 ?_ ?_<;>intro hb2<;>try simp at hb2
  ·refine ak (nx (af (ax (aJ tb V [0,1,2,1006] (V3 [.ptr [lS (G l k)],_,.bool (fP d (G l k)),_]) [3,5] U4 Y ⟨bq bz,dh hS V (yX V d (G l k)) (cO func157),U⟩ ?_))))
   refine cj 3 ?_ ?_<;>intro aD<;>try simp at aD
   ·refine qs tb V [1000] [_] [_] ?_
    exact aU 0 (hE:=eI ((EO oz oz aD).symm))
   ·refine ak (nx (dK tb V [0,1,1002] [_,.int (k+1:Nat),_] [1] U3 Y ⟨aM,U⟩ ?_))
    exact dM (k+1) [0,1,2] ⟨by first | omega | (simp;omega) | grind[aE],by first | omega | (simp;omega) | grind[aE],by first | omega | (simp;omega) | grind[aE]⟩
  ·refine aW (nx (qs tb V [1000] [_] [_] ?_))
   exact aU 0 (hE:=eI ((EP hb1 λj h1 h2=>bh j h1 oz).symm))
theorem K3 (xs ys:List BA)  :Fn prog J 164 [.rd (ai xs),.rd (ai ys)] (.int (gC xs ys:Nat)):=by
 refine fE func164 λS w0 hS hJ0=>?_
 clear hJ0
 refine ln 0 λ_=>?_
 refine ln 1 λ_=>?_
 refine qs tb V [0,1] [_] U2 ?_
 refine qs tb V [0,1,1000] [_] U3 ?_
 refine af (ax (lp (ι:=Nat) (λk=>(k<=xs.length)/\(k<=ys.length)/\(∀ j,j<k->G xs j=G ys j)) (λk=>[(5,.int (k:Nat))]) (λk=>xs.length-k) [0,1,2] U2 0 (show(0<=xs.length)/\(0<=ys.length)/\(∀ j,j<0->G xs j=G ys j)from by first | trivial | grind) ?_))
 rintro k ⟨aQ,ah,bh⟩
 refine af (aJ tb V [0,1,2,1020] [_,_,.int (xs.length:Nat),_,_,_,_,.int (ys.length:Nat),_,_,_,_,_,.ptr [lS (G xs k)],_,_,_,.ptr [lS (G ys k)],_,_,_] [2,7,13,17] U4 Y ⟨aC b7,aC b7,cT bz (hk:=λ(aF:(((decide ((k:Int)< (xs.length:Int)))&& (decide ((k:Int)< (ys.length:Int))))==true)=true)=>by(try simp at aF);first | omega | (simp;omega) | grind[aE]),cT bz (hk:=λ(aF:(((decide ((k:Int)< (xs.length:Int)))&& (decide ((k:Int)< (ys.length:Int))))==true)=true)=>by(try simp at aF);first | omega | (simp;omega) | grind[aE]),U⟩ ?_)
 refine cj 3 ?_ ?_<;>intro hb1<;>try simp at hb1
 ·refine ak (nx (ax (dK tb V [0,1,1002] [_,.int (k+1:Nat),_] [1] U3 Y ⟨aM,U⟩ ?_)))
  exact dM (k+1) [0,1,2] ⟨by first | omega | (simp;omega) | grind[aE],by first | omega | (simp;omega) | grind[aE],by first | omega | (simp;omega) | grind[aE]⟩
 ·refine aW (nx (qs tb V [1001] U2 [_] ?_))
  exact aU 0 (hE:=eI (by rw[y7 xs ys k aQ ah bh (by grind)]))
theorem Ln (l:List Pr) (vs:List BA) (b:l.length*32<=140737488351232):Fn prog J 206 [.rd (bM l),.rd (ai vs)] (.rd (bM (l.filter (i7 vs)))):=by
 refine fE func206 λS w0 hS hJ0=>?_
 refine tw cc (ln 0 λcr=>?_)
 refine ln 1 λ_=>?_
 refine aj tb V [0,1] [_] U2 ?_
 refine aL (kz df V Y Y Y (lb Y) λv1=>ao 1 tb Y (aA [0,2,3] U3 Y (nx (af (aj tb V [0,1,2,1000] [_] U4 ?_)))))
 refine ax (lpo (ι:=Nat×Value×(List Pr)) (λ(k,_,out)=>(k<=l.length)/\(out=(l.take k).filter (i7 vs))/\(out.length<=k)) (λ(_,v,out)=>[OB.row v 162 2 (out.map aS)]) (λ(k,v,_)=>[(6,.int (k:Nat)),(5,.lit v)]) (λ(k,_,_)=>l.length-k) [1,2,3,0] U2 (0,v1,([]:List Pr)) ⟨aI,by simp,by simp⟩ ?_)
 rintro⟨k,v,out⟩ ⟨aQ,ah,bh⟩
 refine af (au tb V [0,1,2,3,1003] [_,_,.int (l.length:Nat),_] [2] U5 Y ⟨aC fQ,U⟩ ?_)
 refine cj 4 ?_ ?_<;>intro hb1<;>try simp at hb1
 ·refine ak (nx (af (ax (au tb V [0,1,2,3,1015] (V3 [.ptr (aS (G l k)),_,_,.bool (decide (((G l k).a)∈vs)),_,_,_,_,.ptr (aS (G l k)),_,_,.bool (decide (((G l k).b)∈vs)),_]) [3,6,11,14] U5 Y ⟨bq df,bJ hS V (jT V vs ((G l k).a)) (cO func154),cT df (hk:=λ(aF:((decide (((G l k).a)∈vs))==true)=true)=>by(try simp at aF);first | omega | (simp;omega) | grind[aE]),bJ hS V (jT V vs ((G l k).b)) (cO func154),U⟩ ?_))))
  refine cj 4 ?_ ?_<;>intro hb2<;>try simp at hb2
  ·refine cC (ao 3 tb Y (sy (.ptr (aS (G l k))) (λh=>cb (i:=(k:Int)) df Y (h.get 1 Y) (h.get 0 Y) bK (cl (xs:=l) (k:=k) ay) Y h.x) ?_))
   refine ao 1 tb Y (sy (.rd (bM ([(G l k)]))) (λh=>nl df Cs dz Y Y (h.get 0 Y) (aK hS _ h.keep h.x _ aV) (jo V h.x)) ?_)
   refine fN (f:=aS) (m:=5) (s:=30) out ([(G l k)]) (λ_=>Y) vk V hJ0 Y Y Y (lb Y) Y Y (λa w h=>(h.get 0 Y)) ay ay λv2=>ao 1 tb Y (aA [0,2,8,9,10] U5 Y (nx (ln 1 λhl3=>?_)))
   refine aT tb V [0,2,3,1002] [_,.int (k+1:Nat),_] [1] U4 Y ⟨aM,U⟩ ?_
   exact br (k+1,v2,out++([(G l k)])) [1,2,3,0] ⟨oz,by rw[kW oz,ah];simp[i7,hb2],by simp;omega⟩
  ·refine ak (nx (aT tb V [0,1,3,1002] [_,.int (k+1:Nat),_] [1] U4 Y ⟨aM,U⟩ ?_))
   exact br (k+1,v,out) [0,1,3,2] ⟨oz,by rw[kW oz,ah];simp[i7];grind,oz⟩
 ·refine aW (nx (aj tb V [1001] U2 [_] ?_))
  exact tw (λh=>dU hS h (m:=0) (s:=4) Y) (bH 0 (hE:=congrArg (λz=>AV.rd (bM z)) (show out=(l.filter (i7 vs))from by rw[ah,cS oz])))
theorem Li (l:List (List BA)) (vs:List BA) (b:vs.length<=8000):Fn prog J 202 [.rd (cu l),.rd (ai vs)] (.rd (ai (dt vs l.flatten))):=by
 refine fE func202 λS w0 hS hJ0=>?_
 refine tw cc (ln 0 λcr=>?_)
 refine ln 1 λ_=>?_
 refine aj tb V [0,1] [_] U2 ?_
 refine aL (kz bz V Y Y Y (lb Y) λv1=>ao 1 tb Y (aA [0,2,3] U3 Y (nx (af (aj tb V [0,1,2,1000] [_] U4 ?_)))))
 refine ax (lpo (ι:=Nat×Value×(List BA)) (λ(k,_,out)=>(k<=l.length)/\(out=dt vs (l.take k).flatten)) (λ(_,v,out)=>[OB.row v 9 1 (out.map dO)]) (λ(k,v,_)=>[(6,.int (k:Nat)),(5,.lit v)]) (λ(k,_,_)=>l.length-k) [1,2,3,0] U2 (0,v1,([]:List BA)) ⟨aI,by simp[dt]⟩ ?_)
 rintro⟨k,v,out⟩ ⟨aQ,ah⟩
 refine af (au tb V [0,1,2,3,1003] [_,_,.int (l.length:Nat),_] [2] U5 Y ⟨aC sH,U⟩ ?_)
 refine cj 4 ?_ ?_<;>intro hb1<;>try simp at hb1
 ·refine ak (nx (af (ax (aj tb V [0,1,2,3,1000] [_] U5 ?_))))
  refine ax (lpo (ι:=Nat×Value×(List BA)) (λ(j,_,fG)=>(j<=(G l k).length)/\(fG=dt vs ((l.take k).flatten++(G l k).take j))) (λ(_,vb,fG)=>[OB.row vb 9 1 (fG.map dO)]) (λ(j,vb,_)=>[(7,.int (j:Nat)),(5,.lit vb)]) (λ(j,_,_)=>(G l k).length-j) [0,1,2,4,3] U3 (0,v,out) ⟨aI,by simp[ah]⟩ ?_)
  rintro⟨j,vb,fG⟩ ⟨fD,bu⟩
  refine af (au tb V (r5 [1004,1006]) (V3 [.ptr [ai (G l k)],_,.int ((G l k).length:Nat),_]) [3,5] U7 Y ⟨bq eG,aC b7,U⟩ ?_)
  refine ln 5 λ_=>?_
  refine cj 6 ?_ ?_<;>intro hb2<;>try simp at hb2
  ·refine ak (nx (af (ax (au tb V (r5 [1007]) [_,_,.ptr [ai (G l k)],_,_,.ptr [lS (G (G l k) j)],_,_] [2,5] U6 Y ⟨bq eG,bq bz,U⟩ ?_))))
   refine l8 tb V (r6 [1008]) [_,_,.bool (decide ((G (G l k) j)∈vs)),_,_,_,.bool (decide ((G (G l k) j)∈fG)),_,_] [2,6] U7 Y ⟨FP hS V (jT V vs (G (G l k) j)) (cO func154),λ_ _ hk Z hl hc=>cV (jT V fG (G (G l k) j)) (cO func154) Y (nm hS hk) (Z.1) (aq (kI hS Z (mo 0 Y) (hl.dep 4 36 _ Y Y Y hc)) (aq (hl.dep 5 37 _ Y Y Y hc) aN)) (jo V Z),U⟩ ?_
   refine cj 6 ?_ ?_<;>intro aD<;>try simp at aD
   ·refine cC (ao 2 tb Y (sy (.rd (ai ([(G (G l k) j)]))) (λh=>fz bz j7 Y (h.get 0 Y) (aK hS _ h.keep h.x _ aV) (jo V h.x)) ?_))
    refine fN (f:=dO) (m:=2) (s:=41) fG ([(G (G l k) j)]) (λ_=>Y) ke V hJ0 Y Y Y (lb Y) Y Y (λa w h=>(h.get 0 Y)) (by have:=GI vs ((l.take k).flatten++(G l k).take j);simp[bu];omega) (by have:=GI vs ((l.take k).flatten++(G l k).take j);simp[bu];omega) λv2=>ao 1 tb Y (aA [0,2,5,6,7,8] U6 Y (nx (ln 1 λtR=>?_)))
    refine aT tb V [0,2,3,4,1002] [_,.int (j+1:Nat),_] [1] U5 Y ⟨aM,U⟩ ?_
    exact br (j+1,v2,fG++([(G (G l k) j)])) [1,2,3,4,0] ⟨oz,by rw[dF oz,<-append_assoc,uj,<-bu];simp[aD]⟩
   ·refine ak (nx (aT tb V [0,1,2,4,1002] [_,.int (j+1:Nat),_] [1] U5 Y ⟨aM,U⟩ ?_))
    exact br (j+1,vb,fG) [0,1,2,4,3] ⟨oz,by rw[dF oz,<-append_assoc,uj,<-bu];simp;grind⟩
  ·refine aW (nx (aT tb V [0,1,4,1002] [_,.int (k+1:Nat),_] [1] U4 Y ⟨aM,U⟩ ?_))
   exact br (k+1,vb,fG) [0,1,3,2] ⟨oz,by rw[bu,cS (xs:=G l k) oz,dF oz];simp⟩
 ·refine aW (nx (aj tb V [1001] U2 [_] ?_))
  exact tw (λh=>dU hS h (m:=0) (s:=4) Y) (bH 0 (hE:=congrArg (λz=>AV.rd (ai z)) (show out=(dt vs l.flatten)from by rw[ah,cS oz])))
theorem Dk (f:Fr) (b:f.aa.length*48<=140737488351232):Fn prog J 163 [.agg (a8 f)] (.rd (ai ((bS f.aa).map Hy.ae))):=by
 refine fE func163 λS w0 hS hJ0=>?_
 refine tw cc (au tb V [1000] [.ptr (a8 f),_] [0] [_] Y ⟨cY hS V,U⟩ ?_)
 refine aL (kz bz V Y Y Y (lb Y) λv1=>ao 1 tb Y (aA [0,2] U2 Y (nx (af (aj tb V [0,1,1000] [_] U3 ?_)))))
 refine ax (lpo (ι:=Nat×Value×(List BA)) (λ(k,_,out)=>(k<=f.aa.length)/\(out=(bS (f.aa.take k)).map Hy.ae)/\(out.length<=k)) (λ(_,v,out)=>[OB.row v 9 1 (out.map dO)]) (λ(k,v,_)=>[(4,.int (k:Nat)),(3,.lit v)]) (λ(k,_,_)=>f.aa.length-k) [1,2,0] [_] (0,v1,([]:List BA)) ⟨aI,by simp[bS],by simp⟩ ?_)
 rintro⟨k,v,out⟩ ⟨aQ,ah,bh⟩
 refine af (au tb V [0,1,2,1002,1004] (V3 [.int (f.aa.length:Nat),_]) [3] U5 Y ⟨aC cW,U⟩ ?_)
 refine ln 3 λ_=>?_
 refine cj 4 ?_ ?_<;>intro hb1<;>try simp at hb1
 ·refine ak (nx (af (ax (au tb V [0,1,2,1006] (V3 [.ptr (aP (G f.aa k)),_,_,_]) [3] U4 Y ⟨bq cL,U⟩ ?_))))
  refine cj 3 ?_ ?_<;>intro hb2<;>try simp at hb2
  ·refine cC (ao 4 tb Y (sy (.ptr (aP (G f.aa k))) (λh=>cb (i:=(k:Int)) cL Y (h.get 1 Y) (h.get 0 Y) bK (cl (xs:=f.aa) (k:=k) ay) Y h.x) ?_))
   refine ao 2 tb Y (sy (.rd (ai ([(G f.aa k).ae]))) (λh=>fz bz j7 Y (h.get 0 Y) (aK hS _ h.keep h.x _ aV) (jo V h.x)) ?_)
   refine fN (f:=dO) (m:=7) (s:=20) out ([(G f.aa k).ae]) (λ_=>Y) ke V hJ0 Y Y Y (lb Y) Y Y (λa w h=>(h.get 0 Y)) ay ay λv2=>ao 1 tb Y (aA [0,2,10,11] U4 Y (nx (ln 1 λhl2=>?_)))
   refine aT tb V [0,2,1002] [_,.int (k+1:Nat),_] [1] U3 Y ⟨aM,U⟩ ?_
   exact br (k+1,v2,out++([(G f.aa k).ae])) [1,2,0] ⟨oz,by rw[bS,kW oz,ah];simp[bS,hb2],by simp;omega⟩
  ·refine ak (nx (aT tb V [0,2,1002] [_,.int (k+1:Nat),_] [1] U3 Y ⟨aM,U⟩ ?_))
   exact br (k+1,v,out) [0,2,1] ⟨oz,by rw[bS,kW oz,ah];simp[bS,hb2],oz⟩
 ·refine aW (nx (aj tb V [1001] U2 [_] ?_))
  exact tw (λh=>dU hS h (m:=0) (s:=2) Y) (bH 0 (hE:=congrArg (λz=>AV.rd (ai z)) (show out=((bS f.aa).map Hy.ae)from by rw[ah,cS oz])))
theorem K8 (hs:List Hy) (t:List BA) (b:hs.length<=40):Fn prog J 203 [.rd (bX hs),.rd (ai t)] (.rd (cu (t::(bS hs).map Hy.ac))):=by
 refine fE func203 λS w0 hS hJ0=>?_
 refine tw cc (ln 0 λcr=>?_)
 refine ln 1 λ_=>?_
 refine aj tb V [0,1] [_] U2 ?_
 refine aL (ao 1 tb Y (IR eG ra V Y Y Y (lb Y) (λ_ _ h=>(h.get 0 Y)) λv1=>ao 1 tb Y (aA [0,3] U2 Y (nx (af (aj tb V [0,1,1000] [_] U3 ?_))))))
 refine ax (lpo (ι:=Nat×Value×(List (List BA))) (λ(k,_,out)=>(k<=hs.length)/\(out=t::(bS (hs.take k)).map Hy.ac)/\(out.length<=k+1)) (λ(_,v,out)=>[OB.row v 22 1 (out.map kN)]) (λ(k,v,_)=>[(6,.int (k:Nat)),(5,.lit v)]) (λ(k,_,_)=>hs.length-k) [1,2,0] [_] (0,v1,[t]) ⟨aI,by simp[bS],by simp⟩ ?_)
 rintro⟨k,v,out⟩ ⟨aQ,ah,bh⟩
 refine af (au tb V [0,1,2,1003] [_,_,.int (hs.length:Nat),_] [2] U4 Y ⟨aC cW,U⟩ ?_)
 refine cj 3 ?_ ?_<;>intro hb1<;>try simp at hb1
 ·refine ak (nx (af (ax (au tb V [0,1,2,1005] [_,_,.ptr (aP (G hs k)),_,_,_] [2] U4 Y ⟨bq cL,U⟩ ?_))))
  refine cj 3 ?_ ?_<;>intro hb2<;>try simp at hb2
  ·refine cC (ao 3 tb Y (sy (.ptr (aP (G hs k))) (λh=>cb (i:=(k:Int)) cL Y (h.get 1 Y) (h.get 0 Y) bK (cl (xs:=hs) (k:=k) ay) Y h.x) ?_))
   refine ao 2 tb Y (sy (.rd (cu ([(G hs k).ac]))) (λh=>fz eG ra Y (h.get 0 Y) (aK hS _ h.keep h.x _ aV) (jo V h.x)) ?_)
   refine fN (f:=kN) (m:=6) (s:=21) out ([(G hs k).ac]) (λ_=>Y) sP V hJ0 Y Y Y (lb Y) Y Y (λa w h=>(h.get 0 Y)) ay ay λv2=>ao 1 tb Y (aA [0,2,3,9,10] U5 Y (nx (ln 1 λhl3=>?_)))
   refine ln 2 λ_=>?_
   refine aT tb V [0,3,1002] [_,.int (k+1:Nat),_] [1] U3 Y ⟨aM,U⟩ ?_
   exact br (k+1,v2,out++([(G hs k).ac])) [1,2,0] ⟨oz,by rw[bS,kW oz,ah];simp[bS,hb2],by simp;omega⟩
  ·refine ak (nx (aT tb V [0,2,1002] [_,.int (k+1:Nat),_] [1] U3 Y ⟨aM,U⟩ ?_))
   exact br (k+1,v,out) [0,2,1] ⟨oz,by rw[bS,kW oz,ah];simp[bS,hb2],oz⟩
 ·refine aW (nx (aj tb V [1001] U2 [_] ?_))
  exact tw (λh=>dU hS h (m:=0) (s:=4) Y) (bH 0 (hE:=congrArg (λz=>AV.rd (cu z)) (show out=(t::(bS hs).map Hy.ac)from by rw[ah,cS oz])))
end
end
section
open Go.RowKit
section
variable {J:WP} (V:aR J)
include V
theorem K0 (d:Db) (k:Nat) (hn:k<=d.ab.length) (hk0:k<=400) (hz:0<k->(G d.ab (k-1)).aa.length<=40):Fn prog J 165 [.agg (bV d),.int (k:Nat)] (.rd (ai (kg d k))):=by
 refine fE func165 λS w0 hS hJ0=>?_
 clear hJ0
 refine aJ tb V [1,1000] [.ptr (bV d),_] [0] U2 Y ⟨d9 hS V,U⟩ ?_
 refine af (qs tb V [0,1,1001] U2 U3 ?_)
 refine cj 2 ?_ ?_<;>intro hb1<;>try simp at hb1
 ·refine qs tb V [1000] [_] [_] ?_
  exact tw (λh=>gu h (m:=0) (s:=4) Y) (aU 0 (hE:=congrArg (λz=>AV.rd (ai z)) (show([]:List BA)=(kg d k)from by simp[kg,hb1])))
 ·refine ak (nx (aJ tb V [1001,1006,1007] (V3 [.int ((k:Int)-(1:Int)),.ptr (a8 (G d.ab ((k:Int)-(1:Int)).toNat)),_,.rd (ai ((bS (G d.ab ((k:Int)-(1:Int)).toNat).aa).map Hy.ae)),_]) [3,4,6] U3 Y ⟨md,wT fT,dh hS V (Dk V (G d.ab ((k:Int)-(1:Int)).toNat) (by have:=hz oz;rw[show((k:Int)-1).toNat=k-1 by omega];omega)) (cO func163),U⟩ ?_))
  refine ln 0 λ_=>?_
  refine ln 1 λ_=>?_
  exact aU 2 (hE:=congrArg (λz=>AV.rd (ai z)) (show((bS (G d.ab ((k:Int)-(1:Int)).toNat).aa).map Hy.ae)=(kg d k)from by rw[kg,if_neg hb1,show((k:Int)-1).toNat=k-1 by omega]))
theorem yW (d:Db) (n:Nat) (s:BA) (hn:n<=d.ab.length) (hz:∀ i,i<n->(G d.ab i).aa.length<=40/\(G d.ab i).bB.length<=40):Fn prog J 156 [.agg (bV d),.int (n:Nat),.str s] (.bF [.bool (fu d n s),.bool (iQ d n s)]):=by
 refine fE func156 λS w0 hS hJ0=>?_
 clear hJ0
 refine aJ tb V [1,2,1000,1001,1002] [.ptr (bV d),_,_] [0] U5 Y ⟨d9 hS V,U⟩ ?_
 refine af (qs tb V (r5 [1000]) [_] U6 ?_)
 refine ax (lp (ι:=Nat×Bool×Bool) (λ(k,p,q)=>(k<=n)/\(p=fu d k s)/\(q=iQ d k s)) (λ(k,p,q)=>[(8,.int (k:Nat)),(6,.bool p),(7,.bool q)]) (λ(k,_,_)=>n-k) [0,1,2,5,3,4] U3 (0,false,false) ⟨aI,by simp[fu],by simp[iQ]⟩ ?_)
 rintro⟨k,p,q⟩ ⟨aQ,ah,bh⟩
 refine af (qs tb V (r6 [1002]) U3 U7 ?_)
 refine cj 6 ?_ ?_<;>intro hb1<;>try simp at hb1
 ·refine ak (nx (af (ax (aJ tb V [0,1,2,3,5,1011] (V5 [.ptr (a8 (G d.ab k)),_,_,_,_,_,_]) [5] U6 Y ⟨cT fT (hk:=λ(aF:(p==false)=true)=>by(try simp at aF);first | omega | (simp;omega) | grind[aE]),U⟩ ?_))))
  refine aJ tb V (r6 [1001,1005,1006]) (V3 [.ptr (a8 (G d.ab k)),_,.rd (bX ((G d.ab k).aa++(G d.ab k).bB)),_]) [3,5] U9 Y ⟨bq fT,dh hS V (vD V (G d.ab k) (by have:=hz k oz;omega)) (cO func158),U⟩ ?_
  refine ln 6 λ_=>?_
  refine ln 7 λ_=>?_
  refine qs tb V (r6 [8,1000]) [_] U8 ?_
  refine ax (lp (ι:=Nat×Bool) (λ(j,q2)=>(j<=((G d.ab k).aa++(G d.ab k).bB).length)/\(q2=(iQ d k s|| (((G d.ab k).aa++(G d.ab k).bB).take j).any λh=>decide (h.ae=s)))) (λ(j,q2)=>[(10,.int (j:Nat)),(7,.bool q2)]) (λ(j,_)=>((G d.ab k).aa++(G d.ab k).bB).length-j) [0,1,2,3,5,6,7,4] U6 (0,q) ⟨aI,by simp[bh]⟩ ?_)
  rintro⟨j,q2⟩ ⟨fD,bu⟩
  refine af (aJ tb V (r8 [1003]) [_,_,.int (((G d.ab k).aa++(G d.ab k).bB).length:Nat),_] [2] U9 Y ⟨aC cW,U⟩ ?_)
  refine cj 8 ?_ ?_<;>intro hb2<;>try simp at hb2
  ·refine ak (nx (af (ax (dK tb V (r7 [1010]) (V4 [.ptr (aP (G ((G d.ab k).aa++(G d.ab k).bB) j)),_,_,_,_,_,_]) [4] U8 Y ⟨cT cL (hk:=λ(aF:(q2==false)=true)=>by(try simp at aF);first | omega | (simp;omega) | grind[aE]),U⟩ ?_))))
   refine nx (dK tb V (r6 [7,1002]) [_,.int (j+1:Nat),_] [1] U8 Y ⟨aM,U⟩ ?_)
   exact dM (j+1,q2|| (decide (((G ((G d.ab k).aa++(G d.ab k).bB) j).ae)=s))) (r6 [7,6]) ⟨by simp;omega,by rw[sO (by simp;omega),<-Bool.or_assoc,<-bu]⟩
  ·refine aW (nx (dK tb V [0,1,2,4,7,1002] [_,.int (k+1:Nat),_] [1] U6 Y ⟨aM,U⟩ ?_))
   exact dM (k+1,p|| (decide (((G d.ab k).ae)=s)),q2) [0,1,2,5,3,4] ⟨oz,by rw[ah,fu,fu,sO oz],by rw[bu,cS (xs:=((G d.ab k).aa++(G d.ab k).bB)) (by simp;omega),iQ,iQ,sO oz]⟩
 ·refine aW (nx (qs tb V [1002,1003] U4 U2 ?_))
  exact aX (λa w h=>di (m:=0) (k:=1) Y h Y Y (eB (by rw[ah,show k=n by omega])) (eB (by rw[bh,show k=n by omega])))
theorem Lg (x y:Pr)  :Fn prog J 253 [.agg (aS x),.agg (aS y)] (.bool (cI x y)):=by
 refine fE func253 λS w0 hS hJ0=>?_
 clear hJ0
 refine aJ tb V [1000,1001] [.ptr (aS x),.ptr (aS y),_] [0,1] U2 Y ⟨d9 hS V,d9 hS V,U⟩ ?_
 refine qs tb V [1019] [_,_,_,_,_,_,_,_,_,_,_,_,_,_,_,_,_,_,_,_] [_] ?_
 exact aU 0 (hE:=eB (by first | rfl | grind[aE]))
theorem Dv (l:List Pr) (p:Pr) (b:(l.length+1)*32<=140737488351264):Fn prog J 236 [.rd (bM l),.agg (aS p)] (.rd (bM (fH l p))):=by
 refine fE func236 λS w0 hS hJ0=>?_
 refine tw cc (ln 0 λcr=>?_)
 refine au tb V [0,1000] [.ptr (aS p),_] [0] U2 Y ⟨cY hS V,U⟩ ?_
 refine aj tb V [0,1,1000] [_] U3 ?_
 refine af (ax (lpo (ι:=Nat) (λk=>(k<=l.length)/\(∀ j,j<k->cI (G l j) p=true)) (λ_=>[]) (λk=>[(5,.int (k:Nat))]) (λk=>l.length-k) [0,1,2] U2 0 (show(0<=l.length)/\(∀ j,j<0->cI (G l j) p=true)from by first | trivial | grind) ?_))
 rintro k ⟨aQ,ah⟩
 refine af (au tb V [0,1,2,1011] [_,_,.int (l.length:Nat),_,_,_,_,.ptr (aS (G l k)),_,_,.bool (cI (G l k) p),_] [2,7,10] U4 Y ⟨aC fQ,cT df (hk:=λ(aF:((decide ((k:Int)< (l.length:Int)))==true)=true)=>by(try simp at aF);first | omega | (simp;omega) | grind[aE]),bJ hS V (Lg V (G l k) p) (cO func253),U⟩ ?_)
 refine cj 3 ?_ ?_<;>intro hb1<;>try simp at hb1
 ·refine ak (nx (ax (aT tb V [0,1,1002] [_,.int (k+1:Nat),_] [1] U3 Y ⟨aM,U⟩ ?_)))
  exact br (k+1) [0,1,2] ⟨oz,cB ah (by simp_all)⟩
 ·refine aW (nx (af (au tb V [0,1,2,1011] [_,_,.int (l.length:Nat),_,_,_,_,.ptr (aS (G l k)),_,_,.bool (decide ((G l k).a=p.a)&&decide ((G l k).b=p.b)),_] [2,7,10] U4 Y ⟨aC fQ,cT df (hk:=λ(aF:((decide ((k:Int)< (l.length:Int)))==true)=true)=>by(try simp at aF);first | omega | (simp;omega) | grind[aE]),λ_ _ _ Z hl hc=>BB ru Y (hl.dep 8 28 _ Y Y Y hc) (hl.dep 9 29 _ Y Y Y hc) Z,U⟩ ?_)))
  refine cj 3 ?_ ?_<;>intro hb2<;>try simp at hb2
  ·refine aj tb V [1001] U2 [_] ?_
   exact bH 0 (hE:=congrArg (λz=>AV.rd (bM z)) (show l=(fH l p)from by rw[Bx l p k aQ ah (by grind),if_pos ⟨hb2.1,by simp[iq,hb2]⟩]))
  ·refine ak (nx (af (λa w h=>oh (id:=6) (t:=70) (e:=162) (size:=2) (bytes:=32) (i0:=0) (dj:=12) (d:=4) (ch:=[(4,((l.take k).map aS)),(7,(([p]).map aS)),(11,((l.drop k).map aS))]) (λix'=>([.any,.rd (bM l),.int (k:Nat),.rd (bM (l.take k)),.any,.agg (aS p),.rd (bM ([p])),.any,.rd (bM l),.int (k:Nat),.rd (bM (l.drop k)),.any,.any]:List AV).getD ix' .any) (λ_=>true) [] (((l.take k)++([p])++(l.drop k)).map aS) yz ?TY V hJ0 h cU Y Y Y Y ⟨?_,?_,?_,?_,?_,?_,?_,?_,?_,?_,?_,?_,?_,U⟩ trivial (λv1=>?Ro))))
   case TY=>
    refine Row.mk' vk ⟨_,Y,Y,Y,Y,Y⟩ ⟨?Xp,?Xq,?Xr,U⟩ ⟨_,_,_,_,Y,Y,Y,Y,Y,Y,Y,Y,Y⟩ Y Y Y
    case Xp=>exact⟨_,_,_,_,Y,Y,Y,Y,Y,Y,Y,Y,jm (f:=aS) (λ_=>rfl),(by have hm:maxLen=9223372036854775807:=Y;simp[upto];first | omega | (simp;omega) | grind[aE]),(by have hm:maxLen=9223372036854775807:=Y;simp[upto];first | omega | (simp;omega) | grind[aE]),λ_ _ _ _ _ hl=>(hl.dep 3 36 _ Y Y Y Y)⟩
    case Xq=>exact⟨_,_,_,_,Y,Y,Y,Y,Y,Y,Y,Y,jm (f:=aS) (λ_=>rfl),(by have hm:maxLen=9223372036854775807:=Y;simp[upto];first | omega | (simp;omega) | grind[aE]),(by have hm:maxLen=9223372036854775807:=Y;simp[upto];first | omega | (simp;omega) | grind[aE]),λ_ _ _ _ _ hl=>(hl.dep 6 39 _ Y Y Y Y)⟩
    case Xr=>exact⟨_,_,_,_,Y,Y,Y,Y,Y,Y,Y,Y,jm (f:=aS) (λ_=>rfl),(by have hm:maxLen=9223372036854775807:=Y;simp[upto];first | omega | (simp;omega) | grind[aE]),(by have hm:maxLen=9223372036854775807:=Y;simp[upto];first | omega | (simp;omega) | grind[aE]),λ_ _ _ _ _ hl=>(hl.dep 10 43 _ Y Y Y Y)⟩
   exact λh=>bC Y h
   exact λ_ _=>⟨Y,λ_ _ _ Z hl _=>b9 Y (hl.env 0 0 _ Y Y) Z⟩
   exact λ_ _=>⟨Y,λ_ _ _ Z hl _=>b9 Y (hl.env 2 5 _ Y Y) Z⟩
   exact λ_ _=>⟨Y,λ_ _ _ Z hl _=>iW (ys:=l.take k) (lo:=0) (hi:=k) drop_zero df (λ_=>Y) Y (hl.dep 1 34 _ Y Y Y Y) Y (hl.dep 2 35 _ Y Y Y Y) ay ay Z⟩
   exact λh=>bC Y h
   exact λ_ _=>⟨Y,λ_ _ _ Z hl _=>j4 jE Y (hl.env 1 3 _ Y Y) aV Z⟩
   exact λ_ _=>⟨Y,λ_ _ hk Z hl _=>nl df Cs dz Y Y (hl.dep 5 38 _ Y Y Y Y) (aK hS _ hk Z _ aV) (jo V Z)⟩
   exact λh=>bC Y h
   exact λ_ _=>⟨Y,λ_ _ _ Z hl _=>b9 Y (hl.env 0 0 _ Y Y) Z⟩
   exact λ_ _=>⟨Y,λ_ _ _ Z hl _=>b9 Y (hl.env 2 5 _ Y Y) Z⟩
   exact λ_ _=>⟨Y,λ_ _ _ Z hl _=>iW (ys:=l.drop k) (lo:=k) (hi:=l.length) (by rw[take_length]) df (λ_=>Y) Y (hl.dep 8 41 _ Y Y Y Y) (hl.dep 9 42 _ Y Y Y Y) Y ay ay Z⟩
   exact λh=>bC Y h
   exact λh=>bC Y h
   clear a w h
   exact nx (tw (λh=>dU hS h (m:=0) (s:=4) Y) (bH 0 (hE:=congrArg (λz=>AV.rd (bM z)) (show((l.take k)++([p])++(l.drop k))=(fH l p)from by rw[Bx l p k aQ ah (by grind),if_neg (by simp[iq];grind)];simp))))
theorem KU (ws zs:List Pr) (b:(ws.length+zs.length+1)*32<=140737488351264):Fn prog J 205 [.rd (bM ws),.rd (bM zs)] (.rd (bM (nc ws zs))):=by
 refine fE func205 λS w0 hS hJ0=>?_
 refine tw cc (ln 0 λcr=>?_)
 refine ln 1 λ_=>?_
 refine aj tb V [0,1] [_] U2 ?_
 refine aL (kz df V Y Y Y (lb Y) λv1=>ao 1 tb Y (aA [0,2,3] U3 Y (nx (af (tw (λh=>dU hS h (m:=0) (s:=5) Y) (aj tb V [0,1,2,1000] [_] U4 ?_))))))
 refine ax (lpo (ι:=Nat×(List Pr)) (λ(k,out)=>(k<=ws.length)/\(out=(ws.take k).foldl fH [])/\(out.length<=k)) (λ(_,_)=>[]) (λ(k,out)=>[(6,.int (k:Nat)),(5,.rd (bM out))]) (λ(k,_)=>ws.length-k) [1,2,3,0] U2 (0,[]) ⟨aI,by simp,by simp⟩ ?_)
 rintro⟨k,out⟩ ⟨aQ,ah,bh⟩
 refine af (au tb V [0,1,2,3,1003] [_,_,.int (ws.length:Nat),_] [2] U5 Y ⟨aC fQ,U⟩ ?_)
 refine ln 3 λ_=>?_
 refine cj 4 ?_ ?_<;>intro hb1<;>try simp at hb1
 ·refine ak (nx (af (ax (aT tb V [0,1,2,1005,1006] (V3 [.ptr (aS (G ws k)),_,.rd (bM (fH out (G ws k))),_]) [3,5] U5 Y ⟨bq df,bJ hS V (Dv V out (G ws k) (by exact Nat.le_trans (Nat.mul_le_mul_right 32 oz) b)) (cO func236),U⟩ ?_))))
  refine nx (ln 3 λtR=>?_)
  refine aT tb V [0,1,4,1002] [_,.int (k+1:Nat),_] [1] U4 Y ⟨aM,U⟩ ?_
  exact br (k+1,(fH out (G ws k))) [0,1,3,2] ⟨oz,by rw[ah,EM oz],by have:=HF out (G ws k);omega⟩
 ·refine aW (nx (af (aj tb V [1,3,1000] [_] U3 ?_)))
  refine ax (lpo (ι:=Nat×(List Pr)) (λ(j,fG)=>(j<=zs.length)/\(fG=(ws++zs.take j).foldl fH [])/\(fG.length<=ws.length+j)) (λ(_,_)=>[]) (λ(j,fG)=>[(7,.int (j:Nat)),(5,.rd (bM fG))]) (λ(j,_)=>zs.length-j) [0,2,1] [_] (0,out) ⟨aI,by rw[ah,cS oz];simp,oz⟩ ?_)
  rintro⟨j,fG⟩ ⟨fD,bu,i5⟩
  refine af (au tb V [0,1,2,1003] [_,_,.int (zs.length:Nat),_] [2] U4 Y ⟨aC fQ,U⟩ ?_)
  refine ln 2 λ_=>?_
  refine cj 3 ?_ ?_<;>intro hb2<;>try simp at hb2
  ·refine ak (nx (af (ax (aT tb V [0,1,1005,1006] (V3 [.ptr (aS (G zs j)),_,.rd (bM (fH fG (G zs j))),_]) [3,5] U4 Y ⟨bq df,bJ hS V (Dv V fG (G zs j) (by exact Nat.le_trans (Nat.mul_le_mul_right 32 oz) b)) (cO func236),U⟩ ?_))))
   refine nx (ln 2 λAl=>?_)
   refine aT tb V [0,3,1002] [_,.int (j+1:Nat),_] [1] U3 Y ⟨aM,U⟩ ?_
   exact br (j+1,(fH fG (G zs j))) [0,2,1] ⟨oz,by rw[bu,dF oz,<-append_assoc];simp only[List.foldl_append,List.foldl_cons,List.foldl_nil],by have:=HF fG (G zs j);omega⟩
  ·refine aW (nx (aj tb V [1001] U2 [_] ?_))
   exact bH 0 (hE:=congrArg (λz=>AV.rd (bM z)) (show fG=(nc ws zs)from by rw[bu,cS (xs:=zs) oz];rfl))
end
theorem Le {J:WP} (V:aR J) (d:Db) (k:Nat) (y:Hy) (bs:List Hy) (dm:Bool) (hk0:k<d.ab.length) (hf:d.ab.length<=400) (hz:∀ i,i<k+1->(G d.ab i).aa.length<=40/\(G d.ab i).bB.length<=40) (hb:bs.length<=80):Fn prog J 159 [.agg (bV d),.int (k:Nat),.agg (aP y),.rd (bX bs),.bool dm] (.int (eX d k y bs dm)):=by
 refine fE func159 λS w0 hS hJ0=>?_
 refine tw cc (ln 3 λcr=>?_)
 refine au tb V [1,3,4,1000,1001] [.ptr (bV d),.ptr (aP y),_] [0,1] U5 Y ⟨cY hS V,cY hS V,U⟩ ?_
 refine au tb V (r5 [1001,1003]) [_,_,.int (y.ac.length:Nat),_] [2] U7 Y ⟨aC b7,U⟩ ?_
 refine ln 5 λ_=>?_
 refine af (au tb V [0,1,3,4,1032] [_,_,.bool (ga y.ae),_,_,_,_,_,_,_,_,_,_,_,_,_,_,_,_,_,_,_,_,_,_,_,_,_,_,_,_,_,_] [2] U5 Y ⟨bJ hS V (yV V y.ae) (cO func155),U⟩ ?_)
 refine cj 4 ?_ ?_<;>intro hb1
 ·replace hb1:ij y dm=true:=hb1
  refine aj tb V [1000] [_] [_] ?_
  exact bH 0 (hE:=eI (by subst_vars;grind[eX]))
 ·replace hb1:ij y dm=false:=hb1
  have rU:=E4 hb1
  refine ak (nx (au tb V [0,1,2,3,1009] [_,_,.int (k+1:Nat),_,_,.bF [.bool (fu d (k+1) y.ae),.bool (iQ d (k+1) y.ae)],_,_,_,_,_] [2,5] U5 Y ⟨aM,bJ hS V (yW V d (k+1) y.ae ay (hz)) (cO func156),U⟩ ?_))
  refine af (au tb V [0,1,2,3,1006] (V5 [.bool (fP d y.ae),_]) [5] U5 Y ⟨bJ hS V (yX V d y.ae) (cO func157),U⟩ ?_)
  refine cj 4 ?_ ?_<;>intro hb2
  ·replace hb2:(fu d (k+1) y.ae||fP d y.ae)=true:=hb2
   refine aj tb V [1000] [_] [_] ?_
   exact bH 0 (hE:=eI (by subst_vars;grind[eX]))
  ·replace hb2:(fu d (k+1) y.ae||fP d y.ae)=false:=hb2
   refine ak (nx (af (aj tb V [0,1,2,3,1000] [_] U5 ?_)))
   refine ax (lpo (ι:=Nat) (λj=>(j<=bs.length)/\((bs.take j).any (kZ y)=false)) (λ_=>[]) (λj=>[(14,.int (j:Nat))]) (λj=>bs.length-j) (r5 []) U4 0 ⟨aI,Y⟩ ?_)
   rintro j ⟨aQ,ah⟩
   refine af (au tb V (r5 [1003]) [_,_,.int (bs.length:Nat),_] [2] U6 Y ⟨aC cW,U⟩ ?_)
   refine cj 5 ?_ ?_<;>intro aD<;>try simp at aD
   ·refine ak (nx (af (ax (au tb V (r5 [1007]) [_,_,.ptr (aP (G bs j)),_,_,_,_,_] [2] U6 Y ⟨bq cL,U⟩ ?_))))
    refine cj 5 ?_ ?_<;>intro bd<;>try simp at bd
    ·have q4:=mB (p:=kZ y) (xs:=bs) (k:=j) oz (by simpa [kZ]using bd)
     refine aj tb V [1000] [_] [_] ?_
     exact bH 0 (hE:=eI (by subst_vars;grind[eX]))
    ·refine ak (nx (aT tb V [0,1,2,3,1002] [_,.int (j+1:Nat),_] [1] U5 Y ⟨aM,U⟩ ?_))
     exact br (j+1) (r5 []) ⟨oz,mC oz ah (by simpa [kZ]using bd)⟩
   ·have e3:=mD (p:=kZ y) ah oz
    refine aW (nx (af (au tb V [0,1,2,3,1021] (V7 [.ptr [lS (G y.ac 0)],_,.bool (decide ((G y.ac 0)∈d.bL)),_,_,_,_,_,_,.ptr [lS (G y.ac 1)],_,.bool (decide ((G y.ac 1)∈d.vars)),_,_,_]) [7,9,16,18] U5 Y ⟨cT (k:=0) bz (hk:=λ(aF:(y.bn==true)=true)=>by(try simp at aF);omega),bJ hS V (jT V d.bL (G y.ac 0)) (cO func154),cT (k:=1) bz (hk:=λ(aF:((y.bn==true)&& ((!(decide ((G y.ac 0)∈d.bL)))==false))=true)=>by(try simp at aF);have:=iz hb1 (by simp_all);omega),bJ hS V (jT V d.vars (G y.ac 1)) (cO func154),U⟩ ?_)))
    refine cj 4 ?_ ?_<;>intro bW
    ·replace bW:oO d y=true:=bW
     refine aj tb V [1000] [_] [_] ?_
     exact bH 0 (hE:=eI (by subst_vars;grind[eX]))
    ·replace bW:oO d y=false:=bW
     refine ak (nx (af (aj tb V [0,1,2,3,1002] U3 U5 ?_)))
     refine cj 4 ?_ ?_<;>intro eW<;>try simp at eW
     ·refine au tb V [0,1,2,3,1004] (V3 [.int (iN d y.ac),_]) [3] U5 Y ⟨bJ hS V (Dr V d y.ac ay) (cO func160),U⟩ ?_
      refine aj tb V (r5 [1001]) U2 U6 ?_
      refine cj 5 ?_ ?_<;>intro fV
      ·refine aj tb V [1001] U2 [_] ?_
       exact bH 0 (hE:=eI (by subst_vars;grind[eX]))
      ·refine ak (nx (aL (kz cL V Y Y Y (lb Y) λv1=>ao 1 tb Y (aA [0,2,3,4,5] U5 Y (nx (af (aj tb V (r5 [1000]) [_] U6 ?_)))))))
       refine ax (lpo (ι:=Nat×Value×(List Hy)) (λ(i,_,others)=>(i<=k)/\(others=jd d i)/\(others.length<=80*i)) (λ(_,vo,others)=>[OB.row vo 119 3 (others.map aP)]) (λ(i,vo,_)=>[(17,.int (i:Nat)),(16,.lit vo)]) (λ(i,_,_)=>k-i) [1,2,3,4,5,0] U4 (0,v1,([]:List Hy)) ⟨aI,Y,aI⟩ ?_)
       rintro⟨i,vo,others⟩ ⟨fD,bu,i5⟩
       refine af (aj tb V (r6 [1002]) U3 U7 ?_)
       refine cj 6 ?_ ?_<;>intro iO<;>try simp at iO
       ·refine ak (nx (af (ax (cC (ao 4 tb Y (sy (.ptr (a8 (G d.ab i))) (λh=>cb (i:=(i:Int)) fT Y (h.get 1 Y) (h.get 0 Y) bK (cl (xs:=d.ab) (k:=i) ay) Y h.x) ?_))))))
        refine ao 1 tb Y (sy (.rd (bX ((G d.ab i).aa++(G d.ab i).bB))) (λh=>cV (vD V (G d.ab i) (by have:=hz i oz;omega)) (cO func158) Y (aK hS _ h.keep h.x) (h.x.1) (aq (h.get 0 Y) aN) (jo V h.x)) ?_)
        refine fN (f:=aP) (m:=6) (s:=126) others ((G d.ab i).aa++(G d.ab i).bB) (λ_=>Y) nG V hJ0 Y Y Y (lb Y) Y Y (λa w h=>(h.get 0 Y)) (by first | (have:=hz i oz;simp;omega) | (have:=hz i oz;refine kx ?_;simp;omega)) (by first | (have:=hz i oz;simp;omega) | (have:=hz i oz;refine kx ?_;simp;omega)) λv2=>?_
        refine ao 1 tb Y (aA [0,2,6,9,10,11,12,13] U8 Y (nx (ln 1 λhl3=>?_)))
        refine ln 2 λ_=>?_
        refine aT tb V [0,3,4,5,6,1002] [_,.int (i+1:Nat),_] [1] U6 Y ⟨aM,U⟩ ?_
        exact br (i+1,v2,others++((G d.ab i).aa++(G d.ab i).bB)) [1,2,3,4,5,0] ⟨oz,by rw[sm oz,bu],by have:=hz i oz;simp;omega⟩
       ·have qi:i=k:=by omega
        rw[qi]at bu i5
        refine aW (nx (af (tw (λh=>dU hS h (m:=5) (s:=16) Y) (aj tb V [0,2,4,1001] U2 U4 ?_))))
        refine ln 0 λ_=>?_
        refine cj 3 ?_ ?_<;>intro il<;>try simp at il
        ·have PT:=iz hb1 il
         refine af (λa w h=>oh (id:=24) (t:=69) (e:=119) (size:=3) (bytes:=48) (i0:=0) (dj:=5) (d:=18) (ch:=[(2,(others.map aP)),(4,(bs.map aP))]) (λix'=>([.any,.rd (bX others),.any,.rd (bX bs),.any,.any]:List AV).getD ix' .any) (λ_=>true) [(0,16,.rd (bX others)),(1,3,.rd (bX bs)),(2,7,.ptr (aP y))] ((others++bs).map aP) yz ?TW V hJ0 h cU Y Y Y Y ⟨?_,?_,?_,?_,?_,?_,U⟩ ⟨Y,Y,Y,Y,Y,Y,U⟩ (λv3=>?Ya))
         case TW=>
          refine Row.mk' nG ⟨_,Y,Y,Y,Y,Y⟩ ⟨?Xl,?Xm,U⟩ ⟨_,_,_,_,Y,Y,Y,Y,Y,Y,Y,Y,Y⟩ Y Y Y
          case Xl=>exact⟨_,_,_,_,Y,Y,Y,Y,Y,Y,Y,Y,jm (f:=aP) (λ_=>rfl),(by have hm:maxLen=9223372036854775807:=Y;simp[upto];first | (have:=hz i oz;simp;omega) | (have:=hz i oz;refine kx ?_;simp;omega)),(by have hm:maxLen=9223372036854775807:=Y;simp[upto];first | (have:=hz i oz;simp;omega) | (have:=hz i oz;refine kx ?_;simp;omega)),λ_ _ _ _ _ hl=>(hl.dep 1 137 _ Y Y Y Y)⟩
          case Xm=>exact⟨_,_,_,_,Y,Y,Y,Y,Y,Y,Y,Y,jm (f:=aP) (λ_=>rfl),(by have hm:maxLen=9223372036854775807:=Y;simp[upto];first | (have:=hz i oz;simp;omega) | (have:=hz i oz;refine kx ?_;simp;omega)),(by have hm:maxLen=9223372036854775807:=Y;simp[upto];first | (have:=hz i oz;simp;omega) | (have:=hz i oz;refine kx ?_;simp;omega)),λ_ _ _ _ _ hl=>(hl.dep 3 139 _ Y Y Y Y)⟩
         exact λh=>bC Y h
         exact λ_ _=>⟨Y,λ_ _ _ Z hl _=>b9 Y (hl.env 0 16 _ Y Y) Z⟩
         exact λh=>bC Y h
         exact λ_ _=>⟨Y,λ_ _ _ Z hl _=>b9 Y (hl.env 1 3 _ Y Y) Z⟩
         exact λh=>bC Y h
         exact λh=>bC Y h
         clear a w h
         refine nx (af (tw (λh=>dU hS h (m:=0) (s:=18) Y) (aj tb V [0,1,2,3,1000] [_] U5 ?_)))
         refine ln 0 λ_=>?_
         refine ax (lpo (ι:=Nat) (λj=>(j<=(others++bs).length)/\(((others++bs).take j).any (jJ y)=false)) (λ_=>[]) (λj=>[(19,.int (j:Nat))]) (λj=>(others++bs).length-j) (r5 []) U4 0 ⟨aI,Y⟩ ?_)
         rintro j ⟨rx,jU⟩
         refine af (au tb V (r5 [1003]) [_,_,.int ((others++bs).length:Nat),_] [2] U6 Y ⟨aC cW,U⟩ ?_)
         refine cj 5 ?_ ?_<;>intro iA<;>try simp at iA
         ·refine ak (nx (af (ax (au tb V (r5 [1006,1021]) [_,_,.ptr (aP (G (others++bs) j)),_,_,_,.rd (ai (y.ac.drop 1)),.bool (gE (G (others++bs) j) (y.ac.drop 1)),_,_,_,.ptr (aP (G (others++bs) j)),_,_,.ptr [lS (G ((G (others++bs) j).ac) 0)],_,_,_,.ptr [lS (G y.ac 0)],_,_,_] [2,6,7,11,14,18] U7 Y ⟨bq cL,λ_ _ _ Z hl _=>iW (ys:=y.ac.drop 1) (lo:=1) (hi:=y.ac.length) (by rw[take_length]) bz (λ_=>Y) Y (hl.dep 5 152 _ Y Y Y Y) (Rel.aH (.int .i64 1)) Y ay ay Z,bJ hS V (sX V (G (others++bs) j) (y.ac.drop 1)) (cO func200),cT cL (hk:=λ(aF:((gE (G (others++bs) j) (y.ac.drop 1))==true)=true)=>by(try simp at aF);first | omega | (simp;omega) | grind[aE]),cT (k:=0) bz (hk:=λ(aF:((gE (G (others++bs) j) (y.ac.drop 1))==true)=true)=>by(try simp at aF);have:=GJ aF;omega),cT (k:=0) bz (hk:=λ(aF:((gE (G (others++bs) j) (y.ac.drop 1))==true)=true)=>by(try simp at aF);first | omega | (simp;omega) | grind[aE]),U⟩ ?_))))
          refine ln 5 λ_=>?_
          refine cj 6 ?_ ?_<;>intro ly<;>try simp at ly
          ·have HM:=mB (p:=jJ y) (xs:=others++bs) (k:=j) (by simp;omega) (by simpa [jJ]using ly)
           refine aj tb V [1000] [_] [_] ?_
           exact bH 0 (hE:=eI (by subst_vars;grind[eX]))
          ·refine ak (nx (aT tb V [0,1,2,3,1002] [_,.int (j+1:Nat),_] [1] U5 Y ⟨aM,U⟩ ?_))
           exact br (j+1) (r5 []) ⟨by simp;omega,mC (by simp;omega) jU (by simp[jJ];grind)⟩
         ·have e10:=mD (p:=jJ y) jU (by simp;omega)
          refine aW (nx (aj tb V [1,2,3,1000] [_] U4 ?_))
          refine ax (lpo (ι:=Nat) (λj=>(j<=bs.length)/\((bs.take j).any (ik y)=false)) (λ_=>[]) (λj=>[(20,.int (j:Nat))]) (λj=>bs.length-j) [0,1,2,3] U3 0 ⟨aI,Y⟩ ?_)
          rintro j ⟨Ng,tq⟩
          refine af (au tb V [0,1,2,3,1003] [_,_,.int (bs.length:Nat),_] [2] U5 Y ⟨aC cW,U⟩ ?_)
          refine cj 4 ?_ ?_<;>intro nU<;>try simp at nU
          ·refine ak (nx (af (ax (au tb V [0,1,2,3,1006,1007] [_,_,.ptr (aP (G bs j)),_,_,_,.rd (ai (y.ac.drop 1)),.bool (gE (G bs j) (y.ac.drop 1))] [2,6,7] U6 Y ⟨bq cL,λ_ _ _ Z hl _=>iW (ys:=y.ac.drop 1) (lo:=1) (hi:=y.ac.length) (by rw[take_length]) bz (λ_=>Y) Y (hl.dep 5 180 _ Y Y Y Y) (Rel.aH (.int .i64 1)) Y ay ay Z,bJ hS V (sX V (G bs j) (y.ac.drop 1)) (cO func200),U⟩ ?_))))
           refine ln 4 λ_=>?_
           refine cj 5 ?_ ?_<;>intro l0<;>try simp at l0
           ·have HN:=mB (p:=ik y) (xs:=bs) (k:=j) oz (by simpa [ik]using l0)
            refine aj tb V [1000] [_] [_] ?_
            exact bH 0 (hE:=eI (by subst_vars;grind[eX]))
           ·refine ak (nx (aT tb V [0,1,2,1002] [_,.int (j+1:Nat),_] [1] U4 Y ⟨aM,U⟩ ?_))
            exact br (j+1) [0,1,2,3] ⟨oz,mC oz tq (by simpa [ik]using l0)⟩
          ·have e12:=mD (p:=ik y) tq oz
           refine aW (nx (af (aj tb V [0,2,1000] [_] U3 ?_)))
           refine ax (lpo (ι:=Nat) (λj=>(j<=others.length)/\((others.take j).any (fU y)=false)) (λ_=>[]) (λj=>[(21,.int (j:Nat))]) (λj=>others.length-j) [0,1,2] U2 0 ⟨aI,Y⟩ ?_)
           rintro j ⟨zy,lU⟩
           refine af (au tb V [0,1,2,1003] [_,_,.int (others.length:Nat),_] [2] U4 Y ⟨aC cW,U⟩ ?_)
           refine cj 3 ?_ ?_<;>intro qg<;>try simp at qg
           ·refine ak (nx (af (ax (au tb V [0,1,2,1016] [_,_,.ptr (aP (G others j)),_,_,_,_,_,_,_,_,.ptr (aP (G others j)),_,_,.bool (k7 (G others j) y),_,_] [2,11,14] U4 Y ⟨bq cL,cT cL (hk:=λ(aF:((decide (((G others j).ae)=y.ae))==true)=true)=>by(try simp at aF);first | omega | (simp;omega) | grind[aE]),bJ hS V (vE V (G others j) y) (cO func201),U⟩ ?_))))
            refine cj 3 ?_ ?_<;>intro l1<;>try simp at l1
            ·have Bz:=mB (p:=fU y) (xs:=others) (k:=j) oz (by simpa [fU]using l1)
             refine aj tb V [1000] [_] [_] ?_
             exact bH 0 (hE:=eI (by subst_vars;grind[eX]))
            ·refine ak (nx (aT tb V [0,1,1002] [_,.int (j+1:Nat),_] [1] U3 Y ⟨aM,U⟩ ?_))
             exact br (j+1) [0,1,2] ⟨oz,mC oz lU (by simp[fU];grind)⟩
           ·have e14:=mD (p:=fU y) lU oz
            refine aW (nx (aj tb V [1000] [_] [_] ?_))
            exact bH 0 (hE:=eI (by subst_vars;grind[eX]))
        ·refine ak (nx (af (aj tb V [0,2,1000] [_] U3 ?_)))
         refine ax (lpo (ι:=Nat) (λj=>(j<=others.length)/\((others.take j).any (fU y)=false)) (λ_=>[]) (λj=>[(21,.int (j:Nat))]) (λj=>others.length-j) [0,1,2] U2 0 ⟨aI,Y⟩ ?_)
         rintro j ⟨zy,lU⟩
         refine af (au tb V [0,1,2,1003] [_,_,.int (others.length:Nat),_] [2] U4 Y ⟨aC cW,U⟩ ?_)
         refine cj 3 ?_ ?_<;>intro qg<;>try simp at qg
         ·refine ak (nx (af (ax (au tb V [0,1,2,1016] [_,_,.ptr (aP (G others j)),_,_,_,_,_,_,_,_,.ptr (aP (G others j)),_,_,.bool (k7 (G others j) y),_,_] [2,11,14] U4 Y ⟨bq cL,cT cL (hk:=λ(aF:((decide (((G others j).ae)=y.ae))==true)=true)=>by(try simp at aF);first | omega | (simp;omega) | grind[aE]),bJ hS V (vE V (G others j) y) (cO func201),U⟩ ?_))))
          refine cj 3 ?_ ?_<;>intro l1<;>try simp at l1
          ·have Bz:=mB (p:=fU y) (xs:=others) (k:=j) oz (by simpa [fU]using l1)
           refine aj tb V [1000] [_] [_] ?_
           exact bH 0 (hE:=eI (by subst_vars;grind[eX]))
          ·refine ak (nx (aT tb V [0,1,1002] [_,.int (j+1:Nat),_] [1] U3 Y ⟨aM,U⟩ ?_))
           exact br (j+1) [0,1,2] ⟨oz,mC oz lU (by simp[fU];grind)⟩
         ·have e14:=mD (p:=fU y) lU oz
          refine aW (nx (aj tb V [1000] [_] [_] ?_))
          exact bH 0 (hE:=eI (by subst_vars;grind[eX]))
     ·refine ak (nx (aL (kz cL V Y Y Y (lb Y) λv4=>ao 1 tb Y (aA [0,2,3,4,5] U5 Y (nx (af (aj tb V (r5 [1000]) [_] U6 ?_)))))))
      refine ax (lpo (ι:=Nat×Value×(List Hy)) (λ(i,_,others)=>(i<=k)/\(others=jd d i)/\(others.length<=80*i)) (λ(_,vo,others)=>[OB.row vo 119 3 (others.map aP)]) (λ(i,vo,_)=>[(17,.int (i:Nat)),(16,.lit vo)]) (λ(i,_,_)=>k-i) [1,2,3,4,5,0] U4 (0,v4,([]:List Hy)) ⟨aI,Y,aI⟩ ?_)
      rintro⟨i,vo,others⟩ ⟨fD,bu,i5⟩
      refine af (aj tb V (r6 [1002]) U3 U7 ?_)
      refine cj 6 ?_ ?_<;>intro iO<;>try simp at iO
      ·refine ak (nx (af (ax (cC (ao 4 tb Y (sy (.ptr (a8 (G d.ab i))) (λh=>cb (i:=(i:Int)) fT Y (h.get 1 Y) (h.get 0 Y) bK (cl (xs:=d.ab) (k:=i) ay) Y h.x) ?_))))))
       refine ao 1 tb Y (sy (.rd (bX ((G d.ab i).aa++(G d.ab i).bB))) (λh=>cV (vD V (G d.ab i) (by have:=hz i oz;omega)) (cO func158) Y (aK hS _ h.keep h.x) (h.x.1) (aq (h.get 0 Y) aN) (jo V h.x)) ?_)
       refine fN (f:=aP) (m:=6) (s:=126) others ((G d.ab i).aa++(G d.ab i).bB) (λ_=>Y) nG V hJ0 Y Y Y (lb Y) Y Y (λa w h=>(h.get 0 Y)) (by first | (have:=hz i oz;simp;omega) | (have:=hz i oz;refine kx ?_;simp;omega)) (by first | (have:=hz i oz;simp;omega) | (have:=hz i oz;refine kx ?_;simp;omega)) λv5=>?_
       refine ao 1 tb Y (aA [0,2,6,9,10,11,12,13] U8 Y (nx (ln 1 λPj=>?_)))
       refine ln 2 λ_=>?_
       refine aT tb V [0,3,4,5,6,1002] [_,.int (i+1:Nat),_] [1] U6 Y ⟨aM,U⟩ ?_
       exact br (i+1,v5,others++((G d.ab i).aa++(G d.ab i).bB)) [1,2,3,4,5,0] ⟨oz,by rw[sm oz,bu],by have:=hz i oz;simp;omega⟩
      ·have qi:i=k:=by omega
       rw[qi]at bu i5
       refine aW (nx (af (tw (λh=>dU hS h (m:=5) (s:=16) Y) (aj tb V [0,2,4,1001] U2 U4 ?_))))
       refine ln 0 λ_=>?_
       refine cj 3 ?_ ?_<;>intro il<;>try simp at il
       ·have PT:=iz hb1 il
        refine af (λa w h=>oh (id:=24) (t:=69) (e:=119) (size:=3) (bytes:=48) (i0:=0) (dj:=5) (d:=18) (ch:=[(2,(others.map aP)),(4,(bs.map aP))]) (λix'=>([.any,.rd (bX others),.any,.rd (bX bs),.any,.any]:List AV).getD ix' .any) (λ_=>true) [(0,16,.rd (bX others)),(1,3,.rd (bX bs)),(2,7,.ptr (aP y))] ((others++bs).map aP) yz ?TX V hJ0 h cU Y Y Y Y ⟨?_,?_,?_,?_,?_,?_,U⟩ ⟨Y,Y,Y,Y,Y,Y,U⟩ (λv6=>?Yb))
        case TX=>
         refine Row.mk' nG ⟨_,Y,Y,Y,Y,Y⟩ ⟨?Xn,?Xo,U⟩ ⟨_,_,_,_,Y,Y,Y,Y,Y,Y,Y,Y,Y⟩ Y Y Y
         case Xn=>exact⟨_,_,_,_,Y,Y,Y,Y,Y,Y,Y,Y,jm (f:=aP) (λ_=>rfl),(by have hm:maxLen=9223372036854775807:=Y;simp[upto];first | (have:=hz i oz;simp;omega) | (have:=hz i oz;refine kx ?_;simp;omega)),(by have hm:maxLen=9223372036854775807:=Y;simp[upto];first | (have:=hz i oz;simp;omega) | (have:=hz i oz;refine kx ?_;simp;omega)),λ_ _ _ _ _ hl=>(hl.dep 1 137 _ Y Y Y Y)⟩
         case Xo=>exact⟨_,_,_,_,Y,Y,Y,Y,Y,Y,Y,Y,jm (f:=aP) (λ_=>rfl),(by have hm:maxLen=9223372036854775807:=Y;simp[upto];first | (have:=hz i oz;simp;omega) | (have:=hz i oz;refine kx ?_;simp;omega)),(by have hm:maxLen=9223372036854775807:=Y;simp[upto];first | (have:=hz i oz;simp;omega) | (have:=hz i oz;refine kx ?_;simp;omega)),λ_ _ _ _ _ hl=>(hl.dep 3 139 _ Y Y Y Y)⟩
        exact λh=>bC Y h
        exact λ_ _=>⟨Y,λ_ _ _ Z hl _=>b9 Y (hl.env 0 16 _ Y Y) Z⟩
        exact λh=>bC Y h
        exact λ_ _=>⟨Y,λ_ _ _ Z hl _=>b9 Y (hl.env 1 3 _ Y Y) Z⟩
        exact λh=>bC Y h
        exact λh=>bC Y h
        clear a w h
        refine nx (af (tw (λh=>dU hS h (m:=0) (s:=18) Y) (aj tb V [0,1,2,3,1000] [_] U5 ?_)))
        refine ln 0 λ_=>?_
        refine ax (lpo (ι:=Nat) (λj=>(j<=(others++bs).length)/\(((others++bs).take j).any (jJ y)=false)) (λ_=>[]) (λj=>[(19,.int (j:Nat))]) (λj=>(others++bs).length-j) (r5 []) U4 0 ⟨aI,Y⟩ ?_)
        rintro j ⟨rx,jU⟩
        refine af (au tb V (r5 [1003]) [_,_,.int ((others++bs).length:Nat),_] [2] U6 Y ⟨aC cW,U⟩ ?_)
        refine cj 5 ?_ ?_<;>intro iA<;>try simp at iA
        ·refine ak (nx (af (ax (au tb V (r5 [1006,1021]) [_,_,.ptr (aP (G (others++bs) j)),_,_,_,.rd (ai (y.ac.drop 1)),.bool (gE (G (others++bs) j) (y.ac.drop 1)),_,_,_,.ptr (aP (G (others++bs) j)),_,_,.ptr [lS (G ((G (others++bs) j).ac) 0)],_,_,_,.ptr [lS (G y.ac 0)],_,_,_] [2,6,7,11,14,18] U7 Y ⟨bq cL,λ_ _ _ Z hl _=>iW (ys:=y.ac.drop 1) (lo:=1) (hi:=y.ac.length) (by rw[take_length]) bz (λ_=>Y) Y (hl.dep 5 152 _ Y Y Y Y) (Rel.aH (.int .i64 1)) Y ay ay Z,bJ hS V (sX V (G (others++bs) j) (y.ac.drop 1)) (cO func200),cT cL (hk:=λ(aF:((gE (G (others++bs) j) (y.ac.drop 1))==true)=true)=>by(try simp at aF);first | omega | (simp;omega) | grind[aE]),cT (k:=0) bz (hk:=λ(aF:((gE (G (others++bs) j) (y.ac.drop 1))==true)=true)=>by(try simp at aF);have:=GJ aF;omega),cT (k:=0) bz (hk:=λ(aF:((gE (G (others++bs) j) (y.ac.drop 1))==true)=true)=>by(try simp at aF);first | omega | (simp;omega) | grind[aE]),U⟩ ?_))))
         refine ln 5 λ_=>?_
         refine cj 6 ?_ ?_<;>intro ly<;>try simp at ly
         ·have HM:=mB (p:=jJ y) (xs:=others++bs) (k:=j) (by simp;omega) (by simpa [jJ]using ly)
          refine aj tb V [1000] [_] [_] ?_
          exact bH 0 (hE:=eI (by subst_vars;grind[eX]))
         ·refine ak (nx (aT tb V [0,1,2,3,1002] [_,.int (j+1:Nat),_] [1] U5 Y ⟨aM,U⟩ ?_))
          exact br (j+1) (r5 []) ⟨by simp;omega,mC (by simp;omega) jU (by simp[jJ];grind)⟩
        ·have e10:=mD (p:=jJ y) jU (by simp;omega)
         refine aW (nx (aj tb V [1,2,3,1000] [_] U4 ?_))
         refine ax (lpo (ι:=Nat) (λj=>(j<=bs.length)/\((bs.take j).any (ik y)=false)) (λ_=>[]) (λj=>[(20,.int (j:Nat))]) (λj=>bs.length-j) [0,1,2,3] U3 0 ⟨aI,Y⟩ ?_)
         rintro j ⟨Ng,tq⟩
         refine af (au tb V [0,1,2,3,1003] [_,_,.int (bs.length:Nat),_] [2] U5 Y ⟨aC cW,U⟩ ?_)
         refine cj 4 ?_ ?_<;>intro nU<;>try simp at nU
         ·refine ak (nx (af (ax (au tb V [0,1,2,3,1006,1007] [_,_,.ptr (aP (G bs j)),_,_,_,.rd (ai (y.ac.drop 1)),.bool (gE (G bs j) (y.ac.drop 1))] [2,6,7] U6 Y ⟨bq cL,λ_ _ _ Z hl _=>iW (ys:=y.ac.drop 1) (lo:=1) (hi:=y.ac.length) (by rw[take_length]) bz (λ_=>Y) Y (hl.dep 5 180 _ Y Y Y Y) (Rel.aH (.int .i64 1)) Y ay ay Z,bJ hS V (sX V (G bs j) (y.ac.drop 1)) (cO func200),U⟩ ?_))))
          refine ln 4 λ_=>?_
          refine cj 5 ?_ ?_<;>intro l0<;>try simp at l0
          ·have HN:=mB (p:=ik y) (xs:=bs) (k:=j) oz (by simpa [ik]using l0)
           refine aj tb V [1000] [_] [_] ?_
           exact bH 0 (hE:=eI (by subst_vars;grind[eX]))
          ·refine ak (nx (aT tb V [0,1,2,1002] [_,.int (j+1:Nat),_] [1] U4 Y ⟨aM,U⟩ ?_))
           exact br (j+1) [0,1,2,3] ⟨oz,mC oz tq (by simpa [ik]using l0)⟩
         ·have e12:=mD (p:=ik y) tq oz
          refine aW (nx (af (aj tb V [0,2,1000] [_] U3 ?_)))
          refine ax (lpo (ι:=Nat) (λj=>(j<=others.length)/\((others.take j).any (fU y)=false)) (λ_=>[]) (λj=>[(21,.int (j:Nat))]) (λj=>others.length-j) [0,1,2] U2 0 ⟨aI,Y⟩ ?_)
          rintro j ⟨zy,lU⟩
          refine af (au tb V [0,1,2,1003] [_,_,.int (others.length:Nat),_] [2] U4 Y ⟨aC cW,U⟩ ?_)
          refine cj 3 ?_ ?_<;>intro qg<;>try simp at qg
          ·refine ak (nx (af (ax (au tb V [0,1,2,1016] [_,_,.ptr (aP (G others j)),_,_,_,_,_,_,_,_,.ptr (aP (G others j)),_,_,.bool (k7 (G others j) y),_,_] [2,11,14] U4 Y ⟨bq cL,cT cL (hk:=λ(aF:((decide (((G others j).ae)=y.ae))==true)=true)=>by(try simp at aF);first | omega | (simp;omega) | grind[aE]),bJ hS V (vE V (G others j) y) (cO func201),U⟩ ?_))))
           refine cj 3 ?_ ?_<;>intro l1<;>try simp at l1
           ·have Bz:=mB (p:=fU y) (xs:=others) (k:=j) oz (by simpa [fU]using l1)
            refine aj tb V [1000] [_] [_] ?_
            exact bH 0 (hE:=eI (by subst_vars;grind[eX]))
           ·refine ak (nx (aT tb V [0,1,1002] [_,.int (j+1:Nat),_] [1] U3 Y ⟨aM,U⟩ ?_))
            exact br (j+1) [0,1,2] ⟨oz,mC oz lU (by simp[fU];grind)⟩
          ·have e14:=mD (p:=fU y) lU oz
           refine aW (nx (aj tb V [1000] [_] [_] ?_))
           exact bH 0 (hE:=eI (by subst_vars;grind[eX]))
       ·refine ak (nx (af (aj tb V [0,2,1000] [_] U3 ?_)))
        refine ax (lpo (ι:=Nat) (λj=>(j<=others.length)/\((others.take j).any (fU y)=false)) (λ_=>[]) (λj=>[(21,.int (j:Nat))]) (λj=>others.length-j) [0,1,2] U2 0 ⟨aI,Y⟩ ?_)
        rintro j ⟨zy,lU⟩
        refine af (au tb V [0,1,2,1003] [_,_,.int (others.length:Nat),_] [2] U4 Y ⟨aC cW,U⟩ ?_)
        refine cj 3 ?_ ?_<;>intro qg<;>try simp at qg
        ·refine ak (nx (af (ax (au tb V [0,1,2,1016] [_,_,.ptr (aP (G others j)),_,_,_,_,_,_,_,_,.ptr (aP (G others j)),_,_,.bool (k7 (G others j) y),_,_] [2,11,14] U4 Y ⟨bq cL,cT cL (hk:=λ(aF:((decide (((G others j).ae)=y.ae))==true)=true)=>by(try simp at aF);first | omega | (simp;omega) | grind[aE]),bJ hS V (vE V (G others j) y) (cO func201),U⟩ ?_))))
         refine cj 3 ?_ ?_<;>intro l1<;>try simp at l1
         ·have Bz:=mB (p:=fU y) (xs:=others) (k:=j) oz (by simpa [fU]using l1)
          refine aj tb V [1000] [_] [_] ?_
          exact bH 0 (hE:=eI (by subst_vars;grind[eX]))
         ·refine ak (nx (aT tb V [0,1,1002] [_,.int (j+1:Nat),_] [1] U3 Y ⟨aM,U⟩ ?_))
          exact br (j+1) [0,1,2] ⟨oz,mC oz lU (by simp[fU];grind)⟩
        ·have e14:=mD (p:=fU y) lU oz
         refine aW (nx (aj tb V [1000] [_] [_] ?_))
         exact bH 0 (hE:=eI (by subst_vars;grind[eX]))
theorem Ll {J:WP} (V:aR J) (d:Db) (f:Fr) (h1:d.vars.length<=8000) (h2:f.aa.length<=40) (h3:f.wide.length*32<=140737488351232) (h4:∀ h∈f.aa,h.bn=true->h.ac.length=2):Fn prog J 161 [.agg (bV d),.agg (a8 f)] (.bool (gg d f)):=by
 refine fE func161 λS w0 hS hJ0=>?_
 refine tw cc (au tb V [1000,1001] [.ptr (bV d),.ptr (a8 f),_] [0,1] U2 Y ⟨cY hS V,cY hS V,U⟩ ?_)
 refine au tb V [0,1,1001,1003,1004,1006,1007,1008] (V4 [.rd (cu (f.ac::(bS f.aa).map Hy.ac)),_,_,.rd (ai (dt d.vars (f.ac::(bS f.aa).map Hy.ac).flatten)),_]) [4,7] U8 Y ⟨bJ hS V (K8 V f.aa f.ac ay) (cO func203),bJ hS V (Li V (f.ac::(bS f.aa).map Hy.ac) d.vars ay) (cO func202),U⟩ ?_
 refine ln 2 λ_=>?_
 refine ln 3 λ_=>?_
 refine ln 4 λ_=>?_
 refine ln 5 λ_=>?_
 refine ln 6 λ_=>?_
 refine aL (kz bz V Y Y Y (lb Y) λv1=>ao 1 tb Y (aA [0,2,3,9] U4 Y (nx (af (aj tb V [0,1,2,3,1000] [_] U5 ?_)))))
 refine ax (lpo (ι:=Nat×Value×(List BA)) (λ(k,_,found)=>(k<=f.aa.length)/\(found=eN (f.aa.take k))/\(found.length<=k)/\((f.aa.take k).all (hIn (gc d f))=true)) (λ(_,vo,found)=>[OB.row vo 9 1 (found.map dO)]) (λ(k,vo,_)=>[(7,.int (k:Nat)),(6,.lit vo)]) (λ(k,_,_)=>f.aa.length-k) [1,2,3,4,0] U3 (0,v1,([]:List BA)) ⟨aI,Y,aI,Y⟩ ?_)
 rintro⟨k,vo,found⟩ ⟨aQ,ah,bh,ic⟩
 refine af (au tb V (r5 [1004]) (V3 [.int (f.aa.length:Nat),_]) [3] U6 Y ⟨aC cW,U⟩ ?_)
 refine cj 5 ?_ ?_<;>intro hb1<;>try simp at hb1
 ·refine ak (nx (af (ax (au tb V (r5 [1005]) (V3 [.ptr (aP (G f.aa k)),_,_]) [3] U6 Y ⟨bq cL,U⟩ ?_))))
  refine cj 5 ?_ ?_<;>intro hb2<;>try simp at hb2
  ·refine af (au tb V (r5 [1007]) (V3 [.ptr (aP (G f.aa k)),_,_,.bool (gE (G f.aa k) (dt d.vars (f.ac::(bS f.aa).map Hy.ac).flatten)),_]) [3,6] U6 Y ⟨bq cL,bJ hS V (sX V (G f.aa k) (dt d.vars (f.ac::(bS f.aa).map Hy.ac).flatten)) (cO func200),U⟩ ?_)
   refine cj 5 ?_ ?_<;>intro aD<;>try simp at aD
   ·have q3:f.aa.all (hIn (gc d f))=false:=uf hb1 (by simp only[hIn,hb2,gc];simpa using aD)
    refine aj tb V [1000] [_] [_] ?_
    exact bH 0 (hE:=eB (by first | (rw[gg,q3];rfl) | (rw[gg,e1,q5];rfl) | (rw[gg,e1,e4,q7];rfl) | (rw[gg,e1,e4,e6];rfl)))
   ·refine ak (nx (cC (ao 4 tb Y (sy (.ptr (aP (G f.aa k))) (λh=>cb (i:=(k:Int)) cL Y (h.get 1 Y) (h.get 0 Y) bK (cl (xs:=f.aa) (k:=k) ay) Y h.x) ?_))))
    refine ao 2 tb Y (sy (.ptr [lS (G ((G f.aa k).ac) 1)]) (λh=>cb (i:=((1:Nat):Int)) bz Y (h.get 0 Y) (Rel.aH (.int .i64 1)) bK (cl (xs:=(G f.aa k).ac) (k:=1) (by have:=h4 _ (aE hb1) hb2;omega)) Y h.x) ?_)
    refine ao 1 tb Y (sy (.rd (ai ([(G ((G f.aa k).ac) 1)]))) (λh=>fz bz j7 Y (h.get 0 Y) (aK hS _ h.keep h.x _ aV) (jo V h.x)) ?_)
    refine fN (f:=dO) (m:=9) (s:=41) found ([(G ((G f.aa k).ac) 1)]) (λ_=>Y) ke V hJ0 Y Y Y (lb Y) Y Y (λa w h=>(h.get 0 Y)) (by first | (simp;omega) | (refine BZ ?_;simp;omega)) (by first | (simp;omega) | (refine BZ ?_;simp;omega)) λv2=>?_
    refine ao 1 tb Y (aA [0,2,5,12,13,14,15] U7 Y (nx (ln 1 λAl=>?_)))
    refine ln 2 λ_=>?_
    refine aT tb V [0,3,4,5,1002] [_,.int (k+1:Nat),_] [1] U5 Y ⟨aM,U⟩ ?_
    exact br (k+1,v2,found++([(G ((G f.aa k).ac) 1)])) [1,2,3,4,0] ⟨oz,by rw[ah,eN,eN,kW oz];simp[hb2],by simp;omega,by rw[rk oz,ic];simp only[hIn,hb2,gc];simpa using aD⟩
  ·refine ak (nx (aT tb V [0,1,2,4,1002] [_,.int (k+1:Nat),_] [1] U5 Y ⟨aM,U⟩ ?_))
   exact br (k+1,vo,found) [0,1,2,4,3] ⟨oz,by rw[ah,eN,eN,kW oz];simp[hb2],oz,by rw[rk oz,ic];simp[hIn,hb2]⟩
 ·have e1:f.aa.all (hIn (gc d f))=true:=by rw[<-cS (xs:=f.aa) oz];exact ic
  have tl:found=eN f.aa:=by rw[ah,cS oz]
  refine aW (nx (af (tw (λh=>dU hS h (m:=4) (s:=6) Y) (aj tb V [0,1,2,3,1000] [_] U5 ?_))))
  refine ln 0 λ_=>?_
  refine ax (lpo (ι:=Nat) (λk=>(k<=(gc d f).length)/\(((gc d f).take k).all (λs=>decide (s∈eN f.aa))=true)) (λ_=>[]) (λk=>[(8,.int (k:Nat))]) (λk=>(gc d f).length-k) (r5 []) U4 0 ⟨aI,Y⟩ ?_)
  rintro k ⟨fD,bu⟩
  refine af (au tb V (r5 [1003]) [_,_,.int ((dt d.vars (f.ac::(bS f.aa).map Hy.ac).flatten).length:Nat),_] [2] U6 Y ⟨aC b7,U⟩ ?_)
  refine cj 5 ?_ ?_<;>intro bd<;>try simp at bd
  ·have XI:=bd
   replace bd:k< (gc d f).length:=bd
   refine ak (nx (af (ax (au tb V (r5 [1006]) (V3 [.ptr [lS (G (dt d.vars (f.ac::(bS f.aa).map Hy.ac).flatten) k)],_,.bool (decide ((G (dt d.vars (f.ac::(bS f.aa).map Hy.ac).flatten) k)∈found)),_]) [3,5] U6 Y ⟨bq bz,bJ hS V (jT V found (G (dt d.vars (f.ac::(bS f.aa).map Hy.ac).flatten) k)) (cO func154),U⟩ ?_))))
   refine cj 5 ?_ ?_<;>intro bW<;>try simp at bW
   ·have q5:(gc d f).all (λs=>decide (s∈eN f.aa))=false:=uf bd (decide_eq_false (by rw[<-tl];exact bW))
    refine aj tb V [1000] [_] [_] ?_
    exact bH 0 (hE:=eB (by first | (rw[gg,q3];rfl) | (rw[gg,e1,q5];rfl) | (rw[gg,e1,e4,q7];rfl) | (rw[gg,e1,e4,e6];rfl)))
   ·refine ak (nx (aT tb V [0,1,2,3,1002] [_,.int (k+1:Nat),_] [1] U5 Y ⟨aM,U⟩ ?_))
    exact br (k+1) (r5 []) ⟨oz,by rw[rk bd,bu,Bool.true_and];exact decide_eq_true (by rw[<-tl];exact bW)⟩
  ·replace bd:(gc d f).length<=k:=bd
   have e4:(gc d f).all (λs=>decide (s∈eN f.aa))=true:=by rw[<-cS (xs:=gc d f) bd];exact bu
   refine aW (nx (af (aj tb V [1,2,3,1000] [_] U4 ?_)))
   refine ax (lpo (ι:=Nat) (λk=>(k<=f.wide.length)/\((f.wide.take k).any (pM d)=false)) (λ_=>[]) (λk=>[(9,.int (k:Nat))]) (λk=>f.wide.length-k) [0,1,2,3] U3 0 ⟨aI,Y⟩ ?_)
   rintro k ⟨rx,jU⟩
   refine af (au tb V [0,1,2,3,1002,1004] (V3 [.int (f.wide.length:Nat),_]) [3] U6 Y ⟨aC fQ,U⟩ ?_)
   refine ln 4 λ_=>?_
   refine cj 5 ?_ ?_<;>intro eW<;>try simp at eW
   ·refine ak (nx (af (ax (aL (ao 3 tb Y (sy (.ptr (aS (G f.wide k))) (λh=>cb (i:=(k:Int)) df Y (h.get 1 Y) (h.get 0 Y) bK (cl (xs:=f.wide) (k:=k) ay) Y h.x) ?_))))))
    refine ao 1 tb Y (iX (cs:=aS (G f.wide k)) ym Y Y Y (lb Y) Y Y Y dz (m:=0) Y Y (λa w h=>aK hS _ h.keep h.x _ aV) (λa w h w' hk'=>fo V _ _ hk' h.x) (aA [0,6,7,8,9] U5 Y (nx (au tb V [1,2,3,4,1020] (pC [.bool (decide (((G f.wide k).a)∈d.vars)),_,_,_,_,_,_,_,.bool (decide (((G f.wide k).b)∈d.vars)),_,_]) [10,18] U5 Y ⟨bJ hS V (jT V d.vars ((G f.wide k).a)) (cO func154),bJ hS V (jT V d.vars ((G f.wide k).b)) (cO func154),U⟩ ?_))))
    refine cj 4 ?_ ?_<;>intro fV
    ·have q7:f.wide.any (pM d)=true:=mB (by omega:k<f.wide.length) fV
     refine aj tb V [1000] [_] [_] ?_
     exact bH 0 (hE:=eB (by first | (rw[gg,q3];rfl) | (rw[gg,e1,q5];rfl) | (rw[gg,e1,e4,q7];rfl) | (rw[gg,e1,e4,e6];rfl)))
    ·refine ak (nx (aT tb V [0,1,2,1002] [_,.int (k+1:Nat),_] [1] U4 Y ⟨aM,U⟩ ?_))
     exact br (k+1) [0,1,2,3] ⟨oz,mC oz jU fV⟩
   ·have e6:=mD (p:=pM d) jU oz
    refine aW (nx (au tb V [1004,1015] (V4 [.rd (bM (nc f.wide ([]:List Pr))),.bool (decide (f.wide=(nc f.wide ([]:List Pr)))),_,_,_,_,_,_,.rd (bM (f.wide.filter (i7 (dt d.vars (f.ac::(bS f.aa).map Hy.ac).flatten)))),.bool (decide (f.apart=(f.wide.filter (i7 (dt d.vars (f.ac::(bS f.aa).map Hy.ac).flatten))))),_,_]) [4,5,12,13] U2 Y ⟨λ_ _ hk Z hl _=>cV (KU V f.wide ([]:List Pr) (by simp only[List.length_nil];omega)) (cO func205) Y (aK hS _ hk Z) (Z.1) (aq (hl.dep 3 101 _ Y Y Y Y) (aq (xh (Rel.aH (.slice none 0 0))) aN)) (jo V Z),bJ hS V (Dx V f.wide (nc f.wide ([]:List Pr))) (cO func204),λ_ _ hk Z hl hc=>cV (Ln V f.wide (dt d.vars (f.ac::(bS f.aa).map Hy.ac).flatten) (by have aF:((decide (f.wide=(nc f.wide ([]:List Pr))))==true)=true:=hc;(try simp at aF);(omega))) (cO func206) Y (aK hS _ hk Z) (Z.1) (aq (hl.dep 10 108 _ Y Y Y hc) (aq (hl.dep 11 109 _ Y Y Y hc) aN)) (jo V Z),bJ hS V (Dx V f.apart (f.wide.filter (i7 (dt d.vars (f.ac::(bS f.aa).map Hy.ac).flatten)))) (cO func204),U⟩ ?_))
    refine ln 0 λ_=>?_
    exact bH 1 (hE:=eB (by first | (rw[gg,q3];rfl) | (rw[gg,e1,q5];rfl) | (rw[gg,e1,e4,q7];rfl) | (rw[gg,e1,e4,e6];rfl)))
theorem Lm {J:WP} (V:aR J) (d:Db)  :Fn prog J 127 [.agg (bV d)] (.int (ed d)):=by
 refine fE func127 λS w0 hS hJ0=>?_
 clear hJ0
 refine aJ tb V [1000] [.ptr (bV d),_] [0] [_] Y ⟨d9 hS V,U⟩ ?_
 refine af (qs tb V [0,1000] [_] U2 ?_)
 refine ax (lp (ι:=Nat) (λk=>(k<=d.bL.length)/\(∀ j,j<k->gP d j=0)) (λk=>[(3,.int (k:Nat))]) (λk=>d.bL.length-k) [0,1] [_] 0 ⟨aI,λj hj=>by omega⟩ ?_)
 rintro k ⟨aQ,ah⟩
 refine af (aJ tb V [0,1,1002,1004] (V3 [.int (d.bL.length:Nat),_]) [3] U4 Y ⟨aC b7,U⟩ ?_)
 refine ln 2 λ_=>?_
 refine cj 3 ?_ ?_<;>intro hb1<;>try simp at hb1
 ·refine ak (nx (af (ax (af (aJ tb V [0,1,1006] (V3 [.ptr [lS (G d.bL k)],_,.bool (gZ (G d.bL k)),_]) [3,5] U3 Y ⟨bq bz,dh hS V (Dm V (G d.bL k)) (cO func153),U⟩ ?_)))))
  refine cj 2 ?_ ?_<;>intro hb2<;>try simp at hb2
  ·have q2:gP d k=2:=by simp[gP,hb2]
   refine qs tb V [1000] [_] [_] ?_
   exact aU 0 (hE:=eI (by first | (have:=jj (by omega:k<d.bL.length) ah (by rw[q2];decide);rw[ed,this,q2];rfl) | (have:=jj (by omega:k<d.vars.length) bu (by rw[q5];decide);rw[ed,e1,this,q5];rfl) | (rw[ed,e1,e4];rfl)))
  ·refine ak (nx (aJ tb V [0,1,1003,1009] (V3 [.rd (ai (d.bL.take k)),_,_,_,.ptr [lS (G d.bL k)],_,.bool (decide ((G d.bL k)∈(d.bL.take k)))]) [3,7,9] U4 Y ⟨λ_ _ _ Z hl _=>iW (ys:=d.bL.take k) (lo:=0) (hi:=k) drop_zero bz (λ_=>Y) Y (hl.dep 1 20 _ Y Y Y Y) Y (hl.dep 2 21 _ Y Y Y Y) ay ay Z,bq bz,dh hS V (jT V (d.bL.take k) (G d.bL k)) (cO func154),U⟩ ?_))
   refine ln 2 λ_=>?_
   refine cj 3 ?_ ?_<;>intro aD<;>try simp at aD
   ·have q2:gP d k=6:=by simp[gP,hb2,aD]
    refine qs tb V [1000] [_] [_] ?_
    exact aU 0 (hE:=eI (by first | (have:=jj (by omega:k<d.bL.length) ah (by rw[q2];decide);rw[ed,this,q2];rfl) | (have:=jj (by omega:k<d.vars.length) bu (by rw[q5];decide);rw[ed,e1,this,q5];rfl) | (rw[ed,e1,e4];rfl)))
   ·refine ak (nx (dK tb V [0,1002] [_,.int (k+1:Nat),_] [1] U2 Y ⟨aM,U⟩ ?_))
    exact dM (k+1) [0,1] ⟨oz,cB ah (by simp_all[gP])⟩
 ·have e1:fZ d.bL.length (gP d)=0:=mP λj hj=>ah j oz
  refine aW (nx (af (qs tb V [0,1000] [_] U2 ?_)))
  refine ax (lp (ι:=Nat) (λk=>(k<=d.vars.length)/\(∀ j,j<k->iZ d j=0)) (λk=>[(4,.int (k:Nat))]) (λk=>d.vars.length-k) [0,1] [_] 0 ⟨aI,λj hj=>by omega⟩ ?_)
  rintro k ⟨fD,bu⟩
  refine af (aJ tb V [0,1,1002,1004] (V3 [.int (d.vars.length:Nat),_]) [3] U4 Y ⟨aC b7,U⟩ ?_)
  refine ln 2 λ_=>?_
  refine cj 3 ?_ ?_<;>intro bd<;>try simp at bd
  ·refine ak (nx (af (ax (af (aJ tb V [0,1,1006] (V3 [.ptr [lS (G d.vars k)],_,.bool (gZ (G d.vars k)),_]) [3,5] U3 Y ⟨bq bz,dh hS V (Dm V (G d.vars k)) (cO func153),U⟩ ?_)))))
   refine cj 2 ?_ ?_<;>intro bW<;>try simp at bW
   ·have q5:iZ d k=2:=by simp[iZ,bW]
    refine qs tb V [1000] [_] [_] ?_
    exact aU 0 (hE:=eI (by first | (have:=jj (by omega:k<d.bL.length) ah (by rw[q2];decide);rw[ed,this,q2];rfl) | (have:=jj (by omega:k<d.vars.length) bu (by rw[q5];decide);rw[ed,e1,this,q5];rfl) | (rw[ed,e1,e4];rfl)))
   ·refine ak (nx (aJ tb V [0,1,1019] (V5 [.ptr [lS (G d.vars k)],_,.bool (decide ((G d.vars k)∈d.bL)),_,_,_,_,.rd (ai (d.vars.take k)),_,_,_,.ptr [lS (G d.vars k)],_,.bool (decide ((G d.vars k)∈(d.vars.take k))),_]) [5,7,12,16,18] U3 Y ⟨bq bz,dh hS V (jT V d.bL (G d.vars k)) (cO func154),λ_ _ _ Z hl hc=>iW (ys:=d.vars.take k) (lo:=0) (hi:=k) drop_zero bz (λ_=>Y) Y (hl.dep 10 53 _ Y Y Y hc) Y (hl.dep 11 54 _ Y Y Y hc) (by have aF:((decide ((G d.vars k)∈d.bL))==false)=true:=hc;(try simp at aF);(first | omega | (simp;omega) | grind[aE])) (by have aF:((decide ((G d.vars k)∈d.bL))==false)=true:=hc;(try simp at aF);(first | omega | (simp;omega) | grind[aE])) Z,cT bz (hk:=λ(aF:((decide ((G d.vars k)∈d.bL))==false)=true)=>by(try simp at aF);first | omega | (simp;omega) | grind[aE]),dh hS V (jT V (d.vars.take k) (G d.vars k)) (cO func154),U⟩ ?_))
    refine cj 2 ?_ ?_<;>intro eW<;>try simp at eW
    ·have q5:iZ d k=6:=by simp_all[iZ]
     refine qs tb V [1000] [_] [_] ?_
     exact aU 0 (hE:=eI (by first | (have:=jj (by omega:k<d.bL.length) ah (by rw[q2];decide);rw[ed,this,q2];rfl) | (have:=jj (by omega:k<d.vars.length) bu (by rw[q5];decide);rw[ed,e1,this,q5];rfl) | (rw[ed,e1,e4];rfl)))
    ·refine ak (nx (dK tb V [0,1002] [_,.int (k+1:Nat),_] [1] U2 Y ⟨aM,U⟩ ?_))
     exact dM (k+1) [0,1] ⟨oz,cB bu (by simp_all[iZ])⟩
  ·have e4:fZ d.vars.length (iZ d)=0:=mP λj hj=>bu j oz
   refine aW (nx (qs tb V [1000] [_] [_] ?_))
   exact aU 0 (hE:=eI (by first | (have:=jj (by omega:k<d.bL.length) ah (by rw[q2];decide);rw[ed,this,q2];rfl) | (have:=jj (by omega:k<d.vars.length) bu (by rw[q5];decide);rw[ed,e1,this,q5];rfl) | (rw[ed,e1,e4];rfl)))
theorem La {J:WP} (V:aR J) (d:Db) (k:Nat) (hk0:k<d.ab.length) (hf:d.ab.length<=400) (hv:d.vars.length<=8000) (hz:∀ i,i<k->(G d.ab i).aa.length<=40/\(G d.ab i).bB.length<=40) (hw:(G d.ab k).wide.length*32<=140737488351232):Fn prog J 128 [.agg (bV d),.int (k:Nat)] (.int (dI d k)):=by
 refine fE func128 λS w0 hS hJ0=>?_
 clear hJ0
 refine aJ tb V [1,1000] [.ptr (bV d),_] [0] U2 Y ⟨d9 hS V,U⟩ ?_
 refine aL (ao 3 tb Y (sy (.ptr (a8 (G d.ab k))) (λh=>cb (i:=(k:Int)) fT Y (h.get 1 Y) (h.get 0 Y) bK (cl (xs:=d.ab) (k:=k) ay) Y h.x) ?_))
 refine ao 1 tb Y (iX (cs:=a8 (G d.ab k)) yn Y Y Y (lb Y) Y Y Y dz (m:=0) Y Y (λa w h=>hS _ h.keep.size) (λa w h w' hk'=>V _ _ hk' h.x) (aA [0,4,6,7] U4 Y (nx (ln 1 λcr=>?_))))
 refine af (aJ tb V [0,2,3,1003] [_,_,.bool (ga ((G d.ab k).ae)),_] [2] U4 Y ⟨dh hS V (yV V ((G d.ab k).ae)) (cO func155),U⟩ ?_)
 refine cj 3 ?_ ?_<;>intro hb1<;>try simp at hb1
 ·refine qs tb V [1000] [_] [_] ?_
  exact aU 0 (hE:=eI (by first | (show eJ d k j=_;have q6:eJ d k j≠0:=jc bW;rw[dI,fd];grind) | (rw[dI,fd];grind)))
 ·refine ak (nx (af (aJ tb V [0,1,2,1008,1009] (V4 [.bF [.bool (fu d k ((G d.ab k).ae)),.bool (iQ d k ((G d.ab k).ae))],_,_,_,_,_]) [4] U5 Y ⟨dh hS V (yW V d k ((G d.ab k).ae) ay (hz)) (cO func156),U⟩ ?_)))
  refine aJ tb V [0,1,2,1009] (V8 [.bool (fP d ((G d.ab k).ae)),_]) [8] U4 Y ⟨dh hS V (yX V d ((G d.ab k).ae)) (cO func157),U⟩ ?_
  refine cj 3 ?_ ?_<;>intro hb2
  ·refine qs tb V [1000] [_] [_] ?_
   exact aU 0 (hE:=eI (by first | (show eJ d k j=_;have q6:eJ d k j≠0:=jc bW;rw[dI,fd];grind) | (rw[dI,fd];grind)))
  ·refine ak (nx (af (aJ tb V [0,1,2,1001,1009] [_,_,.int (((G d.ab k).aa).length:Nat),_,_,_,_,.int (((G d.ab k).bB).length:Nat),_,_] [2,7] U5 Y ⟨aC cW,aC cW,U⟩ ?_)))
   refine ln 3 λ_=>?_
   refine cj 4 ?_ ?_<;>intro aD
   ·refine qs tb V [1000] [_] [_] ?_
    exact aU 0 (hE:=eI (by first | (show eJ d k j=_;have q6:eJ d k j≠0:=jc bW;rw[dI,fd];grind) | (rw[dI,fd];grind)))
   ·have e3:(G d.ab k).aa.length<=40/\(G d.ab k).bB.length<=40:=by simp at aD;omega
    refine ak (nx (aJ tb V [0,1,2,1001,1002] [_,.rd (bX ((G d.ab k).aa++(G d.ab k).bB)),_] [1] U5 Y ⟨dh hS V (vD V (G d.ab k) ay) (cO func158),U⟩ ?_))
    refine ln 3 λ_=>?_
    refine af (qs tb V [0,1,2,4,1000] [_] U5 ?_)
    refine ax (lp (ι:=Nat) (λj=>(j<=((G d.ab k).aa++(G d.ab k).bB).length)/\(∀ i,i<j->eJ d k i=0)) (λj=>[(9,.int (j:Nat))]) (λj=>((G d.ab k).aa++(G d.ab k).bB).length-j) (r5 []) U4 0 ⟨aI,λj hj=>by omega⟩ ?_)
    rintro j ⟨aQ,ah⟩
    refine af (aJ tb V (r5 [1003]) [_,_,.int (((G d.ab k).aa++(G d.ab k).bB).length:Nat),_] [2] U6 Y ⟨aC cW,U⟩ ?_)
    refine cj 5 ?_ ?_<;>intro bd<;>try simp at bd
    ·refine ak (nx (af (ax (aJ tb V (r5 [1008,1015]) (V4 [.ptr (aP (G ((G d.ab k).aa++(G d.ab k).bB) j)),_,_,_,.rd (bX (((G d.ab k).aa++(G d.ab k).bB).take j)),_,_,_,.int (((G d.ab k).aa).length:Nat),_,.int (eX d k (G ((G d.ab k).aa++(G d.ab k).bB) j) (((G d.ab k).aa++(G d.ab k).bB).take j) (decide (((((G d.ab k).aa).length:Nat):Int)<=(j:Int)))),_]) [4,8,12,14] U7 Y ⟨bq cL,λ_ _ _ Z hl _=>iW (ys:=((G d.ab k).aa++(G d.ab k).bB).take j) (lo:=0) (hi:=j) drop_zero cL (λ_=>Y) Y (hl.dep 6 68 _ Y Y Y Y) Y (hl.dep 7 69 _ Y Y Y Y) ay ay Z,aC cW,dh hS V (Le V d k (G ((G d.ab k).aa++(G d.ab k).bB) j) (((G d.ab k).aa++(G d.ab k).bB).take j) (decide (((((G d.ab k).aa).length:Nat):Int)<=(j:Int))) ay ay (by intro i hi;by_cases e:i=k;(subst e;exact e3);exact hz i oz) (by have:=List.length_take_le' j ((G d.ab k).aa++(G d.ab k).bB);simp at this ⊢;omega)) (cO func159),U⟩ ?_))))
     refine ln 5 λ_=>?_
     refine qs tb V (r5 [6,1001]) U2 U7 ?_
     refine cj 6 ?_ ?_<;>intro bW
     ·have q5:lE d k=eJ d k j:=jj (by simp;omega) ah (jc bW)
      refine qs tb V [1001] U2 [_] ?_
      exact aU 0 (hE:=eI (by first | (show eJ d k j=_;have q6:eJ d k j≠0:=jc bW;rw[dI,fd];grind) | (rw[dI,fd];grind)))
     ·refine ak (nx (dK tb V [0,1,2,3,1002] [_,.int (j+1:Nat),_] [1] U5 Y ⟨aM,U⟩ ?_))
      exact dM (j+1) (r5 []) ⟨by simp;omega,cB ah (pk bW)⟩
    ·have e4:lE d k=0:=mP λi hi=>ah i (by simp at bd hi;omega)
     refine aW (nx (af (aJ tb V [0,1,2,1001,1009] [_,_,.int (((G d.ab k).ac).length:Nat),_,_,_,_,.int (((G d.ab k).ac).length:Nat),_,_] [2,7] U5 Y ⟨aC b7,aC b7,U⟩ ?_)))
     refine ln 3 λ_=>?_
     refine cj 4 ?_ ?_<;>intro eW
     ·refine qs tb V [1000] [_] [_] ?_
      exact aU 0 (hE:=eI (by first | (show eJ d k j=_;have q6:eJ d k j≠0:=jc bW;rw[dI,fd];grind) | (rw[dI,fd];grind)))
     ·refine ak (nx (af (aJ tb V [0,1,2,1004] (V3 [.int (iN d ((G d.ab k).ac)),_]) [3] U4 Y ⟨dh hS V (Dr V d ((G d.ab k).ac) ay) (cO func160),U⟩ ?_)))
      refine qs tb V [0,1,2,3,1001] U2 U5 ?_
      refine cj 4 ?_ ?_<;>intro fV<;>try simp at fV
      ·refine qs tb V [1001] U2 [_] ?_
       exact aU 0 (hE:=eI (by first | (show eJ d k j=_;have q6:eJ d k j≠0:=jc bW;rw[dI,fd];grind) | (rw[dI,fd];grind)))
      ·refine ak (nx (af (aJ tb V [0,1,2,1003] [_,_,.bool (gg d (G d.ab k)),_] [2] U4 Y ⟨dh hS V (Ll V d (G d.ab k) ay ay (hw) (λh hh=>QW e4 h (by simp[hh]))) (cO func161),U⟩ ?_)))
       refine cj 3 ?_ ?_<;>intro iO<;>try simp at iO
       ·refine qs tb V [1000] [_] [_] ?_
        exact aU 0 (hE:=eI (by first | (show eJ d k j=_;have q6:eJ d k j≠0:=jc bW;rw[dI,fd];grind) | (rw[dI,fd];grind)))
       ·refine ak (nx (af (aJ tb V [0,1,2,1001,1014] [_,_,.int (((G d.ab k).proof).length:Nat),_,_,_,_,_,_,_,_,_,.int (((G d.ab k).proof).length:Nat),_,_] [2,12] U5 Y ⟨aC b7,aC b7,U⟩ ?_)))
        refine ln 3 λ_=>?_
        refine cj 4 ?_ ?_<;>intro il
        ·refine qs tb V [1000] [_] [_] ?_
         exact aU 0 (hE:=eI (by first | (show eJ d k j=_;have q6:eJ d k j≠0:=jc bW;rw[dI,fd];grind) | (rw[dI,fd];grind)))
        ·refine ak (nx (af (qs tb V [0,1,2,1000] [_] U4 ?_)))
         refine ax (lp (ι:=Nat) (λj=>(j<=(G d.ab k).proof.length)/\(((G d.ab k).proof.take j).all fy=true)) (λj=>[(12,.int (j:Nat))]) (λj=>(G d.ab k).proof.length-j) [0,1,2,3] U3 0 ⟨aI,Y⟩ ?_)
         rintro j ⟨fD,bu⟩
         refine af (aJ tb V [0,1,2,3,1004] (V3 [.int (((G d.ab k).proof).length:Nat),_]) [3] U5 Y ⟨aC b7,U⟩ ?_)
         refine cj 4 ?_ ?_<;>intro iA<;>try simp at iA
         ·refine ak (nx (af (ax (aJ tb V [0,1,2,3,1006] (V3 [.ptr [lS (G ((G d.ab k).proof) j)],_,.bool (fy (G ((G d.ab k).proof) j)),_]) [3,5] U5 Y ⟨bq bz,dh hS V (KS V (G ((G d.ab k).proof) j)) (cO func162),U⟩ ?_))))
          refine cj 4 ?_ ?_<;>intro ly<;>try simp at ly
          ·have HM:(G d.ab k).proof.all fy=false:=uf iA ly
           refine qs tb V [1000] [_] [_] ?_
           exact aU 0 (hE:=eI (by first | (show eJ d k j=_;have q6:eJ d k j≠0:=jc bW;rw[dI,fd];grind) | (rw[dI,fd];grind)))
          ·refine ak (nx (dK tb V [0,1,2,1002] [_,.int (j+1:Nat),_] [1] U4 Y ⟨aM,U⟩ ?_))
           exact dM (j+1) [0,1,2,3] ⟨oz,by rw[rk oz,bu];simpa using ly⟩
         ·have e10:(G d.ab k).proof.all fy=true:=by rw[<-cS (xs:=(G d.ab k).proof) oz];exact bu
          refine aW (nx (aJ tb V [1,2,1001,1002] [_,.rd (ai ((bS (G d.ab k).aa).map Hy.ae)),_] [1] U4 Y ⟨dh hS V (Dk V (G d.ab k) ay) (cO func163),U⟩ ?_))
          refine ln 2 λ_=>?_
          refine af (aJ tb V [0,1,3,1002,1005] [_,_,.rd (ai (kg d k)),_,.int (gC (kg d k) ((bS (G d.ab k).aa).map Hy.ae):Nat),_] [2,4] U5 Y ⟨dh hS V (K0 V d k ay ay (λh=>(hz (k-1) oz).1)) (cO func165),dh hS V (K3 V (kg d k) ((bS (G d.ab k).aa).map Hy.ae)) (cO func164),U⟩ ?_)
          refine ln 3 λ_=>?_
          refine ax (lp (ι:=Nat) (λm=>(gC (kg d k) ((bS (G d.ab k).aa).map Hy.ae)<=m)/\(m<=((bS (G d.ab k).aa).map Hy.ae).length)/\(∀ i,gC (kg d k) ((bS (G d.ab k).aa).map Hy.ae)<=i->i<m->iQ d k (G ((bS (G d.ab k).aa).map Hy.ae) i)=false)) (λm=>[(14,.int (m:Nat))]) (λm=>((bS (G d.ab k).aa).map Hy.ae).length-m) [0,1,2,4] U3 (gC (kg d k) ((bS (G d.ab k).aa).map Hy.ae)) ⟨Nat.le_refl _,y8 _ _,λi h1 h2=>by omega⟩ ?_)
          rintro m ⟨rx,jU,zx⟩
          refine af (aJ tb V [0,1,2,3,1003] [_,_,.int (((bS (G d.ab k).aa).map Hy.ae).length:Nat),_] [2] U5 Y ⟨aC b7,U⟩ ?_)
          refine cj 4 ?_ ?_<;>intro nU
          ·replace nU:m< ((bS (G d.ab k).aa).map Hy.ae).length:=by have:=of_decide_eq_true nU;omega
           refine ak (nx (af (ax (aJ tb V [0,1,2,3,1011] (V4 [.ptr [lS (G ((bS (G d.ab k).aa).map Hy.ae) m)],_,.bF [.bool (fu d k (G ((bS (G d.ab k).aa).map Hy.ae) m)),.bool (iQ d k (G ((bS (G d.ab k).aa).map Hy.ae) m))],_,_,_,_,_]) [4,6] U5 Y ⟨bq bz,dh hS V (yW V d k (G ((bS (G d.ab k).aa).map Hy.ae) m) ay (hz)) (cO func156),U⟩ ?_))))
           refine qs tb V [0,1,2,3,1000] [_] U5 ?_
           refine cj 4 ?_ ?_<;>intro l0<;>try simp at l0
           ·have HN:ut d k (G d.ab k)=true:=L8 rx nU l0
            refine qs tb V [1000] [_] [_] ?_
            exact aU 0 (hE:=eI (by first | (show eJ d k j=_;have q6:eJ d k j≠0:=jc bW;rw[dI,fd];grind) | (rw[dI,fd];grind)))
           ·refine ak (nx (dK tb V [0,1,2,1002] [_,.int (m+1:Nat),_] [1] U4 Y ⟨aM,U⟩ ?_))
            exact dM (m+1) [0,1,2,3] ⟨oz,oz,λi h1 h2=>by by_cases e:i=m;(subst e;simpa using l0);exact zx i h1 oz⟩
          ·replace nU:((bS (G d.ab k).aa).map Hy.ae).length<=m:=by have:=of_decide_eq_false nU;omega
           have e12:ut d k (G d.ab k)=false:=L9 λi h1 h2=>zx i h1 oz
           refine aW (nx (qs tb V [1000] [_] [_] ?_))
           exact aU 0 (hE:=eI (by first | (show eJ d k j=_;have q6:eJ d k j≠0:=jc bW;rw[dI,fd];grind) | (rw[dI,fd];grind)))
theorem KN {J:WP} (V:aR J) (d:Db) (hw:∀ i,i<d.ab.length->(G d.ab i).wide.length*32<=140737488351232):Fn prog J 97 [.agg (bV d)] (.int (dG d)):=by
 refine fE func97 λS w0 hS hJ0=>?_
 clear hJ0
 refine aJ tb V [1000] [.ptr (bV d),_] [0] [_] Y ⟨d9 hS V,U⟩ ?_
 refine af (aJ tb V [0,1001,1015] [_,_,.int (d.ab.length:Nat),_,_,_,_,.int (d.bL.length:Nat),_,_,_,_,_,.int (d.vars.length:Nat),_,_] [2,7,13] U3 Y ⟨aC nv,aC b7,aC b7,U⟩ ?_)
 refine ln 1 λ_=>?_
 refine cj 2 ?_ ?_<;>intro hb1
 ·refine qs tb V [1000] [_] [_] ?_
  exact aU 0 (hE:=eI (by rw[dG];grind))
 ·have e1:(d.ab.length<=400/\d.bL.length<=8000)/\d.vars.length<=8000:=by simp at hb1;omega
  refine ak (nx (af (aJ tb V [0,1002] [_,.int (ed d),_] [1] U2 Y ⟨dh hS V (Lm V d) (cO func127),U⟩ ?_)))
  refine qs tb V [0,1,1001] U2 U3 ?_
  refine cj 2 ?_ ?_<;>intro hb2<;>try simp at hb2
  ·refine qs tb V [1001] U2 [_] ?_
   exact aU 0 (hE:=eI (by rw[dG];grind))
  ·refine ak (nx (af (qs tb V [0,1000] [_] U2 ?_)))
   refine ax (lp (ι:=Nat) (λk=>(k<=d.ab.length)/\(∀ i,i<k->dI d i=0)) (λk=>[(4,.int (k:Nat))]) (λk=>d.ab.length-k) [0,1] [_] 0 ⟨aI,λj hj=>by omega⟩ ?_)
   rintro k ⟨aQ,ah⟩
   refine af (aJ tb V [0,1,1004] (V3 [.int (d.ab.length:Nat),_]) [3] U3 Y ⟨aC nv,U⟩ ?_)
   refine cj 2 ?_ ?_<;>intro aD<;>try simp at aD
   ·refine ak (nx (af (ax (aJ tb V [0,1,1003] [_,_,.int (dI d k),_] [2] U3 Y ⟨dh hS V (La V d k ay (e1.1.1) (e1.2) (λi hi=>tE (ah i hi)) (hw k oz)) (cO func128),U⟩ ?_))))
    refine qs tb V [0,1,2,1001] U2 U4 ?_
    refine cj 3 ?_ ?_<;>intro bd<;>try simp at bd
    ·have q4:=jj oz ah bd
     refine qs tb V [1001] U2 [_] ?_
     exact aU 0 (hE:=eI (by rw[dG];grind))
    ·refine ak (nx (dK tb V [0,1002] [_,.int (k+1:Nat),_] [1] U2 Y ⟨aM,U⟩ ?_))
     exact dM (k+1) [0,1] ⟨oz,cB ah bd⟩
   ·have e3:fZ d.ab.length (dI d)=0:=mP λi hi=>ah i oz
    refine aW (nx (qs tb V [1000] [_] [_] ?_))
    exact aU 0 (hE:=eI (by rw[dG];grind))
section
variable {J:WP} (V:aR J)
include V
theorem xp (M1 M2:Nat) (M3 M4 M5:Nat) (cs vs:List BA) (s:BA)  :cD prog J 171 [OB.set aB M1 cs,OB.set aB M2 vs] [.ptr (dq [M1,M2,M3,M4,M5]),.str s] (.bool (decide (s∈cs)||decide (s∈vs))):=by
 refine eV func171 λS w0 hS hJ0 hH=>?_
 clear hJ0
 refine qs tb V [0,1] [_] U2 ?_
 refine aJ tb V [1014] (V5 [.bool (decide (s∈cs)),_,_,_,_,_,_,.bool (decide (s∈vs)),_,_]) [5,12] [_] Y ⟨λ_ _ hk Z hl _=>jL (Kd:=aB) (xs:=cs) iT jQ s Y (f7 hH hk (mo 0 Y)) (hl.D 3 8 Y Y) (hl.D 4 9 Y Y) Z,λ_ _ hk Z hl hc=>jL (Kd:=aB) (xs:=vs) iT jQ s Y (f7 hH hk (mo 1 Y)) (hl.D 10 15 Y hc) (hl.D 11 16 Y hc) Z,U⟩ ?_
 exact aU 0 (hE:=eB (by first | rfl | grind[aE]))
theorem TD (M1 M2:Nat) (M3 M4 M5:Nat) (cs vs:List BA) (s:BA)  :cD prog J 214 [OB.set aB M1 cs,OB.set aB M2 vs] [.str s,.ptr [.ptr (dq [M1,M2,M3,M4,M5])]] (.bool (!(decide (s∈cs)||decide (s∈vs)))):=by
 refine eV func214 λS w0 hS hJ0 hH=>?_
 clear hJ0
 refine qs tb V [0,1] [_] U2 ?_
 refine aJ tb V [1004] [_,_,.bool (decide (s∈cs)||decide (s∈vs)),_,_] [2] [_] Y ⟨λ_ _ hk Z hl _=>dv (xp V M1 M2 M3 M4 M5 cs vs s) (cO func171) Y (nm hS hk) (Z) (dJ (f7 hH hk (mo 0 Y)) (dJ (f7 hH hk (mo 1 Y)) b8)) (aq (hl.D 0 4 Y Y) (aq (hl.D 1 5 Y Y) aN)) (js V Z),U⟩ ?_
 exact aU 0 (hE:=Y)
theorem SR (xs:List BA) (f:FuncId) (caps:List AV) (Os:List OB) (p:BA->Bool) (hf:∀ q',cD prog J f Os ([.str (q')]++caps) (.bool (p q'))) (hk0:dy prog f):cD prog J 169 Os [.rd (ai xs),.fn f caps] (.int (cH p xs)):=by
 refine eV func169 λS w0 hS hJ0 hH=>?_
 clear hJ0
 refine ln 0 λ_=>?_
 refine qs tb V [0,1] [_] U2 ?_
 refine af (aJ tb V [0,1,1001,1002] [_,.int (xs.length:Nat),_] [1] U4 Y ⟨aC b7,U⟩ ?_)
 refine ax (lp (ι:=Nat) (λk=>(k<=xs.length)/\(∀ j,j<k->p (G xs j)=false)) (λk=>[(8,.int (k:Nat))]) (λk=>xs.length-k) [0,1,2,3] U3 0 ⟨aI,λj hj=>by omega⟩ ?_)
 rintro k ⟨aQ,ah⟩
 refine qs tb V [0,1,2,3,1000] [_] U5 ?_
 refine cE 4 ?_ ?_<;>intro hb1<;>try simp at hb1
 ·refine ak (nx (af (ax (qs tb V [0,1,2,3,1001] U2 U5 ?_))))
  refine aJ tb V (r5 [1005]) (V3 [.ptr [lS (G xs k)],_,.bool (p (G xs k))]) [3,5] U6 Y ⟨bq bz,λ_ _ hk Z hl _=>iE (hf (G xs k)) hk0 Y (hl.D 0 11 Y Y) (nm hS hk) (Z) (λ_ ho=>f7 hH hk ho) (aq (hl.D 4 15 Y Y) aN) (js V Z),U⟩ ?_
  refine cj 5 ?_ ?_<;>intro hb2<;>try simp at hb2
  ·refine qs tb V [1001] U2 [_] ?_
   exact aU 0 (hE:=eI (by first | exact(iR hb1 hb2 ah).symm | exact(iS λj hj=>ah j oz).symm))
  ·refine ak (nx (dK tb V [0,1,2,1001] [.int (k+1:Nat),_] [0] U4 Y ⟨aM,U⟩ ?_))
   exact dM (k+1) [0,1,2,3] ⟨oz,cB ah hb2⟩
 ·refine aW (nx (qs tb V [1000] [_] [_] ?_))
  exact aU 0 (hE:=eI (by first | exact(iR hb1 hb2 ah).symm | exact(iS λj hj=>ah j oz).symm))
end
end
section
open Go.RowKit
section
variable {J:WP} (V:aR J)
include V
theorem uv (xs:List BA) (f:FuncId) (caps:List AV) (Os:List OB) (p:BA->Bool) (hf:∀ q',cD prog J f Os ([.str (q')]++caps) (.bool (p q'))) (hk0:dy prog f):cD prog J 135 Os [.rd (ai xs),.fn f caps] (.bool (xs.any p)):=by
 refine eV func135 λS w0 hS hJ0 hH=>?_
 clear hJ0
 refine ln 0 λ_=>?_
 refine qs tb V [0,1] [_] U2 ?_
 refine aJ tb V [1004] [_,_,.int (cH p xs),_,_] [2] [_] Y ⟨λ_ _ hk Z hl _=>dv (SR V xs f caps Os p (hf) (hk0)) (cO func169) Y (nm hS hk) (Z) (λ_ ho=>f7 hH hk ho) (aq (hl.D 0 5 Y Y) (aq (hl.D 1 6 Y Y) aN)) (js V Z),U⟩ ?_
 exact aU 0 (hE:=eB (by rw[<-pd]))
theorem G7 (xs:List Hy) (f:FuncId) (caps:List AV) (Os:List OB) (p:Hy->Bool) (hf:∀ q',cD prog J f Os ([.agg (aP (q'))]++caps) (.bool (p q'))) (hk0:dy prog f):cD prog J 187 Os [.rd (bX xs),.fn f caps] (.int (cH p xs)):=by
 refine eV func187 λS w0 hS hJ0 hH=>?_
 clear hJ0
 refine ln 0 λ_=>?_
 refine qs tb V [0,1] [_] U2 ?_
 refine af (aJ tb V [0,1,1001,1002] [_,.int (xs.length:Nat),_] [1] U4 Y ⟨aC cW,U⟩ ?_)
 refine ax (lp (ι:=Nat) (λk=>(k<=xs.length)/\(∀ j,j<k->p (G xs j)=false)) (λk=>[(8,.int (k:Nat))]) (λk=>xs.length-k) [0,1,2,3] U3 0 ⟨aI,λj hj=>by omega⟩ ?_)
 rintro k ⟨aQ,ah⟩
 refine qs tb V [0,1,2,3,1000] [_] U5 ?_
 refine cE 4 ?_ ?_<;>intro hb1<;>try simp at hb1
 ·refine ak (nx (af (ax (qs tb V [0,1,2,3,1001] U2 U5 ?_))))
  refine aJ tb V (r5 [1005]) (V3 [.ptr (aP (G xs k)),_,.bool (p (G xs k))]) [3,5] U6 Y ⟨bq cL,λ_ _ hk Z hl _=>iE (hf (G xs k)) hk0 Y (hl.D 0 11 Y Y) (nm hS hk) (Z) (λ_ ho=>f7 hH hk ho) (aq (hl.D 4 15 Y Y) aN) (js V Z),U⟩ ?_
  refine cj 5 ?_ ?_<;>intro hb2<;>try simp at hb2
  ·refine qs tb V [1001] U2 [_] ?_
   exact aU 0 (hE:=eI (by first | exact(iR hb1 hb2 ah).symm | exact(iS λj hj=>ah j oz).symm))
  ·refine ak (nx (dK tb V [0,1,2,1001] [.int (k+1:Nat),_] [0] U4 Y ⟨aM,U⟩ ?_))
   exact dM (k+1) [0,1,2,3] ⟨oz,cB ah hb2⟩
 ·refine aW (nx (qs tb V [1000] [_] [_] ?_))
  exact aU 0 (hE:=eI (by first | exact(iR hb1 hb2 ah).symm | exact(iS λj hj=>ah j oz).symm))
theorem Sz (xs:List Hy) (f:FuncId) (caps:List AV) (Os:List OB) (p:Hy->Bool) (hf:∀ q',cD prog J f Os ([.agg (aP (q'))]++caps) (.bool (p q'))) (hk0:dy prog f):cD prog J 142 Os [.rd (bX xs),.fn f caps] (.bool (xs.any p)):=by
 refine eV func142 λS w0 hS hJ0 hH=>?_
 clear hJ0
 refine ln 0 λ_=>?_
 refine qs tb V [0,1] [_] U2 ?_
 refine aJ tb V [1004] [_,_,.int (cH p xs),_,_] [2] [_] Y ⟨λ_ _ hk Z hl _=>dv (G7 V xs f caps Os p (hf) (hk0)) (cO func187) Y (nm hS hk) (Z) (λ_ ho=>f7 hH hk ho) (aq (hl.D 0 5 Y Y) (aq (hl.D 1 6 Y Y) aN)) (js V Z),U⟩ ?_
 exact aU 0 (hE:=eB (by rw[<-pd]))
theorem SQ (xs:List Pr) (f:FuncId) (caps:List AV) (Os:List OB) (p:Pr->Bool) (hf:∀ q',cD prog J f Os ([.agg (aS (q'))]++caps) (.bool (p q'))) (hk0:dy prog f):cD prog J 257 Os [.rd (bM xs),.fn f caps] (.int (cH p xs)):=by
 refine eV func257 λS w0 hS hJ0 hH=>?_
 clear hJ0
 refine ln 0 λ_=>?_
 refine qs tb V [0,1] [_] U2 ?_
 refine af (aJ tb V [0,1,1001,1002] [_,.int (xs.length:Nat),_] [1] U4 Y ⟨aC fQ,U⟩ ?_)
 refine ax (lp (ι:=Nat) (λk=>(k<=xs.length)/\(∀ j,j<k->p (G xs j)=false)) (λk=>[(8,.int (k:Nat))]) (λk=>xs.length-k) [0,1,2,3] U3 0 ⟨aI,λj hj=>by omega⟩ ?_)
 rintro k ⟨aQ,ah⟩
 refine qs tb V [0,1,2,3,1000] [_] U5 ?_
 refine cE 4 ?_ ?_<;>intro hb1<;>try simp at hb1
 ·refine ak (nx (af (ax (qs tb V [0,1,2,3,1001] U2 U5 ?_))))
  refine aJ tb V (r5 [1005]) (V3 [.ptr (aS (G xs k)),_,.bool (p (G xs k))]) [3,5] U6 Y ⟨bq df,λ_ _ hk Z hl _=>iE (hf (G xs k)) hk0 Y (hl.D 0 11 Y Y) (nm hS hk) (Z) (λ_ ho=>f7 hH hk ho) (aq (hl.D 4 15 Y Y) aN) (js V Z),U⟩ ?_
  refine cj 5 ?_ ?_<;>intro hb2<;>try simp at hb2
  ·refine qs tb V [1001] U2 [_] ?_
   exact aU 0 (hE:=eI (by first | exact(iR hb1 hb2 ah).symm | exact(iS λj hj=>ah j oz).symm))
  ·refine ak (nx (dK tb V [0,1,2,1001] [.int (k+1:Nat),_] [0] U4 Y ⟨aM,U⟩ ?_))
   exact dM (k+1) [0,1,2,3] ⟨oz,cB ah hb2⟩
 ·refine aW (nx (qs tb V [1000] [_] [_] ?_))
  exact aU 0 (hE:=eI (by first | exact(iR hb1 hb2 ah).symm | exact(iS λj hj=>ah j oz).symm))
theorem SP (xs:List Int) (f:FuncId) (caps:List AV) (Os:List OB) (p:Int->Bool) (hf:∀ q',cD prog J f Os ([.int (q')]++caps) (.bool (p q'))) (hk0:dy prog f):cD prog J 92 Os [.rd (bQ xs),.fn f caps] (.int (cH p xs)):=by
 refine eV func92 λS w0 hS hJ0 hH=>?_
 clear hJ0
 refine ln 0 λ_=>?_
 refine qs tb V [0,1] [_] U2 ?_
 refine af (aJ tb V [0,1,1001,1002] [_,.int (xs.length:Nat),_] [1] U4 Y ⟨aC fb,U⟩ ?_)
 refine ax (lp (ι:=Nat) (λk=>(k<=xs.length)/\(∀ j,j<k->p (G xs j)=false)) (λk=>[(8,.int (k:Nat))]) (λk=>xs.length-k) [0,1,2,3] U3 0 ⟨aI,λj hj=>by omega⟩ ?_)
 rintro k ⟨aQ,ah⟩
 refine qs tb V [0,1,2,3,1000] [_] U5 ?_
 refine cE 4 ?_ ?_<;>intro hb1<;>try simp at hb1
 ·refine ak (nx (af (ax (qs tb V [0,1,2,3,1001] U2 U5 ?_))))
  refine aJ tb V (r5 [1005]) (V3 [.ptr [lI (G xs k)],_,.bool (p (G xs k))]) [3,5] U6 Y ⟨bq c8,λ_ _ hk Z hl _=>iE (hf (G xs k)) hk0 Y (hl.D 0 11 Y Y) (nm hS hk) (Z) (λ_ ho=>f7 hH hk ho) (aq (hl.D 4 15 Y Y) aN) (js V Z),U⟩ ?_
  refine cj 5 ?_ ?_<;>intro hb2<;>try simp at hb2
  ·refine qs tb V [1001] U2 [_] ?_
   exact aU 0 (hE:=eI (by first | exact(iR hb1 hb2 ah).symm | exact(iS λj hj=>ah j oz).symm))
  ·refine ak (nx (dK tb V [0,1,2,1001] [.int (k+1:Nat),_] [0] U4 Y ⟨aM,U⟩ ?_))
   exact dM (k+1) [0,1,2,3] ⟨oz,cB ah hb2⟩
 ·refine aW (nx (qs tb V [1000] [_] [_] ?_))
  exact aU 0 (hE:=eI (by first | exact(iR hb1 hb2 ah).symm | exact(iS λj hj=>ah j oz).symm))
theorem G3 (xs:List Int) (f:FuncId) (caps:List AV) (Os:List OB) (p:Int->Bool) (hf:∀ q',cD prog J f Os ([.int (q')]++caps) (.bool (p q'))) (hk0:dy prog f):cD prog J 65 Os [.rd (bQ xs),.fn f caps] (.bool (xs.any p)):=by
 refine eV func65 λS w0 hS hJ0 hH=>?_
 clear hJ0
 refine ln 0 λ_=>?_
 refine qs tb V [0,1] [_] U2 ?_
 refine aJ tb V [1004] [_,_,.int (cH p xs),_,_] [2] [_] Y ⟨λ_ _ hk Z hl _=>dv (SP V xs f caps Os p (hf) (hk0)) (cO func92) Y (nm hS hk) (Z) (λ_ ho=>f7 hH hk ho) (aq (hl.D 0 5 Y Y) (aq (hl.D 1 6 Y Y) aN)) (js V Z),U⟩ ?_
 exact aU 0 (hE:=eB (by rw[<-pd]))
theorem G6 (xs:List Fr) (f:FuncId) (caps:List AV) (Os:List OB) (p:Fr->Bool) (hf:∀ q',cD prog J f Os ([.agg (a8 (q'))]++caps) (.bool (p q'))) (hk0:dy prog f):cD prog J 59 Os [.rd (dX xs),.fn f caps] (.int (cH p xs)):=by
 refine eV func59 λS w0 hS hJ0 hH=>?_
 clear hJ0
 refine ln 0 λ_=>?_
 refine qs tb V [0,1] [_] U2 ?_
 refine af (aJ tb V [0,1,1001,1002] [_,.int (xs.length:Nat),_] [1] U4 Y ⟨aC nv,U⟩ ?_)
 refine ax (lp (ι:=Nat) (λk=>(k<=xs.length)/\(∀ j,j<k->p (G xs j)=false)) (λk=>[(8,.int (k:Nat))]) (λk=>xs.length-k) [0,1,2,3] U3 0 ⟨aI,λj hj=>by omega⟩ ?_)
 rintro k ⟨aQ,ah⟩
 refine qs tb V [0,1,2,3,1000] [_] U5 ?_
 refine cE 4 ?_ ?_<;>intro hb1<;>try simp at hb1
 ·refine ak (nx (af (ax (qs tb V [0,1,2,3,1001] U2 U5 ?_))))
  refine aJ tb V (r5 [1005]) (V3 [.ptr (a8 (G xs k)),_,.bool (p (G xs k))]) [3,5] U6 Y ⟨bq fT,λ_ _ hk Z hl _=>iE (hf (G xs k)) hk0 Y (hl.D 0 11 Y Y) (nm hS hk) (Z) (λ_ ho=>f7 hH hk ho) (aq (hl.D 4 15 Y Y) aN) (js V Z),U⟩ ?_
  refine cj 5 ?_ ?_<;>intro hb2<;>try simp at hb2
  ·refine qs tb V [1001] U2 [_] ?_
   exact aU 0 (hE:=eI (by first | exact(iR hb1 hb2 ah).symm | exact(iS λj hj=>ah j oz).symm))
  ·refine ak (nx (dK tb V [0,1,2,1001] [.int (k+1:Nat),_] [0] U4 Y ⟨aM,U⟩ ?_))
   exact dM (k+1) [0,1,2,3] ⟨oz,cB ah hb2⟩
 ·refine aW (nx (qs tb V [1000] [_] [_] ?_))
  exact aU 0 (hE:=eI (by first | exact(iR hb1 hb2 ah).symm | exact(iS λj hj=>ah j oz).symm))
theorem Sy (xs:List Fr) (f:FuncId) (caps:List AV) (Os:List OB) (p:Fr->Bool) (hf:∀ q',cD prog J f Os ([.agg (a8 (q'))]++caps) (.bool (p q'))) (hk0:dy prog f):cD prog J 28 Os [.rd (dX xs),.fn f caps] (.bool (xs.any p)):=by
 refine eV func28 λS w0 hS hJ0 hH=>?_
 clear hJ0
 refine ln 0 λ_=>?_
 refine qs tb V [0,1] [_] U2 ?_
 refine aJ tb V [1004] [_,_,.int (cH p xs),_,_] [2] [_] Y ⟨λ_ _ hk Z hl _=>dv (G6 V xs f caps Os p (hf) (hk0)) (cO func59) Y (nm hS hk) (Z) (λ_ ho=>f7 hH hk ho) (aq (hl.D 0 5 Y Y) (aq (hl.D 1 6 Y Y) aN)) (js V Z),U⟩ ?_
 exact aU 0 (hE:=eB (by rw[<-pd]))
theorem xo (xs ys:List BA)  :Fn prog J 58 [.rd (ai xs),.rd (ai ys)] (.bool (decide (xs=ys))):=by
 refine fE func58 λS w0 hS hJ0=>?_
 clear hJ0
 refine ln 0 λ_=>?_
 refine ln 1 λ_=>?_
 refine qs tb V [0,1] [_] U2 ?_
 refine af (aJ tb V [0,1,1004] [_,.int (xs.length:Nat),_,.int (ys.length:Nat),_] [1,3] U3 Y ⟨aC b7,aC b7,U⟩ ?_)
 refine cj 2 ?_ ?_<;>intro hb1<;>try simp at hb1
 ·refine qs tb V [1000] [_] [_] ?_
  exact aU 0 (hE:=eB (by first | (have:=ib (xs:=xs) (ys:=ys) oz (λj hj=>ah j oz);simp[this];done) | (symm;rw[decide_eq_false_iff_not];intro e;subst e;simp_all;done)))
 ·refine ak (nx (af (aJ tb V [0,1,1001,1002] [_,.int (xs.length:Nat),_] [1] U4 Y ⟨aC b7,U⟩ ?_)))
  refine ax (lp (ι:=Nat) (λk=>(k<=xs.length)/\(∀ j,j<k->G xs j=G ys j)) (λk=>[(13,.int (k:Nat))]) (λk=>xs.length-k) [0,1,2,3] U3 0 ⟨aI,λj hj=>by omega⟩ ?_)
  rintro k ⟨aQ,ah⟩
  refine qs tb V [0,1,2,3,1000] [_] U5 ?_
  refine cE 4 ?_ ?_<;>intro hb2<;>try simp at hb2
  ·refine ak (nx (af (ax (qs tb V [0,1,2,3,1001] U2 U5 ?_))))
   refine aJ tb V [0,1,2,3,1008] [_,_,.ptr [lS (G xs k)],_,_,_,.ptr [lS (G ys k)],_,_] [2,6] U5 Y ⟨bq bz,bq bz,U⟩ ?_
   refine cj 4 ?_ ?_<;>intro aD<;>try simp at aD
   ·refine qs tb V [1000] [_] [_] ?_
    exact aU 0 (hE:=eB (by first | (have:=ib (xs:=xs) (ys:=ys) oz (λj hj=>ah j oz);simp[this];done) | (symm;rw[decide_eq_false_iff_not];intro e;subst e;simp_all;done)))
   ·refine ak (nx (dK tb V [0,1,2,1001] [.int (k+1:Nat),_] [0] U4 Y ⟨aM,U⟩ ?_))
    exact dM (k+1) [0,1,2,3] ⟨oz,cB ah aD⟩
  ·refine aW (nx (qs tb V [1000] [_] [_] ?_))
   exact aU 0 (hE:=eB (by first | (have:=ib (xs:=xs) (ys:=ys) oz (λj hj=>ah j oz);simp[this];done) | (symm;rw[decide_eq_false_iff_not];intro e;subst e;simp_all;done)))
theorem G4 (xs ys:List Int)  :Fn prog J 31 [.rd (bQ xs),.rd (bQ ys)] (.bool (decide (xs=ys))):=by
 refine fE func31 λS w0 hS hJ0=>?_
 clear hJ0
 refine ln 0 λ_=>?_
 refine ln 1 λ_=>?_
 refine qs tb V [0,1] [_] U2 ?_
 refine af (aJ tb V [0,1,1004] [_,.int (xs.length:Nat),_,.int (ys.length:Nat),_] [1,3] U3 Y ⟨aC fb,aC fb,U⟩ ?_)
 refine cj 2 ?_ ?_<;>intro hb1<;>try simp at hb1
 ·refine qs tb V [1000] [_] [_] ?_
  exact aU 0 (hE:=eB (by first | (have:=ib (xs:=xs) (ys:=ys) oz (λj hj=>ah j oz);simp[this];done) | (symm;rw[decide_eq_false_iff_not];intro e;subst e;simp_all;done)))
 ·refine ak (nx (af (aJ tb V [0,1,1001,1002] [_,.int (xs.length:Nat),_] [1] U4 Y ⟨aC fb,U⟩ ?_)))
  refine ax (lp (ι:=Nat) (λk=>(k<=xs.length)/\(∀ j,j<k->G xs j=G ys j)) (λk=>[(13,.int (k:Nat))]) (λk=>xs.length-k) [0,1,2,3] U3 0 ⟨aI,λj hj=>by omega⟩ ?_)
  rintro k ⟨aQ,ah⟩
  refine qs tb V [0,1,2,3,1000] [_] U5 ?_
  refine cE 4 ?_ ?_<;>intro hb2<;>try simp at hb2
  ·refine ak (nx (af (ax (qs tb V [0,1,2,3,1001] U2 U5 ?_))))
   refine aJ tb V [0,1,2,3,1008] [_,_,.ptr [lI (G xs k)],_,_,_,.ptr [lI (G ys k)],_,_] [2,6] U5 Y ⟨bq c8,bq c8,U⟩ ?_
   refine cj 4 ?_ ?_<;>intro aD<;>try simp at aD
   ·refine qs tb V [1000] [_] [_] ?_
    exact aU 0 (hE:=eB (by first | (have:=ib (xs:=xs) (ys:=ys) oz (λj hj=>ah j oz);simp[this];done) | (symm;rw[decide_eq_false_iff_not];intro e;subst e;simp_all;done)))
   ·refine ak (nx (dK tb V [0,1,2,1001] [.int (k+1:Nat),_] [0] U4 Y ⟨aM,U⟩ ?_))
    exact dM (k+1) [0,1,2,3] ⟨oz,cB ah aD⟩
  ·refine aW (nx (qs tb V [1000] [_] [_] ?_))
   exact aU 0 (hE:=eB (by first | (have:=ib (xs:=xs) (ys:=ys) oz (λj hj=>ah j oz);simp[this];done) | (symm;rw[decide_eq_false_iff_not];intro e;subst e;simp_all;done)))
theorem G0 (xs:List BA) (b:xs.length*16<=140737488351232):fc (ι:=Value) prog J 87 [] [.rd (ai xs)] [] (λi'=>.lit (i')) (λi'=>[OB.row i' 9 1 (xs.map dO)]):=by
 refine ji func87 λS w0 R hS hJ0 hH=>?_
 refine g5 (B:=So J S w0 8 (R) [(0,.rd (ai xs))]) ?_ λa w h=>h
 refine ln 0 λ_=>?_
 refine aj tb V [0] [_] [_] ?_
 refine af (aL (ao 1 tb Y (uM (f:=dO) (xs:=xs) b7 Y Y Y (lb Y) (λa w h=>(h.get 0 Y)) λg1 l5=>aA [0,2] U2 Y (nx (cj 0 (λhb1=>?_) λhb1=>?_)))))
 ·try simp at hb1
  refine aj tb V [1000] [_] [_] ?_
  refine tw (iJ 9 1 V) (tw (jr (congrArg (λz'=>OB.row (.slice none 0 0) 9 1 ((z').map dO)) (show([]:List BA)=xs from by first | exact(l5 (by assumption)).symm | simp))) ?_)
  exact aX (λa w h=>dx  (m:=0) (.slice none 0 0) Y h Y Y)
 ·try simp at hb1
  refine ak (nx (af (λa w h=>oh (id:=3) (t:=22) (e:=9) (size:=1) (bytes:=16) (i0:=0) (dj:=3) (d:=2) (ch:=[(2,(xs.map dO))]) (λix'=>([.any,.rd (ai xs),.any,.any]:List AV).getD ix' .any) (λ_=>true) [] (xs.map dO) yz ?og V hJ0 h cU Y Y Y Y ⟨?_,?_,?_,?_,U⟩ trivial (λv2=>?pj))))
  case og=>
   refine Row.mk' ke ⟨_,Y,Y,Y,Y,Y⟩ ⟨?ox,U⟩ ⟨_,_,_,_,Y,Y,Y,Y,Y,Y,Y,Y,Y⟩ Y Y Y
   case ox=>exact⟨_,_,_,_,Y,Y,Y,Y,Y,Y,Y,Y,jm (f:=dO) (λ_=>rfl),(by have hm:maxLen=9223372036854775807:=Y;simp[upto];first | omega | (simp;omega)),(by have hm:maxLen=9223372036854775807:=Y;simp[upto];first | omega | (simp;omega)),λ_ _ _ _ _ hl=>(hl.D 1 6 Y Y)⟩
  exact λh=>bC Y h
  exact λ_ _=>⟨Y,λ_ _ _ Z hl _=>b9 Y (hl.env 1 0 _ Y Y) Z⟩
  exact λh=>bC Y h
  exact λh=>bC Y h
  clear a w h
  exact nx (aX (λa w h=>dx  (m:=0) v2 Y h Y Y))
theorem Sr (xs:List Hy) (b:xs.length*48<=140737488351232):fc (ι:=Value) prog J 183 [] [.rd (bX xs)] [] (λi'=>.lit (i')) (λi'=>[OB.row i' 119 3 (xs.map aP)]):=by
 refine ji func183 λS w0 R hS hJ0 hH=>?_
 refine g5 (B:=So J S w0 8 (R) [(0,.rd (bX xs))]) ?_ λa w h=>h
 refine ln 0 λ_=>?_
 refine aj tb V [0] [_] [_] ?_
 refine af (aL (ao 1 tb Y (uM (f:=aP) (xs:=xs) cW Y Y Y (lb Y) (λa w h=>(h.get 0 Y)) λg1 l5=>aA [0,2] U2 Y (nx (cj 0 (λhb1=>?_) λhb1=>?_)))))
 ·try simp at hb1
  refine aj tb V [1000] [_] [_] ?_
  refine tw (iJ 119 3 V) (tw (jr (congrArg (λz'=>OB.row (.slice none 0 0) 119 3 ((z').map aP)) (show([]:List Hy)=xs from by first | exact(l5 (by assumption)).symm | simp))) ?_)
  exact aX (λa w h=>dx  (m:=0) (.slice none 0 0) Y h Y Y)
 ·try simp at hb1
  refine ak (nx (af (λa w h=>oh (id:=3) (t:=69) (e:=119) (size:=3) (bytes:=48) (i0:=0) (dj:=3) (d:=2) (ch:=[(2,(xs.map aP))]) (λix'=>([.any,.rd (bX xs),.any,.any]:List AV).getD ix' .any) (λ_=>true) [] (xs.map aP) yz ?og V hJ0 h cU Y Y Y Y ⟨?_,?_,?_,?_,U⟩ trivial (λv2=>?pj))))
  case og=>
   refine Row.mk' nG ⟨_,Y,Y,Y,Y,Y⟩ ⟨?ox,U⟩ ⟨_,_,_,_,Y,Y,Y,Y,Y,Y,Y,Y,Y⟩ Y Y Y
   case ox=>exact⟨_,_,_,_,Y,Y,Y,Y,Y,Y,Y,Y,jm (f:=aP) (λ_=>rfl),(by have hm:maxLen=9223372036854775807:=Y;simp[upto];first | omega | (simp;omega)),(by have hm:maxLen=9223372036854775807:=Y;simp[upto];first | omega | (simp;omega)),λ_ _ _ _ _ hl=>(hl.D 1 6 Y Y)⟩
  exact λh=>bC Y h
  exact λ_ _=>⟨Y,λ_ _ _ Z hl _=>b9 Y (hl.env 1 0 _ Y Y) Z⟩
  exact λh=>bC Y h
  exact λh=>bC Y h
  clear a w h
  exact nx (aX (λa w h=>dx  (m:=0) v2 Y h Y Y))
theorem Ss (xs:List Pr) (b:xs.length*32<=140737488351232):fc (ι:=Value) prog J 243 [] [.rd (bM xs)] [] (λi'=>.lit (i')) (λi'=>[OB.row i' 162 2 (xs.map aS)]):=by
 refine ji func243 λS w0 R hS hJ0 hH=>?_
 refine g5 (B:=So J S w0 8 (R) [(0,.rd (bM xs))]) ?_ λa w h=>h
 refine ln 0 λ_=>?_
 refine aj tb V [0] [_] [_] ?_
 refine af (aL (ao 1 tb Y (uM (f:=aS) (xs:=xs) fQ Y Y Y (lb Y) (λa w h=>(h.get 0 Y)) λg1 l5=>aA [0,2] U2 Y (nx (cj 0 (λhb1=>?_) λhb1=>?_)))))
 ·try simp at hb1
  refine aj tb V [1000] [_] [_] ?_
  refine tw (iJ 162 2 V) (tw (jr (congrArg (λz'=>OB.row (.slice none 0 0) 162 2 ((z').map aS)) (show([]:List Pr)=xs from by first | exact(l5 (by assumption)).symm | simp))) ?_)
  exact aX (λa w h=>dx  (m:=0) (.slice none 0 0) Y h Y Y)
 ·try simp at hb1
  refine ak (nx (af (λa w h=>oh (id:=3) (t:=70) (e:=162) (size:=2) (bytes:=32) (i0:=0) (dj:=3) (d:=2) (ch:=[(2,(xs.map aS))]) (λix'=>([.any,.rd (bM xs),.any,.any]:List AV).getD ix' .any) (λ_=>true) [] (xs.map aS) yz ?og V hJ0 h cU Y Y Y Y ⟨?_,?_,?_,?_,U⟩ trivial (λv2=>?pj))))
  case og=>
   refine Row.mk' vk ⟨_,Y,Y,Y,Y,Y⟩ ⟨?ox,U⟩ ⟨_,_,_,_,Y,Y,Y,Y,Y,Y,Y,Y,Y⟩ Y Y Y
   case ox=>exact⟨_,_,_,_,Y,Y,Y,Y,Y,Y,Y,Y,jm (f:=aS) (λ_=>rfl),(by have hm:maxLen=9223372036854775807:=Y;simp[upto];first | omega | (simp;omega)),(by have hm:maxLen=9223372036854775807:=Y;simp[upto];first | omega | (simp;omega)),λ_ _ _ _ _ hl=>(hl.D 1 6 Y Y)⟩
  exact λh=>bC Y h
  exact λ_ _=>⟨Y,λ_ _ _ Z hl _=>b9 Y (hl.env 1 0 _ Y Y) Z⟩
  exact λh=>bC Y h
  exact λh=>bC Y h
  clear a w h
  exact nx (aX (λa w h=>dx  (m:=0) v2 Y h Y Y))
end
theorem SD {J:WP} (V:aR J) (v:Value) (xs:List Hy) (f:FuncId) (caps:List AV) (Os Hs:List OB) (p:Hy->Bool) (hf:∀ q',cD prog J f (Os++Hs) ([.agg (aP (q'))]++caps) (.bool (p q'))) (hk0:dy prog f) (hn:xs.length<=9223372036854775807):fc (ι:=Unit) prog J 182 Hs [.lit v,.fn f caps] (OB.row v 119 3 (xs.map aP)::Os) (λ_=>.rd (bX (xs.filter λx'=>!p x'))) (λ_=>(Os)):=by
 refine ji func182 λS w0 R hS hJ0 hH=>?_
 refine g5 (B:=So J S w0 42 (OB.row v 119 3 (xs.map aP)::(Os++R)) [(0,.lit v),(1,.fn f caps)]) ?_ λa w h=>h
 refine aj tb V [0,1] [_] U2 ?_
 refine l8 tb V [0,1,1003] [_,_,.int (cH p xs),_] [2] U3 Y ⟨λ_ _ hk Z hl _=>dv (G7 V xs f caps (Os++Hs) p (hf) (hk0)) (cO func187) Y (nm hS hk) (Z.1) (wE (λ_ ho=>uu Z (mem_cons_of_mem _ (mem_append_left _ ho))) (λ_ ho=>E9 hH hk Z ho)) (aq (kI hS Z (mo 0 Y) (hl.D 0 8 Y Y)) (aq (hl.D 1 9 Y Y) aN)) (jo V Z),U⟩ ?_
 refine af (aj tb V [0,1,2,1001] U2 U4 ?_)
 refine cj 3 ?_ ?_<;>intro hb1
 ·have e1:=of_decide_eq_true hb1
  refine aj tb V [1001] U2 [_] ?_
  exact tw (λh=>dU hS h (m:=0) (s:=4) Y) (aX (λa w h=>dx  (m:=0) () Y h Y (congrArg (λz=>AV.rd (bX z)) (show xs=(xs.filter λx'=>!p x')from by first | exact fC.none e1 | exact aQ.fin (by have:=aQ.len;omega)))))
 ·have e1:=of_decide_eq_false hb1
  refine ak (nx (af (tw (sa 2 Y (congrArg AV.int (show cH p xs=(((cH p xs).toNat:Nat):Int)from by have:=pf e1;omega))) (au tb V [0,1,2,1002] [_,.int ((cH p xs).toNat+1:Nat),_] [1] U4 Y ⟨aM (h0:=by have:=(pf e1).2.1;omega),U⟩ ?_))))
  refine ax (lpo (ι:=Nat×Nat×(List Hy)×Value) (λ(i,j,ys,_)=>(fC p xs ys i j)) (λ(_,_,ys,vo)=>(OB.row vo 119 3 (ys.map aP)::(Os++R))) (λ(i,j,_,vo)=>[(5,.int (i:Nat)),(6,.int (j:Nat)),(0,.lit vo)]) (λ(_,j,_,_)=>xs.length-j) [1,2,3,0] [_] ((cH p xs).toNat,(cH p xs).toNat+1,xs,v) (show(fC p xs xs ((cH p xs).toNat) ((cH p xs).toNat+1))from fC.init e1) ?_)
  rintro⟨i,j,ys,vo⟩ hF
  have aQ:fC p xs ys i j:=hF
  refine af (l8 tb V [0,1,2,3,1003] [_,_,.int (ys.length:Nat),_] [2] U5 Y ⟨λ_ _ _ Z hl _=>kq cW Y (kI hS Z (mo 0 Y) (hl.D 1 17 Y Y)) Z,U⟩ ?_)
  refine cj 4 ?_ ?_<;>intro hb2<;>try simp at hb2
  ·refine ak (nx (af (ax (aL (ao 2 tb Y (sy (.lit (cG vo (j*3))) (λh=>eZ (i:=(j:Int)) cL Y (aG h.x (mo 0 Y)) (h.get 1 Y) (h.get 0 Y) bK (by rw[length_map];exact Int.ofNat_lt.2 oz) h.x) ?_))))))
   refine sy (.agg (aP (G ys j))) (λh=>pn (i:=j) nF Y (aG h.x (mo 0 Y)) (h.get 0 Y) (iG (xs:=ys) (k:=j) oz) Y h.x) ?_
   refine iX (cs:=aP (G ys j)) sJ Y Y Y (lb Y) Y Y Y dz (m:=0) Y Y (λa w h=>aK hS _ h.keep h.x _ aV) (λa w h w' hk'=>fo V _ _ hk' h.x) (aA [0,5,6,7,8] U5 Y (nx (au tb V (r5 [1003]) [_,_,.bool (p (G ys j)),_] [2] U6 Y ⟨λ_ _ hk Z hl _=>iE (hf (G ys j)) hk0 Y (hl.D 0 26 Y Y) (aK hS _ hk Z) (Z.1) (wE (λ_ ho=>aG Z (mem_cons_of_mem _ (mem_append_left _ ho))) (λ_ ho=>dC hH hk Z ho)) (aq (hl.D 1 27 Y Y) aN) (jo V Z),U⟩ ?_)))
   refine cj 5 ?_ ?_<;>intro aD<;>try simp at aD
   ·refine aL (ao 3 tb Y (sy (.lit (cG vo (i*3))) (λh=>eZ (i:=(i:Int)) cL Y (aG h.x (mo 0 Y)) (h.get 2 Y) (h.get 1 Y) bK (by rw[length_map];exact Int.ofNat_lt.2 (by have:=aQ.le;omega)) h.x) ?_))
    refine xZ (i:=i) V hJ0 jx Y Y Y (by rw[length_map];exact(by have:=aQ.le;omega)) Y (λa w h=>⟨(h.get 0 Y),(h.get 1 Y)⟩) ?_
    rw[show(ys.map aP).set i (aP (G ys j))=(ys.set i (G ys j)).map aP from map_set.symm]
    refine aA [5,6,7,8] U4 Y (nx (aT tb V [0,2,3,1002] [_,.int (i+1:Nat),_] [1] U4 Y ⟨aM (h0:=by have:=aQ.le;have:=aQ.len;omega),U⟩ ?_))
    refine nx (aT tb V [0,2,3,1002] [_,.int (j+1:Nat),_] [1] U4 Y ⟨aM (h0:=by have:=aQ.lt;have:=aQ.len;omega),U⟩ ?_)
    exact br (i+1,j+1,ys.set i (G ys j),vo) [0,2,3,1] (show(fC p xs (ys.set i (G ys j)) (i+1) (j+1))from aQ.keep (by have:=aQ.len;omega) (by simpa using aD)) (hm:=(show xs.length-(j+1)<xs.length-j from by have:=aQ.lt;have:=aQ.len;omega))
   ·refine ak (nx (aT tb V [1,2,4,1002] [_,.int (j+1:Nat),_] [1] U4 Y ⟨aM (h0:=by have:=aQ.lt;have:=aQ.len;omega),U⟩ ?_))
    exact br (i,j+1,ys,vo) [0,1,3,2] (show(fC p xs ys i (j+1))from aQ.skip (by have:=aQ.len;omega) (by simpa using aD)) (hm:=(show xs.length-(j+1)<xs.length-j from by have:=aQ.lt;have:=aQ.len;omega))
  ·refine aW (nx (aL (ao 2 tb Y (sy (.lit (jN vo i 3)) (λh=>xE (lo:=i) cL Y (aG h.x (mo 0 Y)) (h.get 1 Y) (h.get 0 Y) (by rw[length_map];exact(by have:=aQ.le;have:=aQ.lt;have:=aQ.len;omega)) h.x) ?_))))
   refine B3 (lo:=i) Xu cW dz V hJ0 Y Y Y (by rw[length_map];exact(by have:=aQ.le;have:=aQ.lt;have:=aQ.len;omega)) (λa w h=>(h.get 0 Y)) ?_
   rw[<-List.map_take]
   refine aA [4,6] U2 Y (nx (au tb V [1003] [_,_,.lit (dB vo i),_] [2] [_] Y ⟨λ_ _ _ Z hl _=>qG (m:=i) cL Y (aG Z (mo 0 Y)) (by first | rfl | (rw[length_map];exact(by have:=aQ.le;have:=aQ.lt;have:=aQ.len;simp;omega))) (hl.D 0 39 Y Y) (hl.D 1 40 Y Y) Z,U⟩ ?_))
   exact tw (λh=>dU hS h (m:=0) (s:=4) Y) (aX (λa w h=>dx  (m:=0) () Y h Y (congrArg (λz=>AV.rd (bX z)) (show(ys.take i)=(xs.filter λx'=>!p x')from by first | exact fC.none e1 | exact aQ.fin (by have:=aQ.len;omega)))))
theorem SE {J:WP} (V:aR J) (v:Value) (xs:List Pr) (f:FuncId) (caps:List AV) (Os Hs:List OB) (p:Pr->Bool) (hf:∀ q',cD prog J f (Os++Hs) ([.agg (aS (q'))]++caps) (.bool (p q'))) (hk0:dy prog f) (hn:xs.length<=9223372036854775807):fc (ι:=Unit) prog J 242 Hs [.lit v,.fn f caps] (OB.row v 162 2 (xs.map aS)::Os) (λ_=>.rd (bM (xs.filter λx'=>!p x'))) (λ_=>(Os)):=by
 refine ji func242 λS w0 R hS hJ0 hH=>?_
 refine g5 (B:=So J S w0 42 (OB.row v 162 2 (xs.map aS)::(Os++R)) [(0,.lit v),(1,.fn f caps)]) ?_ λa w h=>h
 refine aj tb V [0,1] [_] U2 ?_
 refine l8 tb V [0,1,1003] [_,_,.int (cH p xs),_] [2] U3 Y ⟨λ_ _ hk Z hl _=>dv (SQ V xs f caps (Os++Hs) p (hf) (hk0)) (cO func257) Y (nm hS hk) (Z.1) (wE (λ_ ho=>uu Z (mem_cons_of_mem _ (mem_append_left _ ho))) (λ_ ho=>E9 hH hk Z ho)) (aq (kI hS Z (mo 0 Y) (hl.D 0 8 Y Y)) (aq (hl.D 1 9 Y Y) aN)) (jo V Z),U⟩ ?_
 refine af (aj tb V [0,1,2,1001] U2 U4 ?_)
 refine cj 3 ?_ ?_<;>intro hb1
 ·have e1:=of_decide_eq_true hb1
  refine aj tb V [1001] U2 [_] ?_
  exact tw (λh=>dU hS h (m:=0) (s:=4) Y) (aX (λa w h=>dx  (m:=0) () Y h Y (congrArg (λz=>AV.rd (bM z)) (show xs=(xs.filter λx'=>!p x')from by first | exact fC.none e1 | exact aQ.fin (by have:=aQ.len;omega)))))
 ·have e1:=of_decide_eq_false hb1
  refine ak (nx (af (tw (sa 2 Y (congrArg AV.int (show cH p xs=(((cH p xs).toNat:Nat):Int)from by have:=pf e1;omega))) (au tb V [0,1,2,1002] [_,.int ((cH p xs).toNat+1:Nat),_] [1] U4 Y ⟨aM (h0:=by have:=(pf e1).2.1;omega),U⟩ ?_))))
  refine ax (lpo (ι:=Nat×Nat×(List Pr)×Value) (λ(i,j,ys,_)=>(fC p xs ys i j)) (λ(_,_,ys,vo)=>(OB.row vo 162 2 (ys.map aS)::(Os++R))) (λ(i,j,_,vo)=>[(5,.int (i:Nat)),(6,.int (j:Nat)),(0,.lit vo)]) (λ(_,j,_,_)=>xs.length-j) [1,2,3,0] [_] ((cH p xs).toNat,(cH p xs).toNat+1,xs,v) (show(fC p xs xs ((cH p xs).toNat) ((cH p xs).toNat+1))from fC.init e1) ?_)
  rintro⟨i,j,ys,vo⟩ hF
  have aQ:fC p xs ys i j:=hF
  refine af (l8 tb V [0,1,2,3,1003] [_,_,.int (ys.length:Nat),_] [2] U5 Y ⟨λ_ _ _ Z hl _=>kq fQ Y (kI hS Z (mo 0 Y) (hl.D 1 17 Y Y)) Z,U⟩ ?_)
  refine cj 4 ?_ ?_<;>intro hb2<;>try simp at hb2
  ·refine ak (nx (af (ax (aL (ao 2 tb Y (sy (.lit (cG vo (j*2))) (λh=>eZ (i:=(j:Int)) df Y (aG h.x (mo 0 Y)) (h.get 1 Y) (h.get 0 Y) bK (by rw[length_map];exact Int.ofNat_lt.2 oz) h.x) ?_))))))
   refine sy (.agg (aS (G ys j))) (λh=>pn (i:=j) jE Y (aG h.x (mo 0 Y)) (h.get 0 Y) (iG (xs:=ys) (k:=j) oz) Y h.x) ?_
   refine iX (cs:=aS (G ys j)) ym Y Y Y (lb Y) Y Y Y dz (m:=0) Y Y (λa w h=>aK hS _ h.keep h.x _ aV) (λa w h w' hk'=>fo V _ _ hk' h.x) (aA [0,5,6,7,8] U5 Y (nx (au tb V (r5 [1003]) [_,_,.bool (p (G ys j)),_] [2] U6 Y ⟨λ_ _ hk Z hl _=>iE (hf (G ys j)) hk0 Y (hl.D 0 26 Y Y) (aK hS _ hk Z) (Z.1) (wE (λ_ ho=>aG Z (mem_cons_of_mem _ (mem_append_left _ ho))) (λ_ ho=>dC hH hk Z ho)) (aq (hl.D 1 27 Y Y) aN) (jo V Z),U⟩ ?_)))
   refine cj 5 ?_ ?_<;>intro aD<;>try simp at aD
   ·refine aL (ao 3 tb Y (sy (.lit (cG vo (i*2))) (λh=>eZ (i:=(i:Int)) df Y (aG h.x (mo 0 Y)) (h.get 2 Y) (h.get 1 Y) bK (by rw[length_map];exact Int.ofNat_lt.2 (by have:=aQ.le;omega)) h.x) ?_))
    refine xZ (i:=i) V hJ0 j6 Y Y Y (by rw[length_map];exact(by have:=aQ.le;omega)) Y (λa w h=>⟨(h.get 0 Y),(h.get 1 Y)⟩) ?_
    rw[show(ys.map aS).set i (aS (G ys j))=(ys.set i (G ys j)).map aS from map_set.symm]
    refine aA [5,6,7,8] U4 Y (nx (aT tb V [0,2,3,1002] [_,.int (i+1:Nat),_] [1] U4 Y ⟨aM (h0:=by have:=aQ.le;have:=aQ.len;omega),U⟩ ?_))
    refine nx (aT tb V [0,2,3,1002] [_,.int (j+1:Nat),_] [1] U4 Y ⟨aM (h0:=by have:=aQ.lt;have:=aQ.len;omega),U⟩ ?_)
    exact br (i+1,j+1,ys.set i (G ys j),vo) [0,2,3,1] (show(fC p xs (ys.set i (G ys j)) (i+1) (j+1))from aQ.keep (by have:=aQ.len;omega) (by simpa using aD)) (hm:=(show xs.length-(j+1)<xs.length-j from by have:=aQ.lt;have:=aQ.len;omega))
   ·refine ak (nx (aT tb V [1,2,4,1002] [_,.int (j+1:Nat),_] [1] U4 Y ⟨aM (h0:=by have:=aQ.lt;have:=aQ.len;omega),U⟩ ?_))
    exact br (i,j+1,ys,vo) [0,1,3,2] (show(fC p xs ys i (j+1))from aQ.skip (by have:=aQ.len;omega) (by simpa using aD)) (hm:=(show xs.length-(j+1)<xs.length-j from by have:=aQ.lt;have:=aQ.len;omega))
  ·refine aW (nx (aL (ao 2 tb Y (sy (.lit (jN vo i 2)) (λh=>xE (lo:=i) df Y (aG h.x (mo 0 Y)) (h.get 1 Y) (h.get 0 Y) (by rw[length_map];exact(by have:=aQ.le;have:=aQ.lt;have:=aQ.len;omega)) h.x) ?_))))
   refine B3 (lo:=i) JE fQ dz V hJ0 Y Y Y (by rw[length_map];exact(by have:=aQ.le;have:=aQ.lt;have:=aQ.len;omega)) (λa w h=>(h.get 0 Y)) ?_
   rw[<-List.map_take]
   refine aA [4,6] U2 Y (nx (au tb V [1003] [_,_,.lit (dB vo i),_] [2] [_] Y ⟨λ_ _ _ Z hl _=>qG (m:=i) df Y (aG Z (mo 0 Y)) (by first | rfl | (rw[length_map];exact(by have:=aQ.le;have:=aQ.lt;have:=aQ.len;simp;omega))) (hl.D 0 39 Y Y) (hl.D 1 40 Y Y) Z,U⟩ ?_))
   exact tw (λh=>dU hS h (m:=0) (s:=4) Y) (aX (λa w h=>dx  (m:=0) () Y h Y (congrArg (λz=>AV.rd (bM z)) (show(ys.take i)=(xs.filter λx'=>!p x')from by first | exact fC.none e1 | exact aQ.fin (by have:=aQ.len;omega)))))
end
end Go.Proofs.YtdfadihhfppjaaaGreatDoor
