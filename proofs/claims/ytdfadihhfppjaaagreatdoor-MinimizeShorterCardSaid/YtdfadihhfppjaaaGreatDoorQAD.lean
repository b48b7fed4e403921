/-
  CONTRACTS of the law: the example.
  THE LAW MinimizeDone returns true.
  MINIMIZE (plain): a change that holds or not; Check's loop; sizes one behind the other.
  THE ENGINE: a region that draws its order, behind a range over a function.
  CONTRACTS: the size of a proof; whether a change holds.
  CONTRACTS: what comes of a change; Check.
  THE LAW MinimizeShorter returns true.
-/
import Derived.Test.YtdfadihhfppjaaaGreatDoorQAC
set_option maxHeartbeats 8000000
set_option maxRecDepth 100000
namespace Go.Proofs.YtdfadihhfppjaaaGreatDoor
open Go.Proofs.Tryz (prog)
open Go.RowKit
theorem QG:ZdG prog 72 [lS ⟨#[]⟩,lB false,.sl [],.sl [],.sl [],.sl [],.sl [],.sl []]:=⟨(.agg #[.string ⟨#[]⟩,.bool false,.slice none 0 0,.slice none 0 0,.slice none 0 0,.slice none 0 0,.slice none 0 0,.slice none 0 0]),fun w=>by kernel_rfl,fun S w=>(show RdL S w [lS ⟨#[]⟩,lB false,.sl [],.sl [],.sl [],.sl [],.sl [],.sl []] [.string ⟨#[]⟩,.bool false,.slice none 0 0,.slice none 0 0,.slice none 0 0,.slice none 0 0,.slice none 0 0,.slice none 0 0]from⟨.lit _ nzl,.lit _ True.intro,.nil _ _ nzl,.nil _ _ nzl,.nil _ _ nzl,.nil _ _ nzl,.nil _ _ nzl,.nil _ _ nzl,trivial⟩)⟩
theorem Zeb:ZfF prog 9 1:=⟨(.string ⟨#[]⟩),fun w=>by kernel_rfl,rfl,by simp[Value.cells,Value.oneCell']⟩
theorem Zq0:ZdH prog 72 [.string ⟨#[]⟩,.bool false,.slice none 0 0,.slice none 0 0,.slice none 0 0,.slice none 0 0,.slice none 0 0,.slice none 0 0]:=⟨fun i=>(#[(0,1),(1,1),(2,1),(3,1),(4,1),(5,1),(6,1),(7,1)]:Array (Nat×Nat))[i]?,fun j hj=>by rcases j with _ | _ | _ | _ | _ | _ | _ | _ | j<;>first | rfl | (simp at hj;omega) | simp at hj,fun parts=>by kernel_rfl⟩
theorem Zer:Xl prog 72 8:=fun w=>by kernel_rfl
theorem Zrm:Zc3 prog 119:=⟨.agg #[.string ⟨#[]⟩,.bool false,.slice none 0 0],fun w=>by kernel_rfl⟩
theorem Zfl:Zi prog 60:=Zm Tryz.func60 rfl rfl
theorem Zcb:ZdG prog 25 [.sl [],.sl [],.sl []]:=⟨(.agg #[.slice none 0 0,.slice none 0 0,.slice none 0 0]),fun w=>by kernel_rfl,fun S w=>(show RdL S w [.sl [],.sl [],.sl []] [.slice none 0 0,.slice none 0 0,.slice none 0 0]from⟨.nil _ _ nzl,.nil _ _ nzl,.nil _ _ nzl,trivial⟩)⟩
theorem ZnK:Zrg prog 25:=fun ad ad' k c k' c'=>by kernel_rfl
theorem Zes:Xl prog 25 3:=fun w=>by kernel_rfl
def Qj (l to:BA) (fr:List BA):Fr:=⟨l,false,fr.map fun s=>⟨l++s,false,[⟨#[124,45]⟩,s]⟩,[],[⟨#[124,45]⟩,to],[],[],[]⟩
theorem ZaG {J:WP} (hJ:Stab J) (l to:BA) (fr:List BA) (hf:fr.length≤10) (hl:l.size≤10) (hs:∀ s∈fr,s.size≤10):Fn prog J 60 [.str l,.str to,.rd (Zb fr)] (.agg (frC (Qj l to fr))):=by
 refine fE Tryz.func60 fun S w0 hS hJ0=>?_
 refine tw Z7 (ln 2 fun hl1=>?_)
 refine tsq (Zw QG hJ rfl rfl rfl (lb rfl) fun b1=>?_)
 refine seK [0,1,2,3] U4 rfl (nx (tw (Yf 119 3 hJ) ?_))
 refine tsq (snK 2 tb rfl (sq (.rd (Zb ([(⟨#[124,45]⟩:BA),to]:List BA))) rfl rfl (lb rfl) (fun a _ h=>Zao (k:=2) (us:=[a.eval (.const (.string { data:= #[124,45] })),a.eval (.tmp 11)]) Zj Zeb rfl yz (Zu (Rel.of_lit (.string { data:= #[124,45] }) (lb rfl)) (Zu (h.get 0 rfl) Z2)) rfl dz dz (Zk hS _ h.keep h.x _ nlr) (jo hJ h.x)) ?_))
 refine sq (.agg [lS l,lB false,.lit (.slice none 0 0),X9 ([]:List Pr),Zb ([(⟨#[124,45]⟩:BA),to]:List BA),XR ([]:List Hy),X9 ([]:List Pr),Zb ([]:List BA)]) rfl rfl (lb rfl) (fun a _ h=>Y8 (ps:=[(0,a.eval (.tmp 10)),(4,a.eval (.tmp 12))]) (us:=[a.eval (.tmp 10),.bool false,.slice none 0 0,.slice none 0 0,a.eval (.tmp 12),.slice none 0 0,.slice none 0 0,.slice none 0 0]) Zq0 rfl yz (ZnM (lb rfl) (Rel.oneC (h.get 2 rfl)) (ZnM (lb rfl) (Rel.oneC (h.get 0 rfl)) Zjr)) rfl (Zu (h.get 2 rfl) (X2 (.lit _ True.intro) (X2 (.lit _ True.intro) (X2 (.nil _ _ nzl) (Zu (h.get 0 rfl) (X2 (.nil _ _ nzl) (X2 (.nil _ _ nzl) (X2 (.nil _ _ nzl) Z2)))))))) h.x) ?_
 refine Zw QG hJ rfl rfl rfl (lb rfl) fun b2=>?_
 refine Zn (b:=b2) (off:=0) (es:=U8) (news:=U8) hJ hJ0 Zer rfl rfl rfl (lb rfl) rfl (fun a w h=>⟨(h.get 0 rfl),(h.get 1 rfl)⟩) ?_
 refine seK [0,2,5,6,8] U5 rfl (nx (ln 1 fun hl2=>?_))
 refine Zg (ZH tb hJ [0,2,3,1000,1001,1002] [_,.int (fr.length:Nat),_] [1] U6 rfl ⟨Yn ZC,trivial⟩ ?_)
 refine Ze (lpo (ι:=Nat×(List Hy)×Value) (fun(q,hy,_)=>(q≤fr.length)∧(hy=(fr.take q).map fun s=>(⟨l++s,false,[⟨#[124,45]⟩,s]⟩:Hy))) (fun(_,hy,wh)=>[OB.var b2 [lS l,lB false,.lit wh,X9 ([]:List Pr),Zb ([(⟨#[124,45]⟩:BA),to]),XR ([]:List Hy),X9 ([]:List Pr),Zb ([]:List BA)],OB.row wh 119 3 (hy.map hyC),OB.var b1 [lS (⟨#[]⟩:BA),lB false,XR ([]:List Hy),X9 ([]:List Pr),Zb ([]:List BA),XR ([]:List Hy),X9 ([]:List Pr),Zb ([]:List BA)]]) (fun(q,_,_)=>[(16,.int (q:Nat))]) (fun(q,_,_)=>fr.length-q) (r6 []) U5 (0,[],(.slice none 0 0)) ⟨nzl,rfl⟩ ?_)
 rintro⟨q,hy,wh⟩ ⟨f1_1,f1_2⟩
 refine qso tb hJ (r6 [1000]) [_] U7 ?_
 refine cjS 6 (fun hb1=>?_) fun hb1=>?_
 ·
  try simp at hb1
  have hsq:=hs (ge fr q) (Zq oz)
  have hyl:hy.length=q:=by rw[f1_2,List.length_map,List.length_take];omega
  refine Zc (nx (Zg (Ze (ZH tb hJ (r6 [1002]) [.ptr [lS (ge fr q)],_,_] [0] U7 rfl ⟨iIx Zj,trivial⟩ ?_))))
  refine ZR (sq (.at b2 2) rfl rfl (lb rfl) (fun _ _ h=>Zz Zdn rfl (h.get 0 rfl) h.x) ?_)
  refine sy (.lit wh) (fun h=>Zo Zpp rfl (Zf h.x (mo 0 rfl)) (h.get 0 rfl) rfl h.x) ?_
  refine snK 2 tb rfl (sy (.str (l++(ge fr q))) (fun h=>r_addS rfl (h.get 1 rfl) (h.get 0 rfl) sfz h.x) ?_)
  refine snK 1 tb rfl (sq (.rd (Zb ([(⟨#[124,45]⟩:BA),(ge fr q)]:List BA))) rfl rfl (lb rfl) (fun a _ h=>Zao (k:=2) (us:=[a.eval (.const (.string { data:= #[124,45] })),a.eval (.tmp 25)]) Zj Zeb rfl yz (Zu (Rel.of_lit (.string { data:= #[124,45] }) (lb rfl)) (Zu (h.get 0 rfl) Z2)) rfl dz dz (Zk hS _ h.keep h.x _ nlr) (jo hJ h.x)) ?_)
  refine sq (.agg (hyC (⟨(l++(ge fr q)),false,([(⟨#[124,45]⟩:BA),(ge fr q)]:List BA)⟩:Hy))) rfl rfl (lb rfl) (fun a _ h=>Y8 (ps:=[(0,a.eval (.tmp 24)),(2,a.eval (.tmp 26))]) (us:=[a.eval (.tmp 24),.bool false,a.eval (.tmp 26)]) Zgs rfl yz (ZnM (lb rfl) (Rel.oneC (h.get 2 rfl)) (ZnM (lb rfl) (Rel.oneC (h.get 0 rfl)) Zjr)) rfl (Zu (h.get 2 rfl) (X2 (.lit _ True.intro) (Zu (h.get 0 rfl) Z2))) h.x) ?_
  refine sy (.rd (XR ([(⟨(l++(ge fr q)),false,([(⟨#[124,45]⟩:BA),(ge fr q)]:List BA)⟩:Hy)]))) (fun h=>ZcD ZK Zrm dz rfl rfl (h.get 0 rfl) (Zk hS _ h.keep h.x _ nlr) (jo hJ h.x)) ?_
  refine kw pm1 (YE (f:=hyC) (m:=7) (s:=21) hy ([(⟨(l++(ge fr q)),false,([(⟨#[124,45]⟩:BA),(ge fr q)]:List BA)⟩:Hy)]) (fun _=>rfl) ZbX hJ hJ0 rfl rfl rfl (lb rfl) rfl rfl (fun a w h=>(h.get 0 rfl)) sfz sfz fun v3=>?_)
  refine sy (.at b2 2) (fun h=>Zz Zdn rfl (h.get 10 rfl) h.x) ?_
  refine kw pm1 (Z9 (b:=b2) (off:=2) (es:=U8) hJ hJ0 Zh1 rfl rfl rfl (lb rfl) rfl (fun a w h=>⟨(h.get 0 rfl),(h.get 1 rfl)⟩) ?_)
  refine seK [2,4,11,12,13,14,15,16] U8 rfl (nx (ln 0 fun hl3=>?_))
  refine ln 1 fun hl4=>?_
  refine YV tb hJ [2,3,4,5,6,1001] [.int (q+1:Nat),_] [0] U6 rfl ⟨YU,trivial⟩ ?_
  exact Xk (q+1,hy++([(⟨(l++(ge fr q)),false,([(⟨#[124,45]⟩:BA),(ge fr q)]:List BA)⟩:Hy)]),v3) (r6 []) ⟨oz,by rw[List.take_add_one,List.getElem?_eq_getElem oz,←Yk oz,List.map_append,←f1_2];rfl⟩
 ·
  try simp at hb1
  refine Zv (nx (tw pm1 (tw (fun h=>Xn (j:=2) (cs':=[lS l,lB false,XR hy,X9 ([]:List Pr),Zb ([(⟨#[124,45]⟩:BA),to]),XR ([]:List Hy),X9 ([]:List Pr),Zb ([]:List BA)]) hS rfl rfl h) ?_)))
  refine tsq (sy (.agg [lS l,lB false,XR hy,X9 ([]:List Pr),Zb ([(⟨#[124,45]⟩:BA),to]),XR ([]:List Hy),X9 ([]:List Pr),Zb ([]:List BA)]) (fun h=>Ye (ds:=[lS l,lB false,XR hy,X9 ([]:List Pr),Zb ([(⟨#[124,45]⟩:BA),to]),XR ([]:List Hy),X9 ([]:List Pr),Zb ([]:List BA)]) ZbY rfl (Zf h.x (mo 0 rfl)) (h.get 0 rfl) rfl rfl h.x) ?_)
  refine kw pm1 (Zn (b:=b1) (off:=0) (es:=U8) (news:=U8) hJ hJ0 Zer rfl rfl rfl (lb rfl) rfl (fun a w h=>⟨(h.get 2 rfl),(h.get 0 rfl)⟩) ?_)
  exact seK [2] [_] rfl (nx (Zt (fun a w h=>Zb7 (m:=0) rfl ZbY h rfl rfl (show(_:List CD)=[lS ((Qj l to fr).label),lB ((Qj l to fr).thm),XR ((Qj l to fr).hyps),X9 ((Qj l to fr).apart),Zb ((Qj l to fr).text),XR ((Qj l to fr).dummies),X9 ((Qj l to fr).wide),Zb ((Qj l to fr).proof)]from by(rw[f1_2,show q=fr.length by omega,List.take_length];rfl)<;>rfl))))
theorem ZnX {J:WP} (hJ:Stab J)   :Fn prog J 30 [] (.tup [.agg (dbC exDb),.agg (pfC ZhH)]):=by
 refine fE Tryz.func30 fun S w0 hS hJ0=>?_
 refine tw Z7 (tsq ?_)
 refine Zw Zcb hJ rfl rfl rfl (lb rfl) fun b1=>?_
 refine Zw XT hJ rfl rfl rfl (lb rfl) fun b2=>?_
 refine seK [0,1] U2 rfl (nx (qso tb hJ [0,1,1000] [_] U3 ?_))
 refine tsq (snK 1 tb rfl (sy (.agg (frC (Qj (⟨#[116]⟩:BA) (⟨#[113]⟩:BA) ([]:List BA)))) (fun h=>Zay ((ZaG hJ (⟨#[116]⟩:BA) (⟨#[113]⟩:BA) ([]:List BA) dz dz dz).rr) Zfl rfl (h.get 0 rfl) (Zk hS _ h.keep h.x) (h.x.1) Zr (Za (Rel.of_lit (.string { data:= #[116] }) (lb rfl)) (Za (Rel.of_lit (.string { data:= #[113] }) (lb rfl)) (Za (ZgX (Rel.of_lit (.slice none 0 0))) Zd))) (jo hJ h.x)) ?_))
 refine Zw QG hJ rfl rfl rfl (lb rfl) fun b3=>?_
 refine Zn (b:=b3) (off:=0) (es:=U8) (news:=U8) hJ hJ0 Zer rfl rfl rfl (lb rfl) rfl (fun a w h=>⟨(h.get 0 rfl),(h.get 1 rfl)⟩) ?_
 refine seK [0,3,4,5] U4 rfl (nx (tsq ?_))
 refine sy (.at b3 1) (fun h=>Zz ZnB rfl (h.get 0 rfl) h.x) ?_
 refine Z9 (b:=b3) (off:=1) (es:=U8) hJ hJ0 ZbK rfl rfl rfl (lb rfl) rfl (fun a w h=>⟨(h.get 0 rfl),(Rel.of_lit (.bool true))⟩) ?_
 refine seK [1,2,3,4] U4 rfl (nx (tw (ob0 (show OB.var b3 [lS ((Qj (⟨#[116]⟩:BA) (⟨#[113]⟩:BA) ([]:List BA)).label),lB true,XR ((Qj (⟨#[116]⟩:BA) (⟨#[113]⟩:BA) ([]:List BA)).hyps),X9 ((Qj (⟨#[116]⟩:BA) (⟨#[113]⟩:BA) ([]:List BA)).apart),Zb ((Qj (⟨#[116]⟩:BA) (⟨#[113]⟩:BA) ([]:List BA)).text),XR ((Qj (⟨#[116]⟩:BA) (⟨#[113]⟩:BA) ([]:List BA)).dummies),X9 ((Qj (⟨#[116]⟩:BA) (⟨#[113]⟩:BA) ([]:List BA)).wide),Zb ((Qj (⟨#[116]⟩:BA) (⟨#[113]⟩:BA) ([]:List BA)).proof)]=OB.var b3 (frC ({ Qj ⟨#[116]⟩ ⟨#[113]⟩ []with thm:=true }:Fr))from rfl)) ?_))
 refine Zg (fun a w h=>Zam [OB.var b3 (frC ({ Qj ⟨#[116]⟩ ⟨#[113]⟩ []with thm:=true }:Fr)),OB.var b2 [ZP ([]:List Stp)],OB.var b1 [Zb ([]:List BA),Zb ([]:List BA),Yy ([]:List Fr)]] (γ:=Nat) (fun ix'=>([.rd (Zb ([(⟨#[124,45]⟩:BA),(⟨#[112]⟩:BA),(⟨#[113]⟩:BA),(⟨#[114]⟩:BA)]:List BA)),.fn 60 [],.agg (frC (Qj (⟨#[97]⟩:BA) (⟨#[112]⟩:BA) ([]:List BA))),.fn 60 [],.rd (Zb ([(⟨#[112]⟩:BA)])),.agg (frC (Qj (⟨#[98]⟩:BA) (⟨#[113]⟩:BA) ([(⟨#[112]⟩:BA)]))),.fn 60 [],.rd (Zb ([(⟨#[113]⟩:BA)])),.agg (frC (Qj (⟨#[99]⟩:BA) (⟨#[114]⟩:BA) ([(⟨#[113]⟩:BA)]))),.fn 60 [],.rd (Zb ([(⟨#[114]⟩:BA)])),.agg (frC (Qj (⟨#[100]⟩:BA) (⟨#[113]⟩:BA) ([(⟨#[114]⟩:BA)]))),.agg (frC ({ Qj ⟨#[116]⟩ ⟨#[113]⟩ []with thm:=true }:Fr)),.rd (Yy ([(Qj (⟨#[97]⟩:BA) (⟨#[112]⟩:BA) ([]:List BA)),(Qj (⟨#[98]⟩:BA) (⟨#[113]⟩:BA) ([(⟨#[112]⟩:BA)])),(Qj (⟨#[99]⟩:BA) (⟨#[114]⟩:BA) ([(⟨#[113]⟩:BA)])),(Qj (⟨#[100]⟩:BA) (⟨#[113]⟩:BA) ([(⟨#[114]⟩:BA)])),({ Qj ⟨#[116]⟩ ⟨#[113]⟩ []with thm:=true }:Fr)])),.agg (dbC (⟨([(⟨#[124,45]⟩:BA),(⟨#[112]⟩:BA),(⟨#[113]⟩:BA),(⟨#[114]⟩:BA)]:List BA),[],[(Qj (⟨#[97]⟩:BA) (⟨#[112]⟩:BA) ([]:List BA)),(Qj (⟨#[98]⟩:BA) (⟨#[113]⟩:BA) ([(⟨#[112]⟩:BA)])),(Qj (⟨#[99]⟩:BA) (⟨#[114]⟩:BA) ([(⟨#[113]⟩:BA)])),(Qj (⟨#[100]⟩:BA) (⟨#[113]⟩:BA) ([(⟨#[114]⟩:BA)])),({ Qj ⟨#[116]⟩ ⟨#[113]⟩ []with thm:=true }:Fr)]⟩:Db)),.any,.any]:List AV).getD ix' .any) (fun _=>true) [(1,fun _=>.at b2 0),(0,fun _=>.at b1 0),(4,fun g=>.at g 0)] (fun(b:List Bool) (g:Nat)=>(bif b.getD 1 false then [OB.var g (dbC (⟨([(⟨#[124,45]⟩:BA),(⟨#[112]⟩:BA),(⟨#[113]⟩:BA),(⟨#[114]⟩:BA)]:List BA),[],[(Qj (⟨#[97]⟩:BA) (⟨#[112]⟩:BA) ([]:List BA)),(Qj (⟨#[98]⟩:BA) (⟨#[113]⟩:BA) ([(⟨#[112]⟩:BA)])),(Qj (⟨#[99]⟩:BA) (⟨#[114]⟩:BA) ([(⟨#[113]⟩:BA)])),(Qj (⟨#[100]⟩:BA) (⟨#[113]⟩:BA) ([(⟨#[114]⟩:BA)])),({ Qj ⟨#[116]⟩ ⟨#[113]⟩ []with thm:=true }:Fr)]⟩:Db))]else(bif b.getD 0 false then [OB.var g [Zb ([]:List BA),Zb ([]:List BA),Yy ([]:List Fr)]]else []))++([OB.var b3 (frC ({ Qj ⟨#[116]⟩ ⟨#[113]⟩ []with thm:=true }:Fr)),OB.var b2 [ZP ([]:List Stp)],OB.var b1 [Zb ([]:List BA),Zb ([]:List BA),Yy ([]:List Fr)]])) (fun k' g=>match k' with | 0=>(.pointer (some ⟨g,0,none⟩)) | _=>undef) [15,16] 0 (fun _=>rfl) h hJ Yp rfl rfl rfl rfl (fun b g p hp=>(List.mem_append_right _ hp)) ⟨?_,?_,?_,?_,?_,?_,?_,?_,?_,?_,?_,?_,?_,?_,?_,?_,?_,trivial⟩ ⟨?e4_1_0,?e4_1_1,trivial⟩ ⟨.old 1 1 _,.old 2 0 _,.eff 0 15 4 (fun(g:Nat)=>(.pointer (some ⟨g,0,none⟩))) rfl rfl (fun _=>rfl) (fun _=>True.intro),trivial⟩ ?n4_1)
 exact fun _ O' _=>⟨rfl,fun a _ hk hx _ _=>Zao (k:=4) (us:=[a.eval (.const (.string { data:= #[124,45] })),a.eval (.const (.string { data:= #[112] })),a.eval (.const (.string { data:= #[113] })),a.eval (.const (.string { data:= #[114] }))]) Zj Zeb rfl yz (Zu (Rel.of_lit (.string { data:= #[124,45] }) (lb rfl)) (Zu (Rel.of_lit (.string { data:= #[112] }) (lb rfl)) (Zu (Rel.of_lit (.string { data:= #[113] }) (lb rfl)) (Zu (Rel.of_lit (.string { data:= #[114] }) (lb rfl)) Z2)))) rfl dz dz (Zk hS _ hk hx _ nlr) (jo hJ hx)⟩
 exact oX rfl fun hx hl=>ZY rfl (hl.env 3 2 _ rfl rfl) hx
 exact oY rfl fun hk hx hl=>Zay ((ZaG hJ (⟨#[97]⟩:BA) (⟨#[112]⟩:BA) ([]:List BA) dz dz dz).rr) Zfl rfl (hl.D 1 9 rfl rfl) (Zk hS _ hk hx) (hx.1) Zr (Za (Rel.of_lit (.string { data:= #[97] }) (lb rfl)) (Za (Rel.of_lit (.string { data:= #[112] }) (lb rfl)) (Za (ZgX (Rel.of_lit (.slice none 0 0))) Zd))) (jo hJ hx)
 exact oX rfl fun hx hl=>ZY rfl (hl.env 3 2 _ rfl rfl) hx
 exact fun _ O' _=>⟨rfl,fun _ _ hk hx _ _=>YJ Zj Zbn rfl (Rel.of_lit (.string { data:= #[112] }) (lb rfl)) (Zk hS _ hk hx _ nlr) (jo hJ hx)⟩
 exact oY rfl fun hk hx hl=>Zay ((ZaG hJ (⟨#[98]⟩:BA) (⟨#[113]⟩:BA) ([(⟨#[112]⟩:BA)]) dz dz dz).rr) Zfl rfl (hl.D 3 11 rfl rfl) (Zk hS _ hk hx) (hx.1) Zr (Za (Rel.of_lit (.string { data:= #[98] }) (lb rfl)) (Za (Rel.of_lit (.string { data:= #[113] }) (lb rfl)) (Za (hl.D 4 12 rfl rfl) Zd))) (jo hJ hx)
 exact oX rfl fun hx hl=>ZY rfl (hl.env 3 2 _ rfl rfl) hx
 exact fun _ O' _=>⟨rfl,fun _ _ hk hx _ _=>YJ Zj Zbn rfl (Rel.of_lit (.string { data:= #[113] }) (lb rfl)) (Zk hS _ hk hx _ nlr) (jo hJ hx)⟩
 exact oY rfl fun hk hx hl=>Zay ((ZaG hJ (⟨#[99]⟩:BA) (⟨#[114]⟩:BA) ([(⟨#[113]⟩:BA)]) dz dz dz).rr) Zfl rfl (hl.D 6 14 rfl rfl) (Zk hS _ hk hx) (hx.1) Zr (Za (Rel.of_lit (.string { data:= #[99] }) (lb rfl)) (Za (Rel.of_lit (.string { data:= #[114] }) (lb rfl)) (Za (hl.D 7 15 rfl rfl) Zd))) (jo hJ hx)
 exact oX rfl fun hx hl=>ZY rfl (hl.env 3 2 _ rfl rfl) hx
 exact fun _ O' _=>⟨rfl,fun _ _ hk hx _ _=>YJ Zj Zbn rfl (Rel.of_lit (.string { data:= #[114] }) (lb rfl)) (Zk hS _ hk hx _ nlr) (jo hJ hx)⟩
 exact oY rfl fun hk hx hl=>Zay ((ZaG hJ (⟨#[100]⟩:BA) (⟨#[113]⟩:BA) ([(⟨#[114]⟩:BA)]) dz dz dz).rr) Zfl rfl (hl.D 9 17 rfl rfl) (Zk hS _ hk hx) (hx.1) Zr (Za (Rel.of_lit (.string { data:= #[100] }) (lb rfl)) (Za (Rel.of_lit (.string { data:= #[113] }) (lb rfl)) (Za (hl.D 10 18 rfl rfl) Zd))) (jo hJ hx)
 exact fun _ O' hO'=>⟨rfl,fun _ _ _ hx hl _=>Ye (ds:=[lS (({ Qj ⟨#[116]⟩ ⟨#[113]⟩ []with thm:=true }:Fr).label),lB (({ Qj ⟨#[116]⟩ ⟨#[113]⟩ []with thm:=true }:Fr).thm),XR (({ Qj ⟨#[116]⟩ ⟨#[113]⟩ []with thm:=true }:Fr).hyps),X9 (({ Qj ⟨#[116]⟩ ⟨#[113]⟩ []with thm:=true }:Fr).apart),Zb (({ Qj ⟨#[116]⟩ ⟨#[113]⟩ []with thm:=true }:Fr).text),XR (({ Qj ⟨#[116]⟩ ⟨#[113]⟩ []with thm:=true }:Fr).dummies),X9 (({ Qj ⟨#[116]⟩ ⟨#[113]⟩ []with thm:=true }:Fr).wide),Zb (({ Qj ⟨#[116]⟩ ⟨#[113]⟩ []with thm:=true }:Fr).proof)]) ZbY rfl (Zf hx (hO' _ (mo 0 rfl))) (hl.env 0 3 _ rfl rfl) rfl rfl hx⟩
 exact fun _ O' _=>⟨rfl,fun a w hk hx hl _=>ZuG (z:= #[.string ⟨#[]⟩,.bool false,.slice none 0 0,.slice none 0 0,.slice none 0 0,.slice none 0 0,.slice none 0 0,.slice none 0 0]) (cs:=[frC (Qj (⟨#[97]⟩:BA) (⟨#[112]⟩:BA) ([]:List BA)),frC (Qj (⟨#[98]⟩:BA) (⟨#[113]⟩:BA) ([(⟨#[112]⟩:BA)])),frC (Qj (⟨#[99]⟩:BA) (⟨#[114]⟩:BA) ([(⟨#[113]⟩:BA)])),frC (Qj (⟨#[100]⟩:BA) (⟨#[113]⟩:BA) ([(⟨#[114]⟩:BA)])),frC ({ Qj ⟨#[116]⟩ ⟨#[113]⟩ []with thm:=true }:Fr)]) (vs:=[a.eval (.tmp 10),a.eval (.tmp 13),a.eval (.tmp 16),a.eval (.tmp 19),a.eval (.tmp 20)]) Yu (fun w=>by kernel_rfl) rfl yz (Za (hl.D 2 10 rfl rfl) (Za (hl.D 5 13 rfl rfl) (Za (hl.D 8 16 rfl rfl) (Za (hl.D 11 19 rfl rfl) (Za (hl.D 12 20 rfl rfl) Zd))))) (of_decide_eq_true rfl) rfl dz dz dz (Zk hS _ hk hx _ nlr) (jo hJ hx)⟩
 exact oX rfl fun hx hl=>ZoR (xs:=([(⟨#[124,45]⟩:BA),(⟨#[112]⟩:BA),(⟨#[113]⟩:BA),(⟨#[114]⟩:BA)]:List BA)) (fs:=([(Qj (⟨#[97]⟩:BA) (⟨#[112]⟩:BA) ([]:List BA)),(Qj (⟨#[98]⟩:BA) (⟨#[113]⟩:BA) ([(⟨#[112]⟩:BA)])),(Qj (⟨#[99]⟩:BA) (⟨#[114]⟩:BA) ([(⟨#[113]⟩:BA)])),(Qj (⟨#[100]⟩:BA) (⟨#[113]⟩:BA) ([(⟨#[114]⟩:BA)])),({ Qj ⟨#[116]⟩ ⟨#[113]⟩ []with thm:=true }:Fr)])) ZnK rfl (hl.D 0 8 rfl rfl) (hl.D 13 21 rfl rfl) hx
 exact Zh rfl
 exact Zh rfl
 case e4_1_0=>exact Zhe [[false,false]] (by kernel_rfl) rfl rfl rfl rfl ⟨fun _ _ w hk hx _ _=>Zl (Qt Zcb hJ rfl hk hx) fun v w' ⟨b',hv,hp⟩=>⟨b',(fun k' hk'=>by rcases k' with _ | _ | k'<;>first | rfl | cases hk'),fun _=>hv,True.intro,hp⟩,trivial⟩
 case e4_1_1=>exact Zhe [[true,false]] (by kernel_rfl) rfl rfl rfl rfl ⟨fun g _ w hk hx hl hs=>(by obtain⟨us2,hv2,hr3⟩:=Q1 (hl.D 14 22 rfl rfl);exact Zl (Xz (S':=S) (off:=0) (news:=U3) (es:=U3) (us:=us2) hJ hJ0 Zes rfl hk hx (ZcA (hs 0 15 _ 4 rfl rfl rfl rfl)) (by rw[hv2];rfl) hr3 (lb rfl) rfl) fun v w' hp=>⟨g,fun _ _=>rfl,fun e=>(by cases e),True.intro,hp⟩),trivial⟩
 clear a w h
 intro b4
 dsimp only[List.map]
 refine kw (fun h=>ZS hS h (m:=2) (s:=4) rfl) (nx (tsq ?_))
 refine snK 1 tb rfl (sq (.agg (spC (⟨(⟨#[97]⟩:BA),[]⟩:Stp))) rfl rfl (lb rfl) (fun a _ h=>Y8 (ps:=[(0,a.eval (.const (.string { data:= #[97] })))]) (us:=[a.eval (.const (.string { data:= #[97] })),.slice none 0 0]) Zjb rfl yz (ZnM (lb rfl) rfl Zjr) rfl (Zu (Rel.of_lit (.string { data:= #[97] }) (lb rfl)) (X2 (.nil _ _ nzl) Z2)) h.x) ?_)
 refine sy (.rd (Z6 ([(0:Int)]))) (fun h=>YJ Zy Zea rfl (Rel.of_lit (.int .i64 0)) (Zk hS _ h.keep h.x _ nlr) (jo hJ h.x)) ?_
 refine sq (.agg (spC (⟨(⟨#[98]⟩:BA),[(0:Int)]⟩:Stp))) rfl rfl (lb rfl) (fun a _ h=>XS (us:=[a.eval (.const (.string { data:= #[98] })),a.eval (.tmp 25)]) ZbV rfl yz (Zu (Rel.of_lit (.string { data:= #[98] }) (lb rfl)) (Zu (h.get 0 rfl) Z2)) rfl h.x) ?_
 refine sy (.rd (Z6 ([(1:Int)]))) (fun h=>YJ Zy Zea rfl (Rel.of_lit (.int .i64 1)) (Zk hS _ h.keep h.x _ nlr) (jo hJ h.x)) ?_
 refine sq (.agg (spC (⟨(⟨#[99]⟩:BA),[(1:Int)]⟩:Stp))) rfl rfl (lb rfl) (fun a _ h=>XS (us:=[a.eval (.const (.string { data:= #[99] })),a.eval (.tmp 27)]) ZbV rfl yz (Zu (Rel.of_lit (.string { data:= #[99] }) (lb rfl)) (Zu (h.get 0 rfl) Z2)) rfl h.x) ?_
 refine sy (.rd (Z6 ([(2:Int)]))) (fun h=>YJ Zy Zea rfl (Rel.of_lit (.int .i64 2)) (Zk hS _ h.keep h.x _ nlr) (jo hJ h.x)) ?_
 refine sq (.agg (spC (⟨(⟨#[100]⟩:BA),[(2:Int)]⟩:Stp))) rfl rfl (lb rfl) (fun a _ h=>XS (us:=[a.eval (.const (.string { data:= #[100] })),a.eval (.tmp 29)]) ZbV rfl yz (Zu (Rel.of_lit (.string { data:= #[100] }) (lb rfl)) (Zu (h.get 0 rfl) Z2)) rfl h.x) ?_
 refine sq (.rd (ZP ([(⟨(⟨#[97]⟩:BA),[]⟩:Stp),(⟨(⟨#[98]⟩:BA),[(0:Int)]⟩:Stp),(⟨(⟨#[99]⟩:BA),[(1:Int)]⟩:Stp),(⟨(⟨#[100]⟩:BA),[(2:Int)]⟩:Stp)]))) rfl rfl (lb rfl) (fun a _ h=>ZuG (z:= #[.string ⟨#[]⟩,.slice none 0 0]) (cs:=[spC (⟨(⟨#[97]⟩:BA),[]⟩:Stp),spC (⟨(⟨#[98]⟩:BA),[(0:Int)]⟩:Stp),spC (⟨(⟨#[99]⟩:BA),[(1:Int)]⟩:Stp),spC (⟨(⟨#[100]⟩:BA),[(2:Int)]⟩:Stp)]) (vs:=[a.eval (.tmp 24),a.eval (.tmp 26),a.eval (.tmp 28),a.eval (.tmp 30)]) Z4 (fun w=>by kernel_rfl) rfl yz (Za (h.get 6 rfl) (Za (h.get 4 rfl) (Za (h.get 2 rfl) (Za (h.get 0 rfl) Zd)))) (of_decide_eq_true rfl) rfl dz dz dz (Zk hS _ h.keep h.x _ nlr) (jo hJ h.x)) ?_
 refine sq (.agg (pfC ([(⟨(⟨#[97]⟩:BA),[]⟩:Stp),(⟨(⟨#[98]⟩:BA),[(0:Int)]⟩:Stp),(⟨(⟨#[99]⟩:BA),[(1:Int)]⟩:Stp),(⟨(⟨#[100]⟩:BA),[(2:Int)]⟩:Stp)]))) rfl rfl (lb rfl) (fun a _ h=>XS (us:=[a.eval (.tmp 31)]) Zdp rfl yz (Zu (h.get 0 rfl) Z2) rfl h.x) ?_
 refine kw pm2 (Zn (b:=b1) (off:=0) (es:=U3) (news:=U3) hJ hJ0 Zes rfl rfl rfl (lb rfl) rfl (fun a w h=>⟨(h.get 12 rfl),(h.get 9 rfl)⟩) ?_)
 refine kw pm2 (Zn (b:=b2) (off:=0) (es:=[_]) (news:=[_]) hJ hJ0 Yt rfl rfl rfl (lb rfl) rfl (fun a w h=>⟨(h.get 11 rfl),(h.get 0 rfl)⟩) ?_)
 refine seK [1,3,5,7,11,12] U6 rfl (nx (ln 0 fun hl1=>?_))
 refine ln 1 fun hl2=>?_
 refine ln 2 fun hl3=>?_
 refine ln 3 fun hl4=>?_
 exact tw pm1 (Zt (fun a w h=>ZsB (m:=5) (q:=4) rfl ZhD Z8 h rfl rfl rfl rfl (show(_:List CD)=[Zb exDb.consts,Zb exDb.vars,Yy exDb.frames]from rfl) (show(_:List CD)=[ZP ZhH]from rfl)))
theorem ZxJ:Zi prog 30:=Zm Tryz.func30 rfl rfl
theorem ZxM:Zi prog 15:=Zm Tryz.func15 rfl rfl
theorem ZqX:Zi prog 31:=Zm Tryz.func31 rfl rfl
theorem call_8:Zi prog 8:=Zm Tryz.func8 rfl rfl
theorem Zme:Zi prog 9:=Zm Tryz.func9 rfl rfl
theorem ZxN:Zi prog 14:=Zm Tryz.func14 rfl rfl
theorem Zrr:Zup prog 28 1:=⟨(#[.slice none 0 0]),rfl,by kernel_rfl⟩
theorem Zcn {J:WP} (hJ:Stab J)  (hG:Xm J):Fn prog J 9 [] (.bool true):=by
 refine fE Tryz.func9 fun S w0 hS hJ0=>?_
 refine tw Z7 ?_
 obtain⟨lc,hlc⟩:=ex_law
 obtain⟨xs,hxs⟩:∃ xs,Zd4 (jbG exDb 4 ZhH) 3=xs:=⟨_,rfl⟩
 rw[hxs]at hlc
 have hxl:0<xs.length:=by rw[hlc];simp
 refine qso tb hJ [] [_] [] ?_
 refine tsq (sy (.tup [.agg (dbC exDb),.agg (pfC ZhH)]) (fun h=>ZaM (ZnX hJ  ) ZxJ rfl (Zk hS _ h.keep h.x) (h.x.1) Zd (jo hJ h.x)) ?_)
 refine snK 3 tb rfl (Zw Zcb hJ rfl rfl rfl (lb rfl) fun b1=>?_)
 refine Zw XT hJ rfl rfl rfl (lb rfl) fun b2=>?_
 refine kw pm1 (Zn (b:=b1) (off:=0) (es:=U3) (news:=U3) hJ hJ0 Zes rfl rfl rfl (lb rfl) rfl (fun a w h=>⟨(h.get 1 rfl),(h.get 3 rfl)⟩) ?_)
 refine kw pm1 (Zn (b:=b2) (off:=0) (es:=[_]) (news:=[_]) hJ hJ0 Yt rfl rfl rfl (lb rfl) rfl (fun a w h=>⟨(h.get 0 rfl),(h.get 2 rfl)⟩) ?_)
 refine kw pm1 (kw (fun h=>ZS hS h (m:=1) (s:=1) rfl) ?_)
 refine kw (fun h=>ZS hS h (m:=1) (s:=2) rfl) (seK [0,1] U2 rfl ?_)
 refine nx (Zg (YV tb hJ [1004,1006,1007] [_,_,.tup [.rd (Zfi (Zd4 (jbG exDb (4:Int) ZhH) 3)),.int 0],_,_,_,_,_] [2] U3 rfl ⟨iFo hS hJ (Zpj hJ exDb (4:Int) ZhH 3 dz (by exact hG) (by exact Zs9) dz dz dz) ZxM,trivial⟩ ?_))
 refine kw (sa 1 rfl (congrArg (fun z'=>AV.rd (Zfi z')) (show(Zd4 (jbG exDb (4:Int) ZhH) 3)=xs from hxs))) (nx (ln 0 fun hl1=>?_))
 refine ln 1 fun hl2=>?_
 refine ZH tb hJ [1036] (V4 [.int (xs.length:Nat),_,_,_,_,.ptr (chC (ge xs 0)),_,_,_,_,_,_,.ptr (chC (ge xs 0)),_,_,.rd (Z6 ([(1:Int)])),.bool (decide (((ge xs 0).args)=([(1:Int)]))),_,_,_,.ptr (chC (ge xs 0)),_,_,_,_,_,_,.ptr (chC (ge xs 0)),_,_,_,_,_]) [4,9,16,19,20,24,31] [_] rfl ⟨Yn YQ,gIx (k:=0) YP (hk:=fun _=>by first | omega | (simp;omega) | grind[Zq]),gIx (k:=0) YP (hk:=fun _=>by first | omega | (simp;omega) | grind[Zq]),fun _ _ hk hx _ _=>YJ Zy Zea rfl (Rel.of_lit (.int .i64 1)) (Zk hS _ hk hx _ nlr) (jo hJ hx),iFo hS hJ (Zlz hJ ((ge xs 0).args) ([(1:Int)])) ZqX,gIx (k:=0) YP (hk:=fun _=>by first | omega | (simp;omega) | grind[Zq]),gIx (k:=0) YP (hk:=fun _=>by first | omega | (simp;omega) | grind[Zq]),trivial⟩ ?_
 exact tRo 0 (hE:=eB (by rw[hlc];simp[ge]))
end Go.Proofs.YtdfadihhfppjaaaGreatDoor
namespace Go.Proofs.YtdfadihhfppjaaaGreatDoor
abbrev Zum (c:Chg) (a:Int):Bool:=decide (a<0)||decide (c.step≤a)
section
variable {j:Jb} {c:Chg}
theorem ZsQ (h:c.args.any (Zum c)=true):ZaS j c=false:=by
 obtain⟨a,ha,h1⟩:=List.any_eq_true.1 h
 have h2:(c.args.all fun a=>decide (0≤a∧a<c.step))=false:=by
  rw[List.all_eq_false]
  refine⟨a,ha,?_⟩
  have h3:a<0∨c.step≤a:=by simpa [Zum]using h1
  simp only[decide_eq_true_eq]
  omega
 rw[ZaS,h2,Bool.false_and,Bool.false_and]
theorem Zp1 (h:c.args.any (Zum c)=false):∀ a∈c.args,0≤a∧a<c.step:=by
 intro a ha
 have h1:=List.any_eq_false.1 h a ha
 have h3:¬ (a<0∨c.step≤a):=by simpa [Zum]using h1
 omega
theorem ZsR (h:c.args.any (Zum c)=false):(c.args.all fun a=>decide (0≤a∧a<c.step))=true:=
 List.all_eq_true.2 fun a ha=>decide_eq_true (Zp1 h a ha)
def ZcL (j:Jb) (c:Chg):Bool:=
 if c.reason=1 then decide (c.label=⟨#[]⟩∧c.args.length=1∧ge j.ts (ge c.args 0).toNat=ge j.ts c.step.toNat)
  else decide (0≤Yl j.d c.label∧Yl j.d c.label< (j.i:Int)∧c.args.length=(ge j.d.frames (Yl j.d c.label).toNat).hyps.length)&&Zdj j (ge j.d.frames (Yl j.d c.label).toNat) c.args c.step.toNat
theorem Zp0 (h:ZcL j c=false):ZaS j c=false:=by
 have e:ZaS j c=(c.args.all (fun a=>decide (0≤a∧a<c.step))&&ZcL j c&&decide ((Y7 j.ss c).length<Zx j.ss∧(Zx j.ss:Int)=c.before∧((Y7 j.ss c).length:Int)=c.after)):=rfl
 rw[e,h,Bool.and_false,Bool.false_and]
theorem ZlR (h0:c.args.any (Zum c)=false) (h:ZcL j c=true):ZaS j c=decide ((Y7 j.ss c).length<Zx j.ss∧(Zx j.ss:Int)=c.before∧((Y7 j.ss c).length:Int)=c.after):=by
 have e:ZaS j c=(c.args.all (fun a=>decide (0≤a∧a<c.step))&&ZcL j c&&decide ((Y7 j.ss c).length<Zx j.ss∧(Zx j.ss:Int)=c.before∧((Y7 j.ss c).length:Int)=c.after)):=rfl
 rw[e,h,ZsR h0,Bool.true_and,Bool.true_and]
theorem ZiR (h:ZaS j c=true):(∀ a∈c.args,0≤a∧a<c.step)∧ZcL j c=true∧(Y7 j.ss c).length<Zx j.ss:=by
 have e:ZaS j c=(c.args.all (fun a=>decide (0≤a∧a<c.step))&&ZcL j c&&decide ((Y7 j.ss c).length<Zx j.ss∧(Zx j.ss:Int)=c.before∧((Y7 j.ss c).length:Int)=c.after)):=rfl
 rw[e,Bool.and_eq_true,Bool.and_eq_true]at h
 exact⟨fun a ha=>of_decide_eq_true (List.all_eq_true.1 h.1.1 a ha),h.1.2,(of_decide_eq_true h.2).1⟩
theorem ZcM {ss:List Stp}:((decide (((Y7 ss c).length:Int)< (Zx ss:Int))&&decide ((X4 ss c).before=c.before))&&decide ((X4 ss c).after=c.after))=decide ((Y7 ss c).length<Zx ss∧(Zx ss:Int)=c.before∧((Y7 ss c).length:Int)=c.after):=by
 rw[Bool.eq_iff_iff]
 simp only[Bool.and_eq_true,decide_eq_true_eq]
 exact⟨fun h=>⟨oz,h.1.2,h.2⟩,fun h=>⟨⟨oz,h.2.1⟩,h.2.2⟩⟩
theorem ZsI (h:ZcL j c=true):¬ c.reason=1∨c.args.length=1:=by
 by_cases h1:c.reason=1
 · rw[ZcL,if_pos h1]at h
   exact .inr (of_decide_eq_true h).2.1
 · exact .inl h1
end
section
variable {d:Db} {z:Int} {ss q:List Stp} {c:Chg} {l:List Chg} {k:Nat}
theorem Zq7:(YX d z ss c).1.length≤ss.length:=by
 unfold YX
 split
 · exact Nat.zero_le _
 · split
   · exact Nat.zero_le _
   · split
     · exact Nat.zero_le _
     · split
       · exact Nat.zero_le _
       · rename_i h
         have h1:ZaS (jbG d z ss) c=true:=by cases e:ZaS (jbG d z ss) c<;>simp_all
         have h2:(Y7 ss c).length<Zx ss:=(ZiR h1).2.2
         have h3:=Zcw ss
         show(Y7 ss c).length≤ss.length
         omega
theorem Zvc (h:k<l.length):QI d z q k ss (l.drop k)=if(YX d z ss (ge l k)).2=0 then QI d z q (k+1) (YX d z ss (ge l k)).1 (l.drop (k+1))else((k:Int),(YX d z ss (ge l k)).2):=by
 rw[List.drop_eq_getElem_cons h,←Yk h,QI]
theorem ZqH (h:k=l.length):QI d z q k ss (l.drop k)=if ss=q then((k:Int),0)else((k:Int),261):=by
 rw[List.drop_of_length_le oz,QI]
def ckG (d:Db) (z:Int) (ss q:List Stp) (l:List Chg):Int×Int:=if ZF d z ss=0 then QI d z q 0 ss l else(0,ZF d z ss)
theorem siz_at {s t:Int} (h:ZoE s (l.drop k)=some t) (hk:k<l.length):(ge l k).before=s∧(ge l k).after<s∧ZoE (ge l k).after (l.drop (k+1))=some t:=by
 rw[List.drop_eq_getElem_cons hk,←Yk hk,ZoE]at h
 split at h
 · rename_i h1;exact⟨h1.1,h1.2,h⟩
 · cases h
theorem ZvP {s t:Int} (h:ZoE s (l.drop k)=some t) (hk:¬ k<l.length):s=t:=by
 rw[List.drop_of_length_le oz]at h
 exact Option.some.inj h
end
theorem Zpv {d:Db} {z:Int} {ss:List Stp} {most:Nat} (h:¬ (Y6 d z ss most).2.2=0):(Y6 d z ss most).1=[]∧(Y6 d z ss most).2.1=[]:=by
 by_cases h1:ZF d z ss=0
 · have e:Y6 d z ss most=Zb2 (ZF d z) (fun s=>Zb3 (jbG d z s)) most ss []:=if_pos h1
   rw[e]at h ⊢
   exact ZlI _ _ _ h
 · have e:Y6 d z ss most=([],[],ZF d z ss):=if_neg h1
   rw[e]
   exact⟨rfl,rfl⟩
theorem Zix {d:Db} {z:Int} (hf:d.frames.length≤16) (hw:∀ f∈d.frames,f.wide.length*32≤140737488351232):∀(k:Nat) (ss:List Stp) (l:List Chg),ZF d z ss=0→ss.length≤16→(∀ c∈l,c.args.length≤40)→
 ∀ c∈(Zb2 (ZF d z) (fun s=>Zb3 (jbG d z s)) k ss l).2.1,c.args.length≤40
 | 0,ss,l,_,_,hl=>hl
 | k+1,ss,l,hr,h16,hl=>by
  rw[Zb2]
  cases hl2:Zb3 (jbG d z ss)with
  | nil=>exact hl
  | cons c cs=>
   dsimp only
   have hm:Xe c cs∈Zb3 (jbG d z ss):=by rw[hl2];rcases ZaR cs c with h | h<;>simp[h]
   by_cases h0:ZF d z (Y7 ss (Xe c cs))=0
   · rw[if_pos h0]
     have h1:=Zkv (d:=d) (z:=z) ss _ hm
     have h2:=Zcw ss
     refine Zix hf hw k _ _ h0 oz fun x hx=>?_
     rcases List.mem_append.1 hx with hx | hx
     · exact hl x hx
     · rw[List.mem_singleton.1 hx]
       exact(ZmB (Zg6 hr h16 hf hw) hm).2.2.2.1
   · rw[if_neg h0]
     intro x hx;cases hx
theorem Zpw {d:Db} {z:Int} {ss:List Stp} {most:Nat} (hf:d.frames.length≤16) (hw:∀ f∈d.frames,f.wide.length*32≤140737488351232) (h16:ss.length≤16):∀ c∈(Y6 d z ss most).2.1,c.args.length≤40:=by
 by_cases h1:ZF d z ss=0
 · have e:Y6 d z ss most=Zb2 (ZF d z) (fun s=>Zb3 (jbG d z s)) most ss []:=if_pos h1
   rw[e]
   exact Zix hf hw _ _ _ h1 h16 fun c hc=>by cases hc
 · have e:Y6 d z ss most=([],[],ZF d z ss):=if_neg h1
   rw[e]
   intro x hx;cases hx
theorem ZvI {a b:Stp}:(decide (a.label=b.label)&&decide (a.args=b.args))=decide (a=b):=by
 rw[Bool.eq_iff_iff]
 simp only[Bool.and_eq_true,decide_eq_true_eq]
 constructor
 · intro h
   cases a;cases b;simp_all
 · rintro rfl
   exact⟨rfl,rfl⟩
end Go.Proofs.YtdfadihhfppjaaaGreatDoor
namespace Go.Proofs.YtdfadihhfppjaaaGreatDoor
open Go.RowKit
section
variable {n:Rn} {P:Program} {l:List Oper} {Q:Exit→Act→WP} {ds:List Deferred}
theorem ZjE {F:Fence} {m:Nat} {o:Oper} {a:Act} {K:Act→WP} {r:Result Next} (h:o.uponIn F m P a K (Exit.then K Q) r):o.uponIn F m P a K Q r:=by
 cases r with
 | halt s w'=>cases s<;>exact h
 | ok x w'=>
  cases x with
  | enter f args=>
   rw[Oper.uponIn_enter]at h ⊢
   refine⟨h.1,h.2.mono fun e w'' he=>?_⟩
   cases e with
   | returned v=>exact he
   | panicked ch=>exact he
   | outgrown=>exact he
  | round l f tmps assign body=>
   rw[Oper.uponIn_round]at h ⊢
   refine⟨h.1,h.2.mono fun e w'' he=>?_⟩
   cases e with
   | returned v=>exact he
   | panicked ch=>exact he
   | outgrown=>exact he
  | _=>exact h
theorem ZpI {F:Fence} {m:Nat} {ops:Array Oper} {o:Oper} {rest:List Oper} {a:Act} {w:World} (h:wpListIn F m P ops (Exit.then (fun a w=>wpListIn F m P ops Q rest a w) Q) [o] a w):wpListIn F m P ops Q (o::rest) a w:=by
 unfold wpListIn at h ⊢
 split
 · rename_i hw
   rw[if_pos hw]at h
   exact⟨h.1,ZjE h.2⟩
 · rename_i hw
   rw[if_neg hw]at h
   exact⟨h.1,h.2⟩
theorem ZoJ {I:(Nat→Bool)→Act→WP} {id:Nat} {draw:Bool} {a:Act} {w:World} (hm:P.follows .mixedOrders=true) (hback:Zbm l=true)
 (hstep:∀(Q:Exit→Act→WP) (b:Nat→Bool) (a:Act) (w:World) (i:Nat) (o:Oper) (rest:List Oper),l[i]?=some o→b i=false→(∀ j∈ZN o,b j=true)→I b a w→(∀ a' w',I (Yg b i) a' w'→wpListIn n.F n.d P l.toArray Q rest a' w')→wpListIn n.F n.d P l.toArray Q (o::rest) a w)
 (hend:∀ a w,I (fun i=>decide (i<l.length)) a w→Q .normal (phi ds a) w) (h0:I (fun _=>false) a w) (hd:I (fun _=>false) a w.drew):(Code.region id l.toArray draw).wpIn n.F n.d P Q (phi ds a) w:=by
 refine ZgG (I:=fun b a' w'=>∃ a0,a'=phi ds a0∧I b a0 w') hm hback ?_ ?_ ⟨a,rfl,h0⟩ ⟨a,rfl,hd⟩
 · rintro Q b a1 w1 i o rest hi hb hj ⟨a0,rfl,h⟩ hK
   exact ZpI (Zaj (hstep _ b a0 w1 i o [] hi hb hj h fun a' w' h'=>wpListIn_nil (hK _ _ ⟨a',rfl,h'⟩)))
 · rintro a1 w1 ⟨a0,rfl,h⟩
   exact hend a0 w1 h
section
variable {J:WP} {S:Nat→Prop} {w0:World} {env:List (Nat×AV)} {γ:Type}
theorem ZoH {N:Nat} {O:List OB} (Or:List OB) {id:Nat} {draw:Bool} {a:Act} {w:World} (avs:Nat→AV) (conds:Nat→Bool) (env':List (Nat×(γ→AV))) (F:List Bool→γ→List OB) (sv:Nat→γ→Value) (ch:List Nat) (g0:γ) (h0:∀ g,F (ch.map fun _=>false) g=O)
 (h:So J S w0 N O env a w) (hJ:Stab J) (hm:P.follows .mixedOrders=true) (hu:Y5 l=true) (hN:Zaa l N=true) (hback:Zbm l=true) (hnd:ZdA ch=true)
 (hsub:∀ b g p,p∈Or→p∈F b g) (ob:Obs (ObP n P J S Or w0 env l avs conds ch) 0 l) (eff:Effs (EffX n P J S w0 env l avs conds F sv ch) 0 ch) (hf:FromGs env l avs conds (fun k' g=>if k'<ch.length then sv k' g else undef) ch env')
 (hq:∀ g a w,So J S w0 N (F (ch.map fun _=>true) g) (env'.map fun p=>(p.1,p.2 g)) a w→Q .normal (phi ds a) w):(Code.region id l.toArray draw).wpIn n.F n.d P Q (phi ds a) w:=
 Zh8 (Q:=fun e a w=>Q e (phi ds a) w) (fun I h1 h2 h3 h4=>ZoJ (I:=I) hm hback h1 h2 h3 h4) Or avs conds env' F sv ch g0 h0 h hJ hu hN hnd hsub ob eff hf hq
end
theorem ZsC {J:WP} {S:Nat→Prop} {N:Nat} {P:Program} {w0:World} {O:List OB} {env:List (Nat×AV)} {fn:Func} {a:Act} {w:World} {b:Nat} {c1:CD} {t:TypeId} {d m q u x z:Nat} {a1 r1 r2 r3 r4:AV} (hr:fn.results= #[.cell d t,.tmp x,.tmp u]) (h1:XP P t) (h:So J S w0 N (OB.var b [c1]::O) env a w) (he:env[m]?=some (d,.at b 0)) (he1:env[z]?=some (x,r1)) (he2:env[q]?=some (u,r3)) (hE:AV.rd c1=a1) (hE1:r1=r2) (hE2:r3=r4):
 bodyPost P fn (fun e w'=>∃ v,e= .returned v∧Rel S w' (.tup [a1,r2,r4]) v∧Keeps All w0 w'∧J w') .ret a w:=by
 subst hE
 subst hE1
 subst hE2
 obtain⟨h0,us,e,hb,hrd⟩:=h.x.2.1 (OB.var b [c1]) yz
 match us,hrd with
 | [v1],hrd=>
  have hd:a.tmps.getD d undef= .pointer (some ⟨b,0,none⟩):=(h.get m he).lit
  have hd':a.tmps[d]?.getD undef= .pointer (some ⟨b,0,none⟩):=by rw[←Array.getD_eq_getD_getElem?];exact hd
  have hcell1:w.cell? ⟨b,0,none⟩=some v1:=by simp[World.cell?,hb]
  have h2:=(h.get q he2).sub (T:=S) fun _ _ hk=>hk.1
  have h3:=(h.get z he1).sub (T:=S) fun _ _ hk=>hk.1
  refine⟨h.defs,.tuple #[v1,a.tmps.getD x undef,a.tmps.getD u undef],by simp[results,hr,hd',asAddr,Sem.run_bind,loadVar,h1 w,hcell1],_,rfl,?_,h.keep,h.x.1⟩
  simp only[Rel,RelL]
  exact⟨_,rfl,_,_,rfl,(by simp only[RdL]at hrd;exact hrd.1.sub fun _ _ hk=>hk.1),_,_,rfl,h3,_,_,rfl,h2,rfl⟩
end
end Go.Proofs.YtdfadihhfppjaaaGreatDoor
set_option maxHeartbeats 8000000
set_option maxRecDepth 100000
namespace Go.Proofs.YtdfadihhfppjaaaGreatDoor
open Go.Proofs.Tryz (prog)
open Go.RowKit
theorem Zxw:Zi prog 82:=Zm Tryz.func82 rfl rfl
theorem Zub:Zi prog 110:=Zm Tryz.func110 rfl rfl
theorem Zxv:Zi prog 83:=Zm Tryz.func83 rfl rfl
theorem ZxD:Zi prog 50:=Zm Tryz.func50 rfl rfl
theorem Zxz:Zi prog 66:=Zm Tryz.func66 rfl rfl
section
variable {J:WP} (hJ:Stab J)
include hJ
theorem Zie (ss:List Stp)  :Fn prog J 82 [.agg (pfC ss)] (.fn 110 [.ptr (pfC ss)]):=by
 refine fE Tryz.func82 fun S w0 hS hJ0=>?_
 clear hJ0
 refine hqs tb hJ [1000] [.ptr (pfC ss),_] [0] [_] rfl ⟨iBs hS hJ,trivial⟩ ?_
 refine hqs tb hJ [1001] [.fn 110 [.ptr (pfC ss)],_] [0] [_] rfl ⟨fun _ _ _ hx hl _=>YS (caps:=[(.tmp 1)]) rfl (Za (hl.env 0 1 _ rfl rfl) Zd) hx,trivial⟩ ?_
 exact tRn 0 (hE:=rfl)
theorem Zwj (ss:List Stp) (hok:Okay ss):Fn prog J 50 [.agg (pfC ss)] (.tup [.int ((post ss).length:Nat),.int (ge (ZaK ss) (ss.length-1)),.int 0]):=by
 refine ZcP (N:=25) Tryz.func50 rfl rfl (lb rfl) fun S w0 hS hJ0=>?_
 refine atw Z7 ?_
 have hl0:=hok.1
 have hl1:=hok.2.1
 have hpn:(post ss).length≤2000:=by rw[←Zh0 hok];have:=Zcw ss;omega
 have hsl:(ZaK ss).length=ss.length:=Xb _ _
 refine Xr (m:=5) ?_
 refine ZR (sq (.ptr (pfC ss)) rfl rfl (lb rfl) (fun _ _ h=>Q2 rfl (h.get 0 rfl) (Zk hS _ h.keep h.x _ nlr) (jo hJ h.x)) ?_)
 refine Zw ZkV hJ rfl rfl rfl (lb rfl) fun b1=>?_
 refine snK 2 tb rfl (seK [2,3] U2 rfl ?_)
 refine ZdV ?_
 refine Xr (m:=5) ?_
 refine ZH tb hJ [0,1,1002] [_,.int (Zbl ss),_] [1] U3 rfl ⟨iFo hS hJ (ZuN hJ ss) ZqN,trivial⟩ ?_
 refine qso tb hJ [0,1,2,1001] U2 U4 ?_
 refine cj 3 (fun hb1=>?_) fun hb1=>?_
 ·
  try simp at hb1
  exact False.elim (by simp[(Zdl ss).2 hok]at hb1)
 ·
  try simp at hb1
  refine Zc (ZdV ?_)
  refine Zrc ?_
  refine Xr (m:=5) ?_
  refine YV tb hJ [0,1,1001] [_,.fn 110 [.ptr (pfC ss)]] [1] U3 rfl ⟨iFo hS hJ (Zie hJ ss) Zxw,trivial⟩ ?_
  refine ZdV ?_
  refine Zfr ?_
  refine atw (fun h=>XC (p:=(0=([]:List Nat).length)) (rfl) h) ?_
  refine ZoN (m:=5) (κ:=Nat) (μ:=Empty) (σ:=Empty) (Zif hJ ss hok) Zub hJ hS hJ0 Zr (fun pre (n:Nat)=>[OB.fct (n=pre.length),OB.var b1 [lI (n:Int)]]) (fun q':Empty=>undef) (fun q'=>[]) (fun s'=>[]) 0 (fun x9=>[(13,.int (x9:Nat)),(2,.at b1 0),(1,.ptr (pfC ss)),(12,.fn 110 [.ptr (pfC ss)])]) (lb rfl) Tryz.func50 ?_ ?_ ?_ ?_ ?_ ?_ ?_
  · exact fun a w h=>Zew (h.get 2 rfl)
  ·
   rintro m9 l9 R' pre x9 n K9 hK9
   exact Zc (hK9)
  ·
   rintro m9 l9 R' pre x9 n hpre
   refine ZhV fun hF=>?_
   have r1_:n=pre.length:=hF
   have hpl:=hpre.length_le
   rw[List.length_append,List.length_singleton]at hpl
   refine Ze (ZR (sq (.int (n:Nat)) rfl rfl (lb rfl) (fun _ _ h=>Zo Q3 rfl (Zf h.x (mo 0 rfl)) (h.get 1 rfl) rfl h.x) ?_))
   refine sy (.int (n+1:Nat)) (fun h=>Znc (i:=(n:Int)) (j:=(1:Int)) rfl (h.get 0 rfl) (Rel.of_lit (.int .i64 1)) sfz sfz h.x) ?_
   refine Z9 (b:=b1) (off:=0) (es:=[_]) hJ hJ0 QN rfl rfl rfl (lb rfl) rfl (fun a w h=>⟨(h.get 3 rfl),(h.get 0 rfl)⟩) ?_
   refine seK [3,4] U2 rfl (kw (fun h=>XC (p:=((n+1)=(pre++[x9]).length)) (by rw[r1_];simp) h) ?_)
   exact fun a w h=>⟨(n+1),h.keep,h.x⟩
  ·
   rintro hfl n D
   refine kw pm1 (ZhY fun hF=>?_)
   have r1_:n=(post ss).length:=hF
   refine Zwt (m:=5) ?_
   refine Zgo ?_
   refine dtw pm1 ?_
   refine fun a w h=>ZoH [OB.dfr D] (γ:=Value) (fun ix'=>([.int (n:Nat),.agg (pfC ss),.rd (Z6 (ZaK ss)),.ptr (pfC ss),.rd (ZP ss),.int (ss.length:Nat),.int (ss.length-1:Nat),.ptr [lI (ge (ZaK ss) (ss.length-1))],.int (ge (ZaK ss) (ss.length-1)),.any,.int (ge (ZaK ss) (ss.length-1)),.int (0:Int)]:List AV).getD ix' .any) (fun _=>true) [(2,fun _=>.at b1 0),(3,fun _=>.int (ge (ZaK ss) (ss.length-1))),(4,fun _=>.int (0:Int))] (fun(b:List Bool) (g:Value)=>(bif b.getD 1 false then [OB.var b1 [lI (n:Int)]]else [OB.var b1 [lI (n:Int)]])++([OB.dfr D])) (fun k' g=>match k' with | 0=>g | _=>undef) [0,9] undef (fun _=>rfl) h hJ Yp rfl rfl rfl rfl (fun b g p hp=>(List.mem_append_right _ hp)) ⟨?_,?_,?_,?_,?_,?_,?_,?_,?_,?_,?_,?_,trivial⟩ ⟨?e6_1_0,?e6_1_1,trivial⟩ ⟨.old 0 2 _,.new 10 3 _,.new 11 4 _,trivial⟩ ?n6_1
   exact Zh rfl
   exact oX rfl fun hx hl=>QH Z8 rfl (hl.env 1 1 _ rfl rfl) nlr hx
   exact oY rfl fun hk hx hl=>ZaM (Zv8 hJ ss (by exact hok)) Zxv rfl (Zk hS _ hk hx) (hx.1) (Za (hl.D 1 17 rfl rfl) Zd) (jo hJ hx)
   exact oX rfl fun hx hl=>ZI YG rfl (hl.env 1 1 _ rfl rfl) hx
   exact oX rfl fun hx hl=>ZD ZaP rfl (hl.D 3 19 rfl rfl) hx
   exact oX rfl fun hx hl=>Qx ZQ rfl (hl.D 4 20 rfl rfl) hx
   exact oX rfl fun hx hl=>ZfY (i:=ss.length) (j:=1) rfl (hl.D 5 21 rfl rfl) (Rel.of_lit (.int .i64 1)) sfz sfz hx
   exact oX rfl fun hx hl=>ZO (i:=((ss.length-1:Nat):Int)) Zy rfl (hl.D 2 18 rfl rfl) (hl.D 6 22 rfl rfl) nnn (ZW (xs:=(ZaK ss)) (k:=ss.length-1) sfz) rfl hx
   exact oX rfl fun hx hl=>ZD Q3 rfl (hl.D 7 23 rfl rfl) hx
   exact Zh rfl
   exact oX rfl fun hx hl=>YB rfl (hl.D 8 24 rfl rfl) hx
   exact fun _ O' _=>⟨rfl,fun _ _ _ hx _ _=>YB rfl (Rel.of_lit (.int .i64 0)) hx⟩
   case e6_1_0=>exact Zhe [[false,false]] (by kernel_rfl) rfl rfl rfl rfl ⟨fun _ _ w hk hx hl _=>Zl (Zo Q3 rfl (Zf hx (mo 0 rfl)) (hl.env 0 2 _ rfl rfl) rfl hx) fun v w' hp=>⟨v,(fun k' hk'=>by rcases k' with _ | _ | k'<;>first | rfl | cases hk'),fun _=>rfl,hp.1,Zct hJ hk hx hp.2.1⟩,trivial⟩
   case e6_1_1=>exact Zhe [[true,false]] (by kernel_rfl) rfl rfl rfl rfl ⟨fun g _ w hk hx hl _=>Zl (ZcS (off:=0) (es:=[_]) (c:=lI (n:Int)) hJ hJ0 QN rfl hk hx (hl.env 0 2 _ rfl rfl) (hl.D 0 16 rfl rfl) (lb rfl) rfl) fun v w' hp=>⟨g,fun _ _=>rfl,fun e=>(by cases e),True.intro,hp⟩,trivial⟩
   clear a w h
   intro x2
   dsimp only[List.map]
   refine nxD ?_
   refine dtw pm1 ?_
   refine Zqs ?_
   refine outD hJ hJ0 ?_
   exact fun a w h=>ZsC (m:=0) (q:=2) (z:=1) rfl Q3 h rfl rfl rfl (congrArg AV.int (show(n:Int)=(((post ss).length:Nat):Int)from by rw[r1_])) (congrArg AV.int (show(ge (ZaK ss) (ss.length-1))=ge (ZaK ss) (ss.length-1)from rfl)) (congrArg AV.int (show(0:Int)=0 from rfl))
  · exact fun s=>s.elim
  · exact fun v h=>by cases h
  · exact fun q=>q.elim
theorem Zpg (ss:List Stp) (hok:Okay ss):Fn prog J 25 [.agg (pfC ss)] (.int ((Zx ss):Nat)):=by
 refine fE Tryz.func25 fun S w0 hS hJ0=>?_
 refine tw Z7 (ZH tb hJ [1000] [.ptr (pfC ss),_] [0] [_] rfl ⟨iBo hS hJ,trivial⟩ ?_)
 refine ZH tb hJ [1006,1008] [_,.tup [.int ((post ss).length:Nat),.int (ge (ZaK ss) (ss.length-1)),.int 0],_,_,_,_,_,_,_] [1] U2 rfl ⟨iFo hS hJ (Zwj hJ ss (by exact hok)) ZxD,trivial⟩ ?_
 refine Zg (qso tb hJ [0,1001] U2 U2 ?_)
 refine cj 1 (fun hb1=>?_) fun hb1=>?_
 ·
  exact False.elim (by simp at hb1)
 ·
  refine Zc (nx (qso tb hJ [1001] U2 [_] ?_))
  exact tRo 0 (hE:=eI (by rw[Zh0 hok]))
theorem ZrZ (a':Stp) (b':Stp)  :Fn prog J 48 [.agg (spC (a')),.agg (spC (b'))] (.bool (decide (a'=b'))):=by
 refine fE Tryz.func48 fun S w0 hS hJ0=>?_
 clear hJ0
 refine hqs tb hJ [1000,1001] [.ptr (spC (a')),.ptr (spC (b')),_] [0,1] U2 rfl ⟨iBs hS hJ,iBs hS hJ,trivial⟩ ?_
 refine hqs tb hJ [1012] (V10 [.bool (decide (((a').args)=((b').args))),_,_]) [10] [_] rfl ⟨iFn hS hJ (Zlz hJ ((a').args) ((b').args)) ZqX,trivial⟩ ?_
 exact tRn 0 (hE:=eB (by rw[←ZvI]))
theorem ZgS (xs ys:List Stp) (f:FuncId) (caps:List AV) (Os:List OB) (hf:∀ q' r',FnR prog J f Os ([.agg (spC (q')),.agg (spC (r'))]++caps) (.bool (decide (q'=r')))) (hk0:Zi prog f):FnR prog J 47 Os [.rd (ZP xs),.rd (ZP ys),.fn f caps] (.bool (decide (xs=ys))):=by
 refine fER Tryz.func47 fun S w0 hS hJ0 hH=>?_
 refine tw Z7 (ln 0 fun hl1=>?_)
 refine ln 1 fun hl2=>?_
 refine qso tb hJ [0,1,2] [_] U3 ?_
 refine Zg (ZH tb hJ [0,1,2,1004] [_,.int (xs.length:Nat),_,.int (ys.length:Nat),_] [1,3] U4 rfl ⟨Yn ZQ,Yn ZQ,trivial⟩ ?_)
 refine cj 3 (fun hb1=>?_) fun hb1=>?_
 ·
  try simp at hb1
  refine qso tb hJ [1000] [_] [_] ?_
  exact tRo 0 (hE:=eB (by first | (have:=ZaY (xs:=xs) (ys:=ys) oz (fun j hj=>f1_2 j oz);simp[this];done) | (symm;rw[decide_eq_false_iff_not];intro e;subst e;simp_all;done)))
 ·
  try simp at hb1
  refine Zc (nx (Zg (ZH tb hJ [1,2,1000,1001,1002] [_,.int (xs.length:Nat),_] [1] U5 rfl ⟨Yn ZQ,trivial⟩ ?_)))
  refine Ze (lpo (ι:=Nat) (fun k=>(k≤xs.length)∧(∀ j,j<k→ge xs j=ge ys j)) (fun _=>[]) (fun k=>[(17,.int (k:Nat))]) (fun k=>xs.length-k) (r5 []) U4 0 ⟨nzl,fun j hj=>by omega⟩ ?_)
  rintro k ⟨f1_1,f1_2⟩
  refine qso tb hJ (r5 [1000]) [_] U6 ?_
  refine cjS 5 (fun hb2=>?_) fun hb2=>?_
  ·
   try simp at hb2
   refine Zc (nx (Zg (Ze (tsq (snK 1 tb rfl (sy (.ptr (spC (ge xs k))) (fun h=>ZO (i:=(k:Int)) Z4 rfl (h.get 3 rfl) (h.get 5 rfl) nnn (ZW (xs:=xs) (k:=k) sfz) rfl h.x) ?_))))))
   refine snK 1 tb rfl (Zw X5 hJ rfl rfl rfl (lb rfl) fun b1=>?_)
   refine snK 1 tb rfl (Zn (b:=b1) (off:=0) (es:=U2) (news:=U2) hJ hJ0 Qb rfl rfl rfl (lb rfl) rfl (fun a w h=>⟨(h.get 1 rfl),(h.get 2 rfl)⟩) ?_)
   refine seK [0,1,5,6,7,8,9] U7 rfl (nx (tsq ?_))
   refine snK 2 tb rfl (sy (.ptr (spC (ge ys k))) (fun h=>ZO (i:=(k:Int)) Z4 rfl (h.get 1 rfl) (h.get 0 rfl) nnn (ZW (xs:=ys) (k:=k) sfz) rfl h.x) ?_)
   refine snK 1 tb rfl (Zw X5 hJ rfl rfl rfl (lb rfl) fun b2=>?_)
   refine Zn (b:=b2) (off:=0) (es:=U2) (news:=U2) hJ hJ0 Qb rfl rfl rfl (lb rfl) rfl (fun a w h=>⟨(h.get 0 rfl),(h.get 1 rfl)⟩) ?_
   refine seK [0,6,7,8,9,10,11] U7 rfl (nx (ZH tb hJ [2,3,4,5,6,1004] [_,.agg (spC (ge xs k)),.agg (spC (ge ys k)),.bool (decide ((ge xs k)=(ge ys k))),_] [1,2,3] U6 rfl ⟨fun _ _ _ hx hl _=>Ye (ds:=[lS ((ge xs k).label),Z6 ((ge xs k).args)]) Zc2 rfl (Zf hx (mo 1 rfl)) (hl.env 1 8 _ rfl rfl) rfl rfl hx,fun _ _ _ hx hl _=>Ye (ds:=[lS ((ge ys k).label),Z6 ((ge ys k).args)]) Zc2 rfl (Zf hx (mo 0 rfl)) (hl.env 0 9 _ rfl rfl) rfl rfl hx,fun _ _ hk hx hl _=>Zay (hf (ge xs k) (ge ys k)) hk0 rfl (hl.D 0 26 rfl rfl) (Zk hS _ hk hx) (hx.1) (fun _ ho=>ZL hH hk hx ho) (Za (hl.D 1 27 rfl rfl) (Za (hl.D 2 28 rfl rfl) Zd)) (jo hJ hx),trivial⟩ ?_))
   refine cj 5 (fun hb3=>?_) fun hb3=>?_
   ·
    try simp at hb3
    refine qso tb hJ [1000] [_] [_] ?_
    exact tRo 0 (hE:=eB (by first | (have:=ZaY (xs:=xs) (ys:=ys) oz (fun j hj=>f1_2 j oz);simp[this];done) | (symm;rw[decide_eq_false_iff_not];intro e;subst e;simp_all;done)))
   ·
    try simp at hb3
    refine Zc (nx (YV tb hJ [0,1,2,3,1001] [.int (k+1:Nat),_] [0] U5 rfl ⟨YU,trivial⟩ ?_))
    refine kw ZB (kw ZB ?_)
    exact Xk (k+1) (r5 []) ⟨oz,Z5 f1_2 (by simpa using hb3)⟩
  ·
   try simp at hb2
   refine Zv (nx (qso tb hJ [1000] [_] [_] ?_))
   exact tRo 0 (hE:=eB (by first | (have:=ZaY (xs:=xs) (ys:=ys) oz (fun j hj=>f1_2 j oz);simp[this];done) | (symm;rw[decide_eq_false_iff_not];intro e;subst e;simp_all;done)))
theorem Zr3 (a:Int) (c:Chg)  :Fn prog J 66 [.int a,.ptr [lI c.reason,lI c.step,lS c.label,Z6 c.args,lI c.before,lI c.after]] (.bool (Zum c a)):=by
 refine fE Tryz.func66 fun S w0 hS hJ0=>?_
 clear hJ0
 refine qs tb hJ [0,1] [_] U2 ?_
 refine qs tb hJ [1008] U9 [_] ?_
 exact tRn 0 (hE:=eB (rfl))
theorem Zr4 (d:Db) (i:Nat) (ss:List Stp) (ts:List (List BA)) (M:Nat) (mm:List (BA×Int)) (gf:Fr) (al:List Int) (z:Int) (hW:JobW (⟨d,i,ss,ts,mm⟩:Jb)) (hgm:gf∈d.frames) (hgl:al.length=gf.hyps.length) (hin:∀ a∈al,0≤a∧a<z) (hz0:0≤z) (hz1:z< (ss.length:Int)):Fn prog J 68 [.ptr [Zb d.consts,Zb d.vars,Yy d.frames,lI (i:Int),ZP ss,Zp ts,lI (((Zx ss):Nat):Int),.lit (.map (some M))],.agg (frC gf),.rd (Z6 al),.int z] (.bool (Zdj (⟨d,i,ss,ts,mm⟩:Jb) gf al z.toNat)):=by
 obtain⟨step,rfl⟩:=Int.eq_ofNat_of_zero_le hz0
 have hl:ts.length=ss.length:=hW.len
 exact Zpb hJ d i ss ts M gf al step (hW.fl gf hgm) hW.hi (fun t ht=>(hW.ts t ht).1) (fun j hj=>by have:=hin _ (Zq hj);omega) hgl oz (hW.gh gf hgm) (fun h hh=>(hW.tx gf hgm h hh).2) hW.wd
theorem Zwa (d:Db) (i:Nat) (ss:List Stp) (ts:List (List BA)) (M:Nat) (mm:List (BA×Int)) (c:Chg) (hW:JobW (⟨d,i,ss,ts,mm⟩:Jb)) (hs0:0≤c.step) (hs1:c.step< (ss.length:Int)) (hcl:c.args.length≤40) (hre:c.reason=1∨c.reason=2):Fn prog J 33 [.ptr [Zb d.consts,Zb d.vars,Yy d.frames,lI (i:Int),ZP ss,Zp ts,lI (((Zx ss):Nat):Int),.lit (.map (some M))],.agg (chC c)] (.bool (ZaS (⟨d,i,ss,ts,mm⟩:Jb) c)):=by
 refine fE Tryz.func33 fun S w0 hS hJ0=>?_
 refine tw Z7 (ZH tb hJ [0,1000] [.ptr (chC c),_] [0] U2 rfl ⟨iBo hS hJ,trivial⟩ ?_)
 refine Zg (ZH tb hJ [0,1,1001,1003] [_,_,.fn 66 [.ptr (chC c)],.bool (c.args.any (Zum c))] [2,3] U4 rfl ⟨fun _ _ _ hx hl _=>YS (caps:=[(.tmp 3)]) rfl (Za (hl.env 1 3 _ rfl rfl) Zd) hx,fun _ _ hk hx hl _=>Y4 (Zbv hJ c.args 66 [.ptr (chC c)] [] (Zum c) (fun q'=>(Zr3 hJ q' c).rr) (Zxz)) ZqR rfl (Zk hS _ hk hx) (hx.1) Zr (Za (hl.D 1 9 rfl rfl) (Za (hl.D 2 10 rfl rfl) Zd)) (jo hJ hx),trivial⟩ ?_)
 refine ln 2 fun hl1=>?_
 refine cj 3 (fun hb1=>?_) fun hb1=>?_
 ·
  have eH:=ZsQ (j:=(⟨d,i,ss,ts,mm⟩:Jb)) (c:=c) hb1
  refine qso tb hJ [1000] [_] [_] ?_
  exact tRo 0 (hE:=eB (by first | (rw[eH];done) | (rw[eH];exact ZcM)))
 ·
  have hin:=Zp1 hb1
  have hlt:ts.length=ss.length:=hW.len
  have hdi:i<d.frames.length:=hW.hi
  refine Zc (nx (Zg (qso tb hJ [0,1,1002] U3 U3 ?_)))
  refine cj 2 (fun hb2=>?_) fun hb2=>?_
  ·
   try simp at hb2
   refine ZH tb hJ [0,1,1030] (V6 [.int (c.args.length:Nat),_,_,_,_,_,_,_,_,_,.ptr [lI (ge c.args 0)],_,.ptr [Zb (ge ts (ge c.args 0).toNat)],_,_,_,_,_,_,_,.ptr [Zb (ge ts c.step.toNat)],_,.bool (decide ((ge ts (ge c.args 0).toNat)=(ge ts c.step.toNat))),_,_]) [6,16,18,26,28] U3 rfl ⟨Yn YM,gIx (k:=0) Zy (hk:=fun(hc':(((!decide (c.label=(⟨#[]⟩:BA)))|| (!decide ((c.args.length:Int)=(1:Int))))==false)=true)=>by(try simp at hc');first | omega | (simp;omega) | grind[Zq]),fun _ _ _ hx hl hc=>ZO (i:=(ge c.args 0)) Yb rfl (hl.D 13 28 rfl hc) (hl.D 17 32 rfl hc) (by have hc':(((!decide (c.label=(⟨#[]⟩:BA)))|| (!decide ((c.args.length:Int)=(1:Int))))==false)=true:=hc;(try simp at hc');(first | omega | (simp;omega) | grind[Zq])) (Zda (xs:=ts) (i:=(ge c.args 0)) (by have hc':(((!decide (c.label=(⟨#[]⟩:BA)))|| (!decide ((c.args.length:Int)=(1:Int))))==false)=true:=hc;(try simp at hc');(first | omega | (simp;omega) | grind[Zq])) (by have hc':(((!decide (c.label=(⟨#[]⟩:BA)))|| (!decide ((c.args.length:Int)=(1:Int))))==false)=true:=hc;(try simp at hc');(first | omega | (simp;omega) | grind[Zq]))) rfl hx,fun _ _ _ hx hl hc=>ZO (i:=c.step) Yb rfl (hl.D 23 38 rfl hc) (hl.D 25 40 rfl hc) (by have hc':(((!decide (c.label=(⟨#[]⟩:BA)))|| (!decide ((c.args.length:Int)=(1:Int))))==false)=true:=hc;(try simp at hc');(first | omega | (simp;omega) | grind[Zq])) (Zda (xs:=ts) (i:=c.step) (by have hc':(((!decide (c.label=(⟨#[]⟩:BA)))|| (!decide ((c.args.length:Int)=(1:Int))))==false)=true:=hc;(try simp at hc');(first | omega | (simp;omega) | grind[Zq])) (by have hc':(((!decide (c.label=(⟨#[]⟩:BA)))|| (!decide ((c.args.length:Int)=(1:Int))))==false)=true:=hc;(try simp at hc');(first | omega | (simp;omega) | grind[Zq]))) rfl hx,iFo hS hJ (ZdR hJ (ge ts (ge c.args 0).toNat) (ge ts c.step.toNat)) Zhm,trivial⟩ ?_
   refine cj 2 (fun hb3=>?_) fun hb3=>?_
   ·
    have eH:ZaS (⟨d,i,ss,ts,mm⟩:Jb) c=false:=Zp0 (by rw[ZcL,if_pos hb2,decide_eq_false_iff_not];rintro⟨h1,h2,h3⟩;dsimp only at h3;simp[h1,h2,h3]at hb3)
    refine qso tb hJ [1000] [_] [_] ?_
    exact tRo 0 (hE:=eB (by first | (rw[eH];done) | (rw[eH];exact ZcM)))
   ·
    simp only[Bool.or_eq_false_iff,Bool.not_eq_false',decide_eq_true_eq]at hb3
    have hk3:ZcL (⟨d,i,ss,ts,mm⟩:Jb) c=true:=by rw[ZcL,if_pos hb2];exact decide_eq_true ⟨hb3.1.1,oz,hb3.2⟩
    have hc1:c.reason=2∨1≤c.args.length:=.inr oz
    have eH:=ZlR hb1 hk3
    refine Zc (nx (tsq (snK 2 tb rfl (sy (.tup [.agg (chC (X4 ss c)),.bool (decide ((((Y7 ss c).length:Nat):Int)< ((Zx ss:Nat):Int)))]) (fun h=>ZaM (Zpa hJ d i ss ts M c (by exact hW.ok) (by exact hs0) (by exact hs1) (by exact hin) (by exact hcl) (by exact hc1)) Zky rfl (Zk hS _ h.keep h.x) (h.x.1) (Za (h.get 1 rfl) (Za (h.get 0 rfl) Zd)) (jo hJ h.x)) ?_))))
    refine snK 3 tb rfl (Zw Y1 hJ rfl rfl rfl (lb rfl) fun b1=>?_)
    refine Zn (b:=b1) (off:=0) (es:=U6) (news:=U6) hJ hJ0 Qc rfl rfl rfl (lb rfl) rfl (fun a w h=>⟨(h.get 0 rfl),(h.get 2 rfl)⟩) ?_
    refine snK 1 tb rfl (seK [0,1,9] U3 rfl ?_)
    refine nx (ZH tb hJ [1015] [_,_,.at b1 4,.int ((X4 ss c).before),_,_,_,_,_,.at b1 5,.int ((X4 ss c).after),_,_,_,_,_] [2,3,9,10] [_] rfl ⟨fun _ _ _ hx hl _=>Zz ZbQ rfl (hl.env 1 6 _ rfl rfl) hx,fun _ _ _ hx hl hc=>Zo Q3 rfl (Zf hx (mo 0 rfl)) (hl.D 2 104 rfl hc) rfl hx,fun _ _ _ hx hl _=>Zz ZbP rfl (hl.env 1 6 _ rfl rfl) hx,fun _ _ _ hx hl hc=>Zo Q3 rfl (Zf hx (mo 0 rfl)) (hl.D 9 111 rfl hc) rfl hx,trivial⟩ ?_)
    exact tRo 0 (hE:=eB (by first | (rw[eH];done) | (rw[eH];exact ZcM)))
  ·
   try simp at hb2
   refine ZH tb hJ [0,1,1007] (V6 [.int (Yl d c.label),_]) [6] U3 rfl ⟨iFo hS hJ (ZuR hJ d c.label) ZqQ,trivial⟩ ?_
   refine ZH tb hJ [0,1,1042] (V13 [.int (c.args.length:Nat),_,_,_,_,_,_,.ptr (frC (ge d.frames (Yl d c.label).toNat)),_,_,.int (((ge d.frames (Yl d c.label).toNat).hyps).length:Nat),_,_,_,_,_,_,_,_,_,_,.ptr (frC (ge d.frames (Yl d c.label).toNat)),_,_,_,_,_,.bool (Zdj (⟨d,i,ss,ts,mm⟩:Jb) (ge d.frames (Yl d c.label).toNat) c.args c.step.toNat),_,_]) [13,20,23,34,40] U3 rfl ⟨Yn YM,fun _ _ _ hx hl hc=>ZO (i:=Yl d c.label) Yu rfl (hl.D 18 71 rfl hc) (hl.D 19 72 rfl hc) (by have hc':(((decide (Yl d c.label< (0:Int)))|| (decide ((i:Int)≤Yl d c.label)))==false)=true:=hc;(try simp at hc');(first | omega | (simp;omega) | grind[Zq])) (Zda (xs:=d.frames) (i:=Yl d c.label) (by have hc':(((decide (Yl d c.label< (0:Int)))|| (decide ((i:Int)≤Yl d c.label)))==false)=true:=hc;(try simp at hc');(first | omega | (simp;omega) | grind[Zq])) (by have hc':(((decide (Yl d c.label< (0:Int)))|| (decide ((i:Int)≤Yl d c.label)))==false)=true:=hc;(try simp at hc');(first | omega | (simp;omega) | grind[Zq]))) rfl hx,Yn ZE,fun _ _ _ hx hl hc=>ZO (i:=Yl d c.label) Yu rfl (hl.D 32 85 rfl hc) (hl.D 33 86 rfl hc) (by have hc':((((decide (Yl d c.label< (0:Int)))|| (decide ((i:Int)≤Yl d c.label)))|| (!decide ((c.args.length:Int)=((((ge d.frames (Yl d c.label).toNat).hyps).length:Nat):Int))))==false)=true:=hc;(try simp at hc');(first | omega | (simp;omega) | grind[Zq])) (Zda (xs:=d.frames) (i:=Yl d c.label) (by have hc':((((decide (Yl d c.label< (0:Int)))|| (decide ((i:Int)≤Yl d c.label)))|| (!decide ((c.args.length:Int)=((((ge d.frames (Yl d c.label).toNat).hyps).length:Nat):Int))))==false)=true:=hc;(try simp at hc');(first | omega | (simp;omega) | grind[Zq])) (by have hc':((((decide (Yl d c.label< (0:Int)))|| (decide ((i:Int)≤Yl d c.label)))|| (!decide ((c.args.length:Int)=((((ge d.frames (Yl d c.label).toNat).hyps).length:Nat):Int))))==false)=true:=hc;(try simp at hc');(first | omega | (simp;omega) | grind[Zq]))) rfl hx,fun _ _ hk hx hl hc=>ZaM (Zr4 hJ d i ss ts M mm (ge d.frames (Yl d c.label).toNat) c.args c.step (by have hc':((((decide (Yl d c.label< (0:Int)))|| (decide ((i:Int)≤Yl d c.label)))|| (!decide ((c.args.length:Int)=((((ge d.frames (Yl d c.label).toNat).hyps).length:Nat):Int))))==false)=true:=hc;(try simp at hc');(exact hW)) (by have hc':((((decide (Yl d c.label< (0:Int)))|| (decide ((i:Int)≤Yl d c.label)))|| (!decide ((c.args.length:Int)=((((ge d.frames (Yl d c.label).toNat).hyps).length:Nat):Int))))==false)=true:=hc;(try simp at hc');(first | omega | (simp;omega) | grind[Zq])) (by have hc':((((decide (Yl d c.label< (0:Int)))|| (decide ((i:Int)≤Yl d c.label)))|| (!decide ((c.args.length:Int)=((((ge d.frames (Yl d c.label).toNat).hyps).length:Nat):Int))))==false)=true:=hc;(try simp at hc');(first | omega | (simp;omega) | grind[Zq])) (by have hc':((((decide (Yl d c.label< (0:Int)))|| (decide ((i:Int)≤Yl d c.label)))|| (!decide ((c.args.length:Int)=((((ge d.frames (Yl d c.label).toNat).hyps).length:Nat):Int))))==false)=true:=hc;(try simp at hc');(exact hin)) (by have hc':((((decide (Yl d c.label< (0:Int)))|| (decide ((i:Int)≤Yl d c.label)))|| (!decide ((c.args.length:Int)=((((ge d.frames (Yl d c.label).toNat).hyps).length:Nat):Int))))==false)=true:=hc;(try simp at hc');(exact hs0)) (by have hc':((((decide (Yl d c.label< (0:Int)))|| (decide ((i:Int)≤Yl d c.label)))|| (!decide ((c.args.length:Int)=((((ge d.frames (Yl d c.label).toNat).hyps).length:Nat):Int))))==false)=true:=hc;(try simp at hc');(exact hs1))) Zkz rfl (Zk hS _ hk hx) (hx.1) (Za (hl.D 27 80 rfl hc) (Za (hl.D 35 88 rfl hc) (Za (hl.D 37 90 rfl hc) (Za (hl.D 39 92 rfl hc) Zd)))) (jo hJ hx),trivial⟩ ?_
   refine cj 2 (fun hb4=>?_) fun hb4=>?_
   ·
    have eH:ZaS (⟨d,i,ss,ts,mm⟩:Jb) c=false:=Zp0 (Bool.eq_false_iff.2 fun e=>by rw[ZcL,if_neg hb2,Bool.and_eq_true,decide_eq_true_eq]at e;obtain⟨⟨h1,h2,h3⟩,h4⟩:=e;dsimp only at h1 h2 h3 h4;simp[h3,h4]at hb4;omega)
    refine qso tb hJ [1000] [_] [_] ?_
    exact tRo 0 (hE:=eB (by first | (rw[eH];done) | (rw[eH];exact ZcM)))
   ·
    simp only[Bool.or_eq_false_iff,Bool.not_eq_false',decide_eq_true_eq,decide_eq_false_iff_not]at hb4
    have hk4:ZcL (⟨d,i,ss,ts,mm⟩:Jb) c=true:=by rw[ZcL,if_neg hb2,Bool.and_eq_true,decide_eq_true_eq];refine⟨⟨?_,?_,?_⟩,hb4.2⟩<;>(try dsimp only)<;>omega
    have hc1:c.reason=2∨1≤c.args.length:=.inl oz
    have eH:=ZlR hb1 hk4
    refine Zc (nx (tsq (snK 2 tb rfl (sy (.tup [.agg (chC (X4 ss c)),.bool (decide ((((Y7 ss c).length:Nat):Int)< ((Zx ss:Nat):Int)))]) (fun h=>ZaM (Zpa hJ d i ss ts M c (by exact hW.ok) (by exact hs0) (by exact hs1) (by exact hin) (by exact hcl) (by exact hc1)) Zky rfl (Zk hS _ h.keep h.x) (h.x.1) (Za (h.get 1 rfl) (Za (h.get 0 rfl) Zd)) (jo hJ h.x)) ?_))))
    refine snK 3 tb rfl (Zw Y1 hJ rfl rfl rfl (lb rfl) fun b2=>?_)
    refine Zn (b:=b2) (off:=0) (es:=U6) (news:=U6) hJ hJ0 Qc rfl rfl rfl (lb rfl) rfl (fun a w h=>⟨(h.get 0 rfl),(h.get 2 rfl)⟩) ?_
    refine snK 1 tb rfl (seK [0,1,9] U3 rfl ?_)
    refine nx (ZH tb hJ [1015] [_,_,.at b2 4,.int ((X4 ss c).before),_,_,_,_,_,.at b2 5,.int ((X4 ss c).after),_,_,_,_,_] [2,3,9,10] [_] rfl ⟨fun _ _ _ hx hl _=>Zz ZbQ rfl (hl.env 1 6 _ rfl rfl) hx,fun _ _ _ hx hl hc=>Zo Q3 rfl (Zf hx (mo 0 rfl)) (hl.D 2 104 rfl hc) rfl hx,fun _ _ _ hx hl _=>Zz ZbP rfl (hl.env 1 6 _ rfl rfl) hx,fun _ _ _ hx hl hc=>Zo Q3 rfl (Zf hx (mo 0 rfl)) (hl.D 9 111 rfl hc) rfl hx,trivial⟩ ?_)
    exact tRo 0 (hE:=eB (by first | (rw[eH];done) | (rw[eH];exact ZcM)))
end
theorem ZxI:Zi prog 33:=Zm Tryz.func33 rfl rfl
theorem ZxE:Zi prog 48:=Zm Tryz.func48 rfl rfl
theorem ZxO:Zi prog 10:=Zm Tryz.func10 rfl rfl
theorem ZxF:Zi prog 47:=Zm Tryz.func47 rfl rfl
section
variable {J:WP} (hJ:Stab J)
include hJ
theorem Zsm (d:Db) (z:Int) (ss:List Stp) (c:Chg) (hw:∀ f∈d.frames,f.wide.length*32≤140737488351232) (hG:Xm J) (hr:¬ ZF d z ss=0):Fn prog J 10 [.agg (dbC d),.int z,.agg (pfC ss),.agg (chC c)] (.tup [.agg (pfC ([]:List Stp)),.int (ZF d z ss)]):=by
 refine fE Tryz.func10 fun S w0 hS hJ0=>?_
 refine tw Z7 (tsq ?_)
 refine sy (.ptr (dbC d)) (fun h=>Q2 rfl (h.get 0 rfl) (Zk hS _ h.keep h.x _ nlr) (jo hJ h.x)) ?_
 refine sy (.ptr (pfC ss)) (fun h=>Q2 rfl (h.get 3 rfl) (Zk hS _ h.keep h.x _ nlr) (jo hJ h.x)) ?_
 refine sy (.ptr (chC c)) (fun h=>Q2 rfl (h.get 5 rfl) (Zk hS _ h.keep h.x _ nlr) (jo hJ h.x)) ?_
 refine Zw XT hJ rfl rfl rfl (lb rfl) fun b1=>?_
 refine snK 1 tb rfl (seK [1,2,3,4,6] U5 rfl ?_)
 refine nx (ZH tb hJ [0,1,2,1007,1008] (V3 [.tup [.rd (.lit (.pointer none)),.int (ZF d z ss)],_,_,_,_,_]) [3] U5 rfl ⟨iFo hS hJ (ZdQ hJ d z ss (by exact hw) (by exact hG) (by exact hr)) Zbi,trivial⟩ ?_)
 refine Zg (Ze (qso tb hJ (r5 [1002]) U3 U6 ?_))
 refine cj 5 (fun hb1=>?_) fun hb1=>?_
 ·
  refine tsq (sy (.agg (pfC ([]:List Stp))) (fun h=>Y8 (ps:=[]) (us:=[.slice none 0 0]) Za0 rfl yz Zjr rfl (X2 (.nil _ _ nzl) Z2) h.x) ?_)
  refine snK 1 tb rfl (Zn (b:=b1) (off:=0) (es:=[_]) (news:=[_]) hJ hJ0 Yt rfl rfl rfl (lb rfl) rfl (fun a w h=>⟨(h.get 2 rfl),(h.get 1 rfl)⟩) ?_)
  refine snK 1 tb rfl (seK [0,3] U2 rfl ?_)
  exact nx (Zt (fun a w h=>Zaz (m:=1) (q:=0) rfl Z8 h rfl rfl rfl rfl rfl))
 ·
  exact False.elim (hr (by simpa using hb1))
theorem Zsl (d:Db) (z:Int) (ss:List Stp) (c:Chg) (hw:∀ f∈d.frames,f.wide.length*32≤140737488351232) (hG:Xm J) (hr:ZF d z ss=0) (h16:ss.length≤16) (hf16:d.frames.length≤16) (hcl:c.args.length≤40):Fn prog J 10 [.agg (dbC d),.int z,.agg (pfC ss),.agg (chC c)] (.tup [.agg (pfC ((YX d z ss c).1)),.int ((YX d z ss c).2)]):=by
 refine fE Tryz.func10 fun S w0 hS hJ0=>?_
 refine tw Z7 (tsq ?_)
 refine sy (.ptr (dbC d)) (fun h=>Q2 rfl (h.get 0 rfl) (Zk hS _ h.keep h.x _ nlr) (jo hJ h.x)) ?_
 refine sy (.ptr (pfC ss)) (fun h=>Q2 rfl (h.get 3 rfl) (Zk hS _ h.keep h.x _ nlr) (jo hJ h.x)) ?_
 refine sy (.ptr (chC c)) (fun h=>Q2 rfl (h.get 5 rfl) (Zk hS _ h.keep h.x _ nlr) (jo hJ h.x)) ?_
 refine Zw XT hJ rfl rfl rfl (lb rfl) fun b1=>?_
 refine snK 1 tb (env':=[(9,_),(8,_),(7,_),(6,_),(4,_),(0,_),(1,_),(2,_),(3,_)]) rfl (seK [1,2,3,4,6] U5 rfl ?_)
 refine nx (tsq (snK 3 tb (env':=[(15,_),(14,_),(13,_),(8,_),(7,_),(6,_),(4,_),(1,_)]) rfl (QL (O:=[]) (R:=[OB.var b1 [ZP ([]:List Stp)]]) (ZeB hJ d z ss (by exact hw) (by exact hG) (by exact hr)) Zbi rfl rfl rfl (lb rfl) hS hJ0 Zr (fun a w h=>(Za (h.get 2 rfl) (Za (h.get 1 rfl) (Za (h.get 0 rfl) Zd)))) fun z2=>?_)))
 refine snK 5 tb (env':=[(11,_),(10,_),(18,_),(17,_),(12,_),(16,_),(15,_),(14,_),(13,_),(8,_),(7,_),(6,_),(4,_),(1,_)]) rfl (seK [0,1,9,10,11] U5 rfl ?_)
 refine nx (Zg (Ze (qso tb hJ (r5 [1002]) U3 U6 ?_)))
 refine cj 5 (fun hb1=>?_) fun hb1=>?_
 ·
  exact False.elim (by simp at hb1)
 ·
  refine qso tb hJ [1,2,3,4,1008] U9 U5 ?_
  refine cj 4 (fun hb2=>?_) fun hb2=>?_
  ·
   have eA:YX d z ss c=([],1):=by rw[YX,if_neg (by simp[hr]),if_pos (by simpa using hb2)]
   refine tsq (sy (.agg (pfC ([]:List Stp))) (fun h=>Y8 (ps:=[]) (us:=[.slice none 0 0]) Za0 rfl yz Zjr rfl (X2 (.nil _ _ nzl) Z2) h.x) ?_)
   refine kw pm1 (Zn (b:=b1) (off:=0) (es:=[_]) (news:=[_]) hJ hJ0 Yt rfl rfl rfl (lb rfl) rfl (fun a w h=>⟨(h.get 2 rfl),(h.get 0 rfl)⟩) ?_)
   refine snK 1 tb (env':=[(9,_),(33,_),(10,_),(8,_),(7,_),(6,_),(24,_)]) rfl (seK [0,3] U2 rfl ?_)
   exact nx (Zt (fun a w h=>Zaz (m:=1) (q:=0) rfl Z8 h rfl rfl (show(_:List CD)=[ZP ((YX d z ss c).1)]from by(rw[eA])<;>rfl) rfl (eI (by rw[eA]))))
  ·
   have hre0:¬ (¬ c.reason=1∧¬ c.reason=2):=by simpa using hb2
   have hre:c.reason=1∨c.reason=2:=by omega
   refine ZH tb hJ [0,1,2,3,1011] (V8 [.int (ss.length:Nat),_,_,_]) [8] U5 rfl ⟨Yn ZQ,trivial⟩ ?_
   refine cj 4 (fun hb3=>?_) fun hb3=>?_
   ·
    have eA:YX d z ss c=([],3):=by rw[YX,if_neg (by simp[hr]),if_neg hre0,if_pos (by simpa using hb3)]
    refine tsq (sy (.agg (pfC ([]:List Stp))) (fun h=>Y8 (ps:=[]) (us:=[.slice none 0 0]) Za0 rfl yz Zjr rfl (X2 (.nil _ _ nzl) Z2) h.x) ?_)
    refine kw pm1 (Zn (b:=b1) (off:=0) (es:=[_]) (news:=[_]) hJ hJ0 Yt rfl rfl rfl (lb rfl) rfl (fun a w h=>⟨(h.get 2 rfl),(h.get 0 rfl)⟩) ?_)
    refine snK 1 tb (env':=[(9,_),(46,_),(10,_),(8,_),(7,_),(6,_),(34,_)]) rfl (seK [0,3] U2 rfl ?_)
    exact nx (Zt (fun a w h=>Zaz (m:=1) (q:=0) rfl Z8 h rfl rfl (show(_:List CD)=[ZP ((YX d z ss c).1)]from by(rw[eA])<;>rfl) rfl (eI (by rw[eA]))))
   ·
    have hs0:0≤c.step∧c.step< (ss.length:Int):=by simpa using hb3
    refine ZH tb hJ [1,2,3,1004] [_,_,.bool (ZaS (⟨d,z.toNat,ss,((Yq d z ss).1),(ZaX (Yq d z ss).1 (Yq d z ss).1.length)⟩:Jb) c),_,_] [2] U4 rfl ⟨iFo hS hJ (Zwa hJ d z.toNat ss ((Yq d z ss).1) z2 (ZaX (Yq d z ss).1 (Yq d z ss).1.length) c (by exact Zg6 hr h16 hf16 hw) (by exact hs0.1) (by exact hs0.2) (by exact hcl) (by exact hre)) ZxI,trivial⟩ ?_
    refine cj 3 (fun hb4=>?_) fun hb4=>?_
    ·
     have eA:YX d z ss c=([],260):=by rw[YX,if_neg (by simp[hr]),if_neg hre0,if_neg oz,if_pos (show ZaS (jbG d z ss) c=false by simpa [jbG]using hb4)]
     refine tsq (sy (.agg (pfC ([]:List Stp))) (fun h=>Y8 (ps:=[]) (us:=[.slice none 0 0]) Za0 rfl yz Zjr rfl (X2 (.nil _ _ nzl) Z2) h.x) ?_)
     refine kw pm1 (Zn (b:=b1) (off:=0) (es:=[_]) (news:=[_]) hJ hJ0 Yt rfl rfl rfl (lb rfl) rfl (fun a w h=>⟨(h.get 1 rfl),(h.get 0 rfl)⟩) ?_)
     refine snK 1 tb (env':=[(9,_),(52,_),(8,_),(7,_),(6,_),(47,_)]) rfl (seK [0,2] U2 rfl ?_)
     exact nx (Zt (fun a w h=>Zaz (m:=1) (q:=0) rfl Z8 h rfl rfl (show(_:List CD)=[ZP ((YX d z ss c).1)]from by(rw[eA])<;>rfl) rfl (eI (by rw[eA]))))
    ·
     have hh:ZaS (jbG d z ss) c=true:=by simpa [jbG]using hb4
     have hkd:=ZiR hh
     have hkd1:=ZsI hkd.2.1
     have hc1:c.reason=2∨1≤c.args.length:=by omega
     have eA:YX d z ss c=(Y7 ss c,0):=by rw[YX,if_neg (by simp[hr]),if_neg hre0,if_neg oz,if_neg (by simp[hh])]
     refine Zc (nx (tsq (snK 2 tb (env':=[(54,_),(53,_),(8,_),(7,_),(6,_),(47,_)]) rfl (sy (.agg (pfC (Y7 ss c))) (fun h=>ZaM (ZeD hJ ss c (by exact(ZfB hr).2) (by exact hs0.1) (by exact hs0.2) (by exact hkd.1) (by exact hcl) (by exact hc1)) ZkD rfl (Zk hS _ h.keep h.x) (h.x.1) (Za (h.get 1 rfl) (Za (h.get 0 rfl) Zd)) (jo hJ h.x)) ?_))))
     refine kw pm1 (Zn (b:=b1) (off:=0) (es:=[_]) (news:=[_]) hJ hJ0 Yt rfl rfl rfl (lb rfl) rfl (fun a w h=>⟨(h.get 3 rfl),(h.get 0 rfl)⟩) ?_)
     refine snK 1 tb (env':=[(9,_),(55,_),(54,_),(53,_),(8,_),(7,_),(6,_),(47,_)]) rfl (seK [0,4] U2 rfl ?_)
     exact nx (Zt (fun a w h=>Zaz (m:=1) (q:=0) rfl Z8 h rfl rfl (show(_:List CD)=[ZP ((YX d z ss c).1)]from by(rw[eA])<;>rfl) rfl (eI (by rw[eA]))))
theorem Zsn (d:Db) (z:Int) (ss:List Stp) (c:Chg) (hw:∀ f∈d.frames,f.wide.length*32≤140737488351232) (hG:Xm J) (h16:ss.length≤16) (hf16:d.frames.length≤16) (hcl:c.args.length≤40):Fn prog J 10 [.agg (dbC d),.int z,.agg (pfC ss),.agg (chC c)] (.tup [.agg (pfC ((YX d z ss c).1)),.int ((YX d z ss c).2)]):=by
 by_cases hr:ZF d z ss=0
 · exact Zsl hJ d z ss c hw hG hr h16 hf16 hcl
 · have e:YX d z ss c=([],ZF d z ss):=if_pos hr
   rw[e]
   exact Zsm hJ d z ss c hw hG hr
theorem Zsi (d:Db) (z:Int) (ss qs:List Stp) (L:List Chg) (hw:∀ f∈d.frames,f.wide.length*32≤140737488351232) (hG:Xm J) (hr:¬ ZF d z ss=0):Fn prog J 18 [.agg (dbC d),.int z,.agg (pfC ss),.agg (pfC qs),.rd (Zfi L)] (.tup [.int 0,.int (ZF d z ss)]):=by
 refine fE Tryz.func18 fun S w0 hS hJ0=>?_
 refine tw Z7 (ln 4 fun hl1=>?_)
 refine tsq (sy (.ptr (dbC d)) (fun h=>Q2 rfl (h.get 0 rfl) (Zk hS _ h.keep h.x _ nlr) (jo hJ h.x)) ?_)
 refine Zcf (cs:=[ZP ss]) hJ rfl rfl rfl (lb rfl) (fun a w h=>(h.get 3 rfl)) fun b1=>?_
 refine sy (.ptr (pfC qs)) (fun h=>Q2 rfl (h.get 5 rfl) (Zk hS _ h.keep h.x _ nlr) (jo hJ h.x)) ?_
 refine snK 2 tb rfl (seK [2,3,4,6,9] U5 rfl ?_)
 refine nx (Zg (ZH tb hJ (r5 [1008]) [_,_,.agg (pfC ss),.tup [.rd (.lit (.pointer none)),.int (ZF d z ss)],_,_,_,_,_] [2,3] U6 rfl ⟨fun _ _ _ hx hl _=>Ye (ds:=[ZP ss]) Z8 rfl (Zf hx (mo 0 rfl)) (hl.env 1 7 _ rfl rfl) rfl rfl hx,iFo hS hJ (ZdQ hJ d z ss (by exact hw) (by exact hG) (by exact hr)) Zbi,trivial⟩ ?_))
 refine qso tb hJ (r6 [1001]) U2 U7 ?_
 refine cj 6 (fun hb1=>?_) fun hb1=>?_
 ·
  refine qso tb hJ [1001,1002] U3 U2 ?_
  exact Zt (fun a w h=>YA (m:=0) (k:=1) rfl (Z0 h) rfl rfl (eI (rfl)) rfl)
 ·
  exact False.elim (hr (by simpa using hb1))
theorem Zsh (d:Db) (z:Int) (ss qs:List Stp) (L:List Chg) (hw:∀ f∈d.frames,f.wide.length*32≤140737488351232) (hG:Xm J) (hr:ZF d z ss=0) (h16:ss.length≤16) (hf16:d.frames.length≤16) (hcL:∀ c∈L,c.args.length≤40):Fn prog J 18 [.agg (dbC d),.int z,.agg (pfC ss),.agg (pfC qs),.rd (Zfi L)] (.tup [.int ((ckG d z ss qs L).1),.int ((ckG d z ss qs L).2)]):=by
 refine fE Tryz.func18 fun S w0 hS hJ0=>?_
 refine tw Z7 (ln 4 fun hl1=>?_)
 refine tsq (sy (.ptr (dbC d)) (fun h=>Q2 rfl (h.get 0 rfl) (Zk hS _ h.keep h.x _ nlr) (jo hJ h.x)) ?_)
 refine Zcf (cs:=[ZP ss]) hJ rfl rfl rfl (lb rfl) (fun a w h=>(h.get 3 rfl)) fun b1=>?_
 refine sy (.ptr (pfC qs)) (fun h=>Q2 rfl (h.get 5 rfl) (Zk hS _ h.keep h.x _ nlr) (jo hJ h.x)) ?_
 refine snK 2 tb (env':=[(11,_),(10,_),(8,_),(7,_),(5,_),(0,_),(1,_),(2,_),(3,_),(4,_)]) rfl (seK [2,3,4,6,9] U5 rfl ?_)
 refine nx (Zg (tsq (snK 2 tb (env':=[(20,_),(19,_),(8,_),(7,_),(5,_),(1,_),(4,_)]) rfl (sy (.agg (pfC ss)) (fun h=>Ye (ds:=[ZP ss]) Z8 rfl (Zf h.x (mo 0 rfl)) (h.get 3 rfl) rfl rfl h.x) ?_))))
 refine QL (O:=[]) (R:=[OB.var b1 [ZP ss]]) (ZeB hJ d z ss (by exact hw) (by exact hG) (by exact hr)) Zbi rfl rfl rfl (lb rfl) hS hJ0 Zr (fun a w h=>(Za (h.get 2 rfl) (Za (h.get 1 rfl) (Za (h.get 0 rfl) Zd)))) fun z2=>?_
 refine snK 5 tb (env':=[(13,_),(12,_),(24,_),(23,_),(18,_),(22,_),(21,_),(20,_),(19,_),(8,_),(7,_),(5,_),(1,_),(4,_)]) rfl (seK [0,9,10,11,12,13] U6 rfl ?_)
 refine nx (qso tb hJ (r6 [1001]) U2 U7 ?_)
 refine cj 6 (fun hb1=>?_) fun hb1=>?_
 ·
  exact False.elim (by simp at hb1)
 ·
  refine Zc (nx (Zg (ZH tb hJ [1,2,3,4,5,1000,1001,1002] [_,.int (L.length:Nat),_] [1] U8 rfl ⟨Yn YQ,trivial⟩ ?_)))
  refine Ze (lpo (ι:=Nat×(List Stp)) (fun(k,cur)=>(k≤L.length)∧(cur.length≤16)∧(QI d z qs 0 ss L=QI d z qs k cur (L.drop k))) (fun(_,cur)=>[OB.mI z2 (ZaX (Yq d z ss).1 (Yq d z ss).1.length),OB.var b1 [ZP cur]]) (fun(k,_)=>[(30,.int (k:Nat))]) (fun(k,_)=>L.length-k) (r8 []) U7 (0,ss) ⟨nzl,h16,rfl⟩ ?_)
  rintro⟨k,cur⟩ ⟨f1_1,f1_2,f1_3⟩
  refine qso tb hJ (r8 [1000]) [_] U9 ?_
  refine cjS 8 (fun hb2=>?_) fun hb2=>?_
  ·
   try simp at hb2
   refine Zc (nx (Zg (Ze (tsq (snK 1 tb (env':=[(32,_),(8,_),(7,_),(5,_),(1,_),(4,_),(28,_),(29,_),(30,_),(31,_)]) rfl (sy (.ptr (chC (ge L k))) (fun h=>ZO (i:=(k:Int)) YP rfl (h.get 6 rfl) (h.get 8 rfl) nnn (ZW (xs:=L) (k:=k) sfz) rfl h.x) ?_))))))
   refine snK 1 tb (env':=[(34,_),(33,_),(32,_),(8,_),(7,_),(5,_),(1,_),(4,_),(28,_),(29,_),(30,_),(31,_)]) rfl (Zw Y1 hJ rfl rfl rfl (lb rfl) fun b3=>?_)
   refine snK 1 tb (env':=[(14,_),(15,_),(34,_),(33,_),(32,_),(8,_),(7,_),(5,_),(1,_),(4,_),(28,_),(29,_),(30,_),(31,_)]) rfl (Zn (b:=b3) (off:=0) (es:=U6) (news:=U6) hJ hJ0 Qc rfl rfl rfl (lb rfl) rfl (fun a w h=>⟨(h.get 1 rfl),(h.get 2 rfl)⟩) ?_)
   refine seK [0,1,5,6,7,8,9,10,11,12] U10 rfl (nx (tsq ?_))
   refine snK 2 tb (env':=[(37,_),(36,_),(14,_),(15,_),(8,_),(7,_),(5,_),(1,_),(4,_),(28,_),(29,_),(30,_)]) rfl (sy (.agg (pfC cur)) (fun h=>Ye (ds:=[ZP cur]) Z8 rfl (Zf h.x (mo 2 rfl)) (h.get 5 rfl) rfl rfl h.x) ?_)
   refine sy (.agg (chC (ge L k))) (fun h=>Ye (ds:=[lI ((ge L k).reason),lI ((ge L k).step),lS ((ge L k).label),Z6 ((ge L k).args),lI ((ge L k).before),lI ((ge L k).after)]) Qi rfl (Zf h.x (mo 0 rfl)) (h.get 4 rfl) rfl rfl h.x) ?_
   refine sy (.tup [.agg (pfC ((YX d z cur (ge L k)).1)),.int ((YX d z cur (ge L k)).2)]) (fun h=>ZaM (Zsn hJ d z cur (ge L k) (by exact hw) (by exact hG) (by exact f1_2) (by exact hf16) (by exact hcL _ (Zq oz))) ZxO rfl (Zk hS _ h.keep h.x) (h.x.1) (Za (h.get 3 rfl) (Za (h.get 2 rfl) (Za (h.get 1 rfl) (Za (h.get 0 rfl) Zd)))) (jo hJ h.x)) ?_
   refine snK 3 tb (env':=[(42,_),(41,_),(35,_),(40,_),(39,_),(38,_),(37,_),(36,_),(14,_),(15,_),(8,_),(7,_),(5,_),(1,_),(4,_),(28,_),(29,_),(30,_)]) rfl (Zw XT hJ rfl rfl rfl (lb rfl) fun b4=>?_)
   refine Zn (b:=b4) (off:=0) (es:=[_]) (news:=[_]) hJ hJ0 Yt rfl rfl rfl (lb rfl) rfl (fun a w h=>⟨(h.get 0 rfl),(h.get 2 rfl)⟩) ?_
   refine snK 1 tb (env':=[(17,_),(16,_),(42,_),(41,_),(35,_),(40,_),(39,_),(38,_),(37,_),(36,_),(14,_),(15,_),(8,_),(7,_),(5,_),(1,_),(4,_),(28,_),(29,_),(30,_)]) rfl (seK [0,1,10,12,13,14,15,16,17,18,19] U11 rfl ?_)
   refine nx (Zg (qso tb hJ (r11 [1001]) U2 U12 ?_))
   refine cj 11 (fun hb3=>?_) fun hb3=>?_
   ·
    try simp at hb3
    have eC:ckG d z ss qs L=((k:Int),(YX d z cur (ge L k)).2):=by rw[ckG,if_pos hr,f1_3,Zvc oz,if_neg (by simpa using hb3)]
    refine qso tb hJ [1002,1003] U4 U2 ?_
    exact Zt (fun a w h=>YA (m:=0) (k:=1) rfl (Z0 h) rfl rfl (eI (by rw[eC])) (eI (by rw[eC])))
   ·
    try simp at hb3
    refine Zc (nx (ZR (sq (.agg (pfC ((YX d z cur (ge L k)).1))) rfl rfl (lb rfl) (fun _ _ h=>Ye (ds:=[ZP ((YX d z cur (ge L k)).1)]) Z8 rfl (Zf h.x (mo 0 rfl)) (h.get 1 rfl) rfl rfl h.x) ?_)))
    refine kw pm3 (Zn (b:=b1) (off:=0) (es:=[_]) (news:=[_]) hJ hJ0 Yt rfl rfl rfl (lb rfl) rfl (fun a w h=>⟨(h.get 5 rfl),(h.get 0 rfl)⟩) ?_)
    refine seK [4,5,6,7,8,9,10,11] U8 rfl (nx (YV tb hJ (r7 [1001]) [.int (k+1:Nat),_] [0] U8 rfl ⟨YU,trivial⟩ ?_))
    refine kw pm1 (kw ZB ?_)
    refine kw pm1 (kw ZB ?_)
    exact kw pm1 (Xk ((k+1),((YX d z cur (ge L k)).1)) (r8 []) ⟨oz,by exact Nat.le_trans Zq7 f1_2,by rw[f1_3,Zvc oz,if_pos (by simpa using hb3)]⟩)
  ·
   try simp at hb2
   have ek:k=L.length:=by omega
   refine Zv (nx (Zg (ZH tb hJ [4,1001,1003,1005] [.at b1 0,.rd (ZP cur),_,_,.bool (decide (cur=qs)),_] [0,1,4] U4 rfl ⟨fun _ _ _ hx hl _=>Zz YG rfl (hl.env 1 7 _ rfl rfl) hx,fun _ _ _ hx hl _=>Zo ZaP rfl (Zf hx (mo 1 rfl)) (hl.D 0 49 rfl rfl) rfl hx,fun _ _ hk hx hl _=>Y4 (ZgS hJ cur qs 48 [] [] (fun q' r'=>(ZrZ hJ q' r').rr) (ZxE)) ZxF rfl (Zk hS _ hk hx) (hx.1) Zr (Za (hl.D 1 50 rfl rfl) (Za (hl.D 3 52 rfl rfl) (Za (Qu 48) Zd))) (jo hJ hx),trivial⟩ ?_)))
   refine ln 1 fun hl2=>?_
   refine ln 2 fun hl3=>?_
   refine cj 3 (fun hb4=>?_) fun hb4=>?_
   ·
    try simp at hb4
    have eC:ckG d z ss qs L=((L.length:Int),261):=by rw[ckG,if_pos hr,f1_3,ZqH ek,if_neg (by simpa using hb4),ek]
    refine ZH tb hJ [1002,1003] [_,.int (L.length:Nat),_,_] [1] U2 rfl ⟨Yn YQ,trivial⟩ ?_
    exact Zt (fun a w h=>YA (m:=0) (k:=1) rfl (Z0 h) rfl rfl (eI (by rw[eC])) (eI (by rw[eC])))
   ·
    try simp at hb4
    have eC:ckG d z ss qs L=((L.length:Int),0):=by rw[ckG,if_pos hr,f1_3,ZqH ek,if_pos (by simpa using hb4),ek]
    refine Zc (nx (ZH tb hJ [1002,1003] [_,.int (L.length:Nat),_,_] [1] U2 rfl ⟨Yn YQ,trivial⟩ ?_))
    exact Zt (fun a w h=>YA (m:=0) (k:=1) rfl (Z0 h) rfl rfl (eI (by rw[eC])) (eI (by rw[eC])))
theorem ZlB (d:Db) (z:Int) (ss qs:List Stp) (L:List Chg) (hw:∀ f∈d.frames,f.wide.length*32≤140737488351232) (hG:Xm J) (h16:ss.length≤16) (hf16:d.frames.length≤16) (hcL:∀ c∈L,c.args.length≤40):Fn prog J 18 [.agg (dbC d),.int z,.agg (pfC ss),.agg (pfC qs),.rd (Zfi L)] (.tup [.int ((ckG d z ss qs L).1),.int ((ckG d z ss qs L).2)]):=by
 by_cases hr:ZF d z ss=0
 · exact Zsh hJ d z ss qs L hw hG hr h16 hf16 hcL
 · have e:ckG d z ss qs L=(0,ZF d z ss):=if_neg hr
   rw[e]
   exact Zsi hJ d z ss qs L hw hG hr
end
theorem ZqY:Zi prog 25:=Zm Tryz.func25 rfl rfl
theorem ZqZ:Zi prog 18:=Zm Tryz.func18 rfl rfl
theorem Zvu:prog.underlying 3=some (.int .i64):=by kernel_rfl
theorem Zvv:prog.underlying 34=some (.int .i64):=by kernel_rfl
theorem Zn2:(prog.fieldsOf 64).toList=[{ name:= "Code",type:=34,offset:=0,embedded:=false,tag:= "",pkgPath:= "",byteOffset:=0 }, { name:= "Step",type:=3,offset:=1,embedded:=false,tag:= "",pkgPath:= "",byteOffset:=8 }]:=by kernel_rfl
theorem Zn1:prog.underlying 64=some (.struct (prog.fieldsOf 64)):=by kernel_rfl
theorem Zh4 (c:Array Value) (i:Nat) (v:Value) (h:c[i]?=some v) (w:World):(part 3 c i).run prog w= .ok v w:=by
 simp[part,Tryz.isAgg3,h]
theorem Zh5 (c:Array Value) (i:Nat) (v:Value) (h:c[i]?=some v) (w:World):(part 34 c i).run prog w= .ok v w:=by
 simp[part,Tryz.isAgg34,h]
theorem eqVd:EqVd prog 64:=by
 intro a b c d w x y
 refine⟨by simp[eqGuard],by simp[eqGuard],?_⟩
 unfold Op.equal Op.maxDepth
 rw[run_equalIn_struct w 9999 64 _ _ Zn1 (by kernel_rfl),Zn2]
 have e1:=fun(c:Array Value) (v:Value) (i:Nat) (h:c[i]?=some v)=>Zh5 c i v h
 have e2:=fun(c:Array Value) (v:Value) (i:Nat) (h:c[i]?=some v)=>Zh4 c i v h
 have q1:(Op.equalIn 9999 34 (.int .i64 a) (.int .i64 c)).run prog w= .ok (decide (a=c)) w:=run_equalIn_int w 9998 34 .i64 .i64 a c Zvv
 have q2:(Op.equalIn 9999 3 (.int .i64 b) (.int .i64 d)).run prog w= .ok (decide (b=d)) w:=run_equalIn_int w 9998 3 .i64 .i64 b d Zvu
 simp only[Op.eqFields]
 rw[if_pos dz,if_pos dz]
 simp only[Sem.run_bind]
 rw[e1 _ (.int .i64 a) 0 rfl w,Result.andThen_ok,e1 _ (.int .i64 c) 0 rfl w,Result.andThen_ok,q1,Result.andThen_ok]
 by_cases h1:a=c
 · simp only[h1,decide_true,Bool.not_true,Bool.false_eq_true,if_false,Sem.run_bind]
   rw[e2 _ (.int .i64 b) 1 rfl w,Result.andThen_ok,e2 _ (.int .i64 d) 1 rfl w,Result.andThen_ok,q2,Result.andThen_ok]
   by_cases h2:b=d
   · simp[h2,Sem.run_pure]
   · simp[h2,Sem.run_pure]
 · simp[h1,Sem.run_pure]
theorem ZiG {J:WP} (hJ:Stab J) (d:Db) (z:Int) (ss:List Stp) (most:UInt8) (hw:∀ f∈d.frames,f.wide.length*32≤140737488351232) (hG:Xm J):Fn prog J 7 [.agg (dbC d),.int z,.agg (pfC ss),.rd (.lit (.int .u8 (most.toNat:Int)))] (.bool true):=by
 refine fE Tryz.func7 fun S w0 hS hJ0=>?_
 refine tw Z7 ?_
 have hmu:most.toNat≤255:=by have:=most.toNat_lt;omega
 refine ZH tb hJ [1,3,1000,1001] [.ptr (dbC d),.ptr (pfC ss),_] [0,1] U4 rfl ⟨iBo hS hJ,iBo hS hJ,trivial⟩ ?_
 refine Zg (ZH tb hJ [0,1,2,3,1003] [_,_,.bool (fewN d ss),_] [2] U5 rfl ⟨iFo hS hJ (w_few hJ d ss) call_8,trivial⟩ ?_)
 refine cj 4 (fun hb1=>?_) fun hb1=>?_
 ·
  try simp at hb1
  refine ZH tb hJ [1001] [.bool true,_] [0] [_] rfl ⟨iFo hS hJ (Zcn hJ  (by exact hG)) Zme,trivial⟩ ?_
  exact tRo 0 (hE:=rfl)
 ·
  try simp at hb1
  have hfl:=Zs7 hb1
  have hcL:=Zpw (d:=d) (z:=z) (ss:=ss) (most:=most.toNat) hfl.2 hw hfl.1
  refine Zc (nx (tsq (snK 4 tb (env':=[(29,_),(28,_),(27,_),(26,_),(1,_),(3,_),(4,_),(6,_),(23,_)]) rfl (sy (.int (most.toNat:Nat)) (fun h=>ZoP Zei QV rfl (h.get 0 rfl) h.x) ?_))))
  refine sy (.tup [.agg (pfC ((Y6 d z ss most.toNat).1)),.rd (Zfi ((Y6 d z ss most.toNat).2.1)),.int ((Y6 d z ss most.toNat).2.2)]) (fun h=>ZaM (Zj4 hJ d z ss most.toNat (by exact hw) (by exact hG) (by exact hfl.1) (by exact hfl.2) oz) ZxN rfl (Zk hS _ h.keep h.x) (h.x.1) (Za (h.get 4 rfl) (Za (h.get 3 rfl) (Za (h.get 2 rfl) (Za (h.get 0 rfl) Zd)))) (jo hJ h.x)) ?_
  refine snK 4 tb (env':=[(34,_),(33,_),(32,_),(25,_),(31,_),(30,_),(29,_),(28,_),(27,_),(26,_),(1,_),(3,_),(4,_),(6,_),(23,_)]) rfl (Ql (cs:=pfC ((Y6 d z ss most.toNat).1)) Zrr rfl rfl rfl (lb rfl) rfl rfl rfl dz (m:=2) rfl rfl (fun a w h=>Zk hS _ h.keep h.x _ nlr) (fun a w h w' hk'=>Yw hJ _ _ hk' h.x) ?_)
  refine snK 2 tb (env':=[(11,_),(10,_),(9,_),(34,_),(33,_),(32,_),(25,_),(31,_),(30,_),(29,_),(28,_),(27,_),(26,_),(1,_),(3,_),(4,_),(6,_),(23,_)]) rfl (seK [0,1,2,4,13,14,15,16] U8 rfl ?_)
  refine nx (ln 1 fun hl1=>?_)
  refine Zg (qso tb hJ [1,2,4,5,6,7,1001] U2 U7 ?_)
  refine cj 6 (fun hb2=>?_) fun hb2=>?_
  ·
   try simp at hb2
   have hmb:=Zpv hb2
   refine ZH tb hJ [1001,1012] [_,_,.int (((Y6 d z ss most.toNat).1).length:Nat),_,_,_,.int (((Y6 d z ss most.toNat).2.1).length:Nat),_,_,_,.bool true,_,_] [2,6,10] U2 rfl ⟨Yn ZQ,Yn YQ,fun _ _ hk hx _ hc=>ZaM (Zcn hJ  (by have hc':(((decide (((((Y6 d z ss most.toNat).1).length:Nat):Int)=(0:Int)))&& (decide (((((Y6 d z ss most.toNat).2.1).length:Nat):Int)=(0:Int))))==true)=true:=hc;(try simp at hc');(exact hG))) Zme rfl (Zk hS _ hk hx) (hx.1) Zd (jo hJ hx),trivial⟩ ?_
   refine ln 0 fun hl2=>?_
   exact tRo 1 (hE:=eB (by first | rfl | (rw[hmb.1,hmb.2];rfl) | simp))
  ·
   try simp at hb2
   obtain⟨hr1,hr2,hml,hsz,hck,hck2⟩:=Znk (d:=d) (z:=z) (ss:=ss) (most:=most.toNat) oz
   have hok1:=(ZfB hr1).2
   have hok2:=(ZfB hr2).2
   have hvd:=Zm2 hr2
   have hrk:=(QO hr2).1
   refine Zc (nx (tsq (snK 3 tb (env':=[(52,_),(51,_),(50,_),(10,_),(9,_),(1,_),(3,_),(4,_),(6,_),(36,_)]) rfl (sy (.tup [.rd (Zp ((Yq d z ((Y6 d z ss most.toNat).1)).1)),.agg (vdC ((Yq d z ((Y6 d z ss most.toNat).1)).2)),.int (ZfC d z ((Y6 d z ss most.toNat).1))]) (fun h=>ZaM (ZgQ hJ d z ((Y6 d z ss most.toNat).1) (by exact hw) (by exact hG)) ZkE rfl (Zk hS _ h.keep h.x) (h.x.1) (Za (h.get 2 rfl) (Za (h.get 1 rfl) (Za (h.get 0 rfl) Zd))) (jo hJ h.x)) ?_))))
   refine snK 4 tb (env':=[(56,_),(55,_),(54,_),(49,_),(53,_),(52,_),(51,_),(50,_),(10,_),(9,_),(1,_),(3,_),(4,_),(6,_),(36,_)]) rfl (Zw ZbI hJ rfl rfl rfl (lb rfl) fun b1=>?_)
   refine snK 1 tb (env':=[(12,_),(13,_),(56,_),(55,_),(54,_),(49,_),(53,_),(52,_),(51,_),(50,_),(10,_),(9,_),(1,_),(3,_),(4,_),(6,_),(36,_)]) rfl (Zn (b:=b1) (off:=0) (es:=U2) (news:=U2) hJ hJ0 QY rfl rfl rfl (lb rfl) rfl (fun a w h=>⟨(h.get 1 rfl),(h.get 3 rfl)⟩) ?_)
   refine snK 1 tb (env':=[(11,_),(12,_),(13,_),(56,_),(55,_),(54,_),(49,_),(53,_),(52,_),(51,_),(50,_),(10,_),(9,_),(1,_),(3,_),(4,_),(6,_),(36,_)]) rfl (kw (fun h=>ZS hS h (m:=2) (s:=13) rfl) ?_)
   refine seK [0,1,2,5,11,12,13,14,15,16] U10 rfl (nx (ln 2 fun hl3=>?_))
   refine Zg (ZH tb hJ [4,5,6,8,9,1013] (V4 [.agg (vdC (⟨0,0⟩:Int×Int)),.bool (!(decide (((Yq d z ((Y6 d z ss most.toNat).1)).2).1=(⟨0,0⟩:Int×Int).1)&&decide (((Yq d z ((Y6 d z ss most.toNat).1)).2).2=(⟨0,0⟩:Int×Int).2))),_,_,_,.int (((Y6 d z ss most.toNat).2.1).length:Nat),_,.int (most.toNat:Nat),_,_]) [4,5,9,11] U6 rfl ⟨fun _ _ _ hx _ _=>Y8 (ps:=[]) (us:=[.int .i64 0,.int .i64 0]) Zfn rfl yz Zjr rfl (X2 (.lit _ True.intro) (X2 (.lit _ True.intro) Z2)) hx,fun _ _ _ hx hl hc=>r_neqV eqVd rfl (hl.D 3 60 rfl hc) (hl.D 4 61 rfl hc) hx,Yn YQ,fun _ _ _ hx hl hc=>ZoP Zei QV rfl (hl.D 10 67 rfl hc) hx,trivial⟩ ?_)
   refine cj 5 (fun hb3=>?_) fun hb3=>?_
   ·
    exact False.elim (by simp[hvd,hrk]at hb3;omega)
   ·
    refine Zc (nx (ZH tb hJ (r5 [1002]) [_,.int ((Zx ss):Nat),_] [1] U6 rfl ⟨iFo hS hJ (Zpg hJ ss (by first | exact hok1 | exact hok2)) ZqY,trivial⟩ ?_))
    refine Zg (ZH tb hJ (r6 [1000,1001,1002]) [_,.int (((Y6 d z ss most.toNat).2.1).length:Nat),_] [1] U9 rfl ⟨Yn YQ,trivial⟩ ?_)
    refine Ze (lpo (ι:=Nat×Int) (fun(k,s)=>(k≤(Y6 d z ss most.toNat).2.1.length)∧(ZoE s ((Y6 d z ss most.toNat).2.1.drop k)=some (Zx (Y6 d z ss most.toNat).1:Int))) (fun(_,_)=>[]) (fun(k,s)=>[(75,.int (k:Nat)),(14,.int s)]) (fun(k,_)=>(Y6 d z ss most.toNat).2.1.length-k) (r5 [6,7,8,5]) U7 (0,((Zx ss:Nat):Int)) ⟨nzl,hsz⟩ ?_)
    rintro⟨k,s⟩ ⟨f1_1,f1_2⟩
    refine qso tb hJ (r9 [1000]) [_] U10 ?_
    refine cjS 9 (fun hb4=>?_) fun hb4=>?_
    ·
     try simp at hb4
     have hsa:=siz_at f1_2 oz
     refine Zc (nx (Zg (Ze (tsq (sy (.ptr (chC (ge ((Y6 d z ss most.toNat).2.1) k))) (fun h=>ZO (i:=(k:Int)) YP rfl (h.get 5 rfl) (h.get 7 rfl) nnn (ZW (xs:=((Y6 d z ss most.toNat).2.1)) (k:=k) sfz) rfl h.x) ?_)))))
     refine snK 1 tb (env':=[(78,_),(77,_),(10,_),(9,_),(1,_),(4,_),(6,_),(73,_),(74,_),(75,_),(14,_),(76,_)]) rfl (Ql (cs:=chC (ge ((Y6 d z ss most.toNat).2.1) k)) Zgw rfl rfl rfl (lb rfl) rfl rfl rfl dz (m:=0) rfl rfl (fun a w h=>Zk hS _ h.keep h.x _ nlr) (fun a w h w' hk'=>Yw hJ _ _ hk' h.x) ?_)
     refine seK [0,3,4,5,6,7,8,9,10,11] U10 rfl (nx (Zg (qso tb hJ (r9 [1009]) U10 U10 ?_)))
     refine cj 9 (fun hb5=>?_) fun hb5=>?_
     ·
      exact False.elim (by simp[hsa.1]at hb5;omega)
     ·
      refine Zc (nx (qpo tb hJ [1,2,3,4,5,6,7,8,1002] U3 U9 ?_))
      refine nx (YV tb hJ (r7 [8,1001]) [.int (k+1:Nat),_] [0] U9 rfl ⟨YU,trivial⟩ ?_)
      exact Xk (k+1,(ge ((Y6 d z ss most.toNat).2.1) k).after) (r7 [8,7]) ⟨oz,by exact hsa.2.2⟩
    ·
     try simp at hb4
     have hse:=ZvP f1_2 oz
     have hc1:ckG d z ss (Y6 d z ss most.toNat).1 (Y6 d z ss most.toNat).2.1=((((Y6 d z ss most.toNat).2.1.length:Nat):Int),0):=(if_pos hr1).trans hck
     refine Zv (nx (ZH tb hJ (r5 [8,1009,1010]) (V5 [.tup [.int ((ckG d z ss ((Y6 d z ss most.toNat).1) ((Y6 d z ss most.toNat).2.1)).1),.int ((ckG d z ss ((Y6 d z ss most.toNat).1) ((Y6 d z ss most.toNat).2.1)).2)],_,_,_,_,_]) [5] U8 rfl ⟨iFo hS hJ (ZlB hJ d z ss ((Y6 d z ss most.toNat).1) ((Y6 d z ss most.toNat).2.1) (by exact hw) (by exact hG) (by exact hfl.1) (by exact hfl.2) (by exact hcL)) ZqZ,trivial⟩ ?_))
     refine Zg (ZH tb hJ [0,2,3,4,1013] [_,_,.int (((Y6 d z ss most.toNat).2.1).length:Nat),_,_,_,_,_,_,_,.int ((Zx ((Y6 d z ss most.toNat).1)):Nat),_,_,_] [2,10] U5 rfl ⟨Yn YQ,fun _ _ hk hx hl hc=>ZaM (Zpg hJ ((Y6 d z ss most.toNat).1) (by have hc':(((!decide ((ckG d z ss ((Y6 d z ss most.toNat).1) ((Y6 d z ss most.toNat).2.1)).1=((((Y6 d z ss most.toNat).2.1).length:Nat):Int)))|| (!decide ((ckG d z ss ((Y6 d z ss most.toNat).1) ((Y6 d z ss most.toNat).2.1)).2=(0:Int))))==false)=true:=hc;(try simp at hc');(first | exact hok1 | exact hok2))) ZqY rfl (Zk hS _ hk hx) (hx.1) (Za (hl.D 9 110 rfl hc) Zd) (jo hJ hx),trivial⟩ ?_)
     refine cj 4 (fun hb6=>?_) fun hb6=>?_
     ·
      exact False.elim (by simp[hc1,hse]at hb6)
     ·
      refine Zc (nx (Zg (ZH tb hJ [0,1,2,3,1002] [_,.int (((Y6 d z ss most.toNat).2.1).length:Nat),_] [1] U5 rfl ⟨Yn YQ,trivial⟩ ?_)))
      refine cj 4 (fun hb7=>?_) fun hb7=>?_
      ·
       try simp at hb7
       have hc2:ckG d z ss ss (Y6 d z ss most.toNat).2.1=((((Y6 d z ss most.toNat).2.1.length:Nat):Int),261):=(if_pos hr1).trans (hck2 (by intro e;simp[e]at hb7))
       refine ZH tb hJ [0,1009,1010] (V5 [.tup [.int ((ckG d z ss ss ((Y6 d z ss most.toNat).2.1)).1),.int ((ckG d z ss ss ((Y6 d z ss most.toNat).2.1)).2)],_,_,_,_,_]) [5] U3 rfl ⟨iFo hS hJ (ZlB hJ d z ss ss ((Y6 d z ss most.toNat).2.1) (by exact hw) (by exact hG) (by exact hfl.1) (by exact hfl.2) (by exact hcL)) ZqZ,trivial⟩ ?_
       refine ZH tb hJ [1007] [_,_,.int (((Y6 d z ss most.toNat).2.1).length:Nat),_,_,_,_,_] [2] [_] rfl ⟨Yn YQ,trivial⟩ ?_
       refine cj 0 (fun hb8=>?_) fun hb8=>?_
       ·
        exact False.elim (by simp[hc2]at hb8)
       ·
        refine Zc (nx (ZH tb hJ [1001] [.bool true,_] [0] [_] rfl ⟨iFo hS hJ (Zcn hJ  (by exact hG)) Zme,trivial⟩ ?_))
        exact tRo 0 (hE:=rfl)
      ·
       try simp at hb7
       refine Zc (nx (ZH tb hJ [1001] [.bool true,_] [0] [_] rfl ⟨iFo hS hJ (Zcn hJ  (by exact hG)) Zme,trivial⟩ ?_))
       exact tRo 0 (hE:=rfl)
end Go.Proofs.YtdfadihhfppjaaaGreatDoor
