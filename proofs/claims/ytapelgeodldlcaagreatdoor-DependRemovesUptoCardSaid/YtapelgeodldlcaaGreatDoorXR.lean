/-
  FACTS of the program's types and functions.
  CONTRACTS of the program: look-ups, functions that take functions.
  CONTRACTS of the library: slices' functions.
  CONTRACTS of the library: slices.DeleteFunc.
-/
import Derived.Test.YtapelgeodldlcaaGreatDoorXQ
import Derived.Laws.StructEq
set_option maxHeartbeats 8000000
set_option maxRecDepth 100000
namespace Go.Proofs.YtapelgeodldlcaaGreatDoor
open Go.RowKit
theorem Yh:Tryz.prog.follows .mixedOrders=true:=by kernel_rfl
theorem Zmq:(Tryz.prog.fieldsOf 115).toList=[{ name:= "A",type:=9,offset:=0,embedded:=false,tag:= "",pkgPath:= "",byteOffset:=0 }, { name:= "B",type:=9,offset:=1,embedded:=false,tag:= "",pkgPath:= "",byteOffset:=16 }]:=by kernel_rfl
theorem Zmo:Tryz.prog.underlying 115=some (.struct (Tryz.prog.fieldsOf 115)):=by kernel_rfl
theorem Zq4:Tryz.prog.underlying 9=some .string:=by kernel_rfl
theorem Zf7 (c:Array Value) (i:Nat) (v:Value) (h:c[i]?=some v) (w:World):(part 9 c i).run Tryz.prog w= .ok v w:=by
 simp[part,Tryz.isAgg9,h]
theorem ZnA:Zom Tryz.prog 115:=by
 intro a b c d w x y
 refine⟨by simp[eqGuard],by simp[eqGuard],?_⟩
 unfold Op.equal Op.maxDepth
 rw[run_equalIn_struct w 9999 115 _ _ Zmo (by kernel_rfl),Zmq]
 have e1:=fun(c:Array Value) (v:Value) (i:Nat) (h:c[i]?=some v)=>Zf7 c i v h
 have q1:=run_equalIn_string (P:=Tryz.prog) w 9998 9 a c Zq4
 have q2:=run_equalIn_string (P:=Tryz.prog) w 9998 9 b d Zq4
 rw[Zaf]at q1 q2
 simp only[Op.eqFields]
 rw[if_pos (by decide),if_pos (by decide)]
 simp only[Sem.run_bind]
 rw[e1 _ (.string a) 0 rfl w,Result.andThen_ok,e1 _ (.string c) 0 rfl w,Result.andThen_ok,q1,Result.andThen_ok]
 by_cases h1:a=c
 · simp only[h1,decide_true,Bool.not_true,Bool.false_eq_true,if_false,Sem.run_bind]
   rw[e1 _ (.string b) 1 rfl w,Result.andThen_ok,e1 _ (.string d) 1 rfl w,Result.andThen_ok,q2,Result.andThen_ok]
   by_cases h2:b=d
   · simp[h2,Sem.run_pure]
   · simp[h2,Sem.run_pure]
 · simp[h1,Sem.run_pure]
theorem Zrw:XV Tryz.prog 59:=fun w=>by kernel_rfl
theorem ZV:Ziu Tryz.prog 59 9 4 keyS.kind:=⟨by kernel_rfl,by kernel_rfl⟩
theorem ZM:Zho Tryz.prog 4 (.bool false):=⟨(.bool false),fun w=>by kernel_rfl,fun S w=>Rel.of_lit _⟩
theorem ZkT:ZW Tryz.prog 63 1 1:=fun b off w=>by kernel_rfl
theorem ZgB:XV Tryz.prog 57:=fun w=>by kernel_rfl
theorem ZfJ:Zl Tryz.prog 36:=Zs Tryz.func36 rfl rfl
theorem Zv:Tryz.prog.underlying 22=some (.slice 9):=by kernel_rfl
theorem Zn:Yl Tryz.prog 22 9 1:=⟨by kernel_rfl,fun w=>by kernel_rfl⟩
theorem Q1:XV Tryz.prog 9:=fun w=>by kernel_rfl
theorem Zt8:Zl Tryz.prog 66:=Zs Tryz.func66 rfl rfl
theorem ZN:Tryz.prog.underlying 29=some (.slice 84):=by kernel_rfl
theorem ZR:Yl Tryz.prog 29 84 3:=⟨by kernel_rfl,fun w=>by kernel_rfl⟩
theorem Zbq:X4 Tryz.prog 84 3:=⟨fun w=>by kernel_rfl,fun w=>by kernel_rfl⟩
theorem ZnX:Zl Tryz.prog 68:=Zs Tryz.func68 rfl rfl
theorem Ya:Tryz.prog.underlying 30=some (.slice 115):=by kernel_rfl
theorem ZD:Yl Tryz.prog 30 115 2:=⟨by kernel_rfl,fun w=>by kernel_rfl⟩
theorem Xd:X4 Tryz.prog 115 2:=⟨fun w=>by kernel_rfl,fun w=>by kernel_rfl⟩
theorem YK:Tryz.prog.underlying 23=some (.slice 32):=by kernel_rfl
theorem Ye:Yl Tryz.prog 23 32 8:=⟨by kernel_rfl,fun w=>by kernel_rfl⟩
theorem ZfX:X4 Tryz.prog 32 8:=⟨fun w=>by kernel_rfl,fun w=>by kernel_rfl⟩
theorem Zn6:Zl Tryz.prog 32:=Zs Tryz.func32 rfl rfl
theorem Qh:Tryz.prog.underlying 33=some (.slice 3):=by kernel_rfl
theorem Yc:Yl Tryz.prog 33 3 1:=⟨by kernel_rfl,fun w=>by kernel_rfl⟩
theorem ZbL:XV Tryz.prog 3:=fun w=>by kernel_rfl
theorem X3:ZfZ Tryz.prog 22 9 1 16:=ZqU (.string ⟨#[]⟩) (by kernel_rfl) (by kernel_rfl) rfl (by decide) (fun w=>by kernel_rfl)
theorem Zei:ZfZ Tryz.prog 29 84 3 48:=ZqU (.agg #[.string ⟨#[]⟩,.bool false,.slice none 0 0]) (by kernel_rfl) (by kernel_rfl) rfl (by decide) (fun w=>by kernel_rfl)
theorem Zld:ZfZ Tryz.prog 30 115 2 32:=ZqU (.agg #[.string ⟨#[]⟩,.string ⟨#[]⟩]) (by kernel_rfl) (by kernel_rfl) rfl (by decide) (fun w=>by kernel_rfl)
theorem Za9:ZqZ Tryz.prog 84 3:=⟨(#[.string ⟨#[]⟩,.bool false,.slice none 0 0]),rfl,by kernel_rfl⟩
theorem Xp:XB Tryz.prog 84 3:=fun w=>by kernel_rfl
theorem Zj2:Zez Tryz.prog 84 3:=⟨(.agg #[.string ⟨#[]⟩,.bool false,.slice none 0 0]),fun w=>by kernel_rfl,rfl,by simp[Value.cells,Value.oneCell']⟩
theorem ZtS:Zl Tryz.prog 98:=Zs Tryz.func98 rfl rfl
theorem Zds:ZqZ Tryz.prog 115 2:=⟨(#[.string ⟨#[]⟩,.string ⟨#[]⟩]),rfl,by kernel_rfl⟩
theorem Xf:XB Tryz.prog 115 2:=fun w=>by kernel_rfl
theorem Zdn:Zez Tryz.prog 115 2:=⟨(.agg #[.string ⟨#[]⟩,.string ⟨#[]⟩]),fun w=>by kernel_rfl,rfl,by simp[Value.cells,Value.oneCell']⟩
theorem QI:ZW Tryz.prog 115 0 0:=fun b off w=>by kernel_rfl
theorem ZnU:Zl Tryz.prog 78:=Zs Tryz.func78 rfl rfl
theorem QH:ZW Tryz.prog 115 1 1:=fun b off w=>by kernel_rfl
theorem Zbj:ZW Tryz.prog 84 0 0:=fun b off w=>by kernel_rfl
theorem ZgC:XV Tryz.prog 4:=fun w=>by kernel_rfl
theorem undb_4:Tryz.prog.underlying 4=some .bool:=by kernel_rfl
theorem Zac:ZW Tryz.prog 84 2 2:=fun b off w=>by kernel_rfl
theorem X7:XV Tryz.prog 22:=fun w=>by kernel_rfl
theorem ZnV:Zl Tryz.prog 77:=Zs Tryz.func77 rfl rfl
theorem Z0:Yl Tryz.prog 112 22 1:=⟨by kernel_rfl,fun w=>by kernel_rfl⟩
theorem Zdl:Zc4 Tryz.prog 22:=⟨.slice none 0 0,fun w=>by kernel_rfl⟩
theorem Zbp:ZfZ Tryz.prog 112 22 1 24:=ZqU (.slice none 0 0) (by kernel_rfl) (by kernel_rfl) rfl (by decide) (fun w=>by kernel_rfl)
theorem Zam:Tryz.prog.underlying 112=some (.slice 22):=by kernel_rfl
theorem Zt0:Zl Tryz.prog 81:=Zs Tryz.func81 rfl rfl
theorem Zt1:Zl Tryz.prog 80:=Zs Tryz.func80 rfl rfl
theorem Zt2:Zl Tryz.prog 79:=Zs Tryz.func79 rfl rfl
theorem Zuh:Zl Tryz.prog 52:=Zs Tryz.func52 rfl rfl
theorem Zbl:ZW Tryz.prog 32 2 2:=fun b off w=>by kernel_rfl
theorem ZgD:XV Tryz.prog 29:=fun w=>by kernel_rfl
theorem Zui:Zl Tryz.prog 51:=Zs Tryz.func51 rfl rfl
theorem Zuj:Zl Tryz.prog 50:=Zs Tryz.func50 rfl rfl
theorem Y2:Zfc Tryz.prog 84 [.lit (.string ⟨#[]⟩),.lit (.bool false),.sl []]:=⟨(.agg #[.string ⟨#[]⟩,.bool false,.slice none 0 0]),fun w=>by kernel_rfl,fun S w=>(show RdL S w [.lit (.string ⟨#[]⟩),.lit (.bool false),.sl []] [.string ⟨#[]⟩,.bool false,.slice none 0 0]from⟨.lit _ (Nat.zero_le _),.lit _ True.intro,.nil _ _ (Nat.zero_le _),trivial⟩)⟩
theorem ZnW:Zl Tryz.prog 69:=Zs Tryz.func69 rfl rfl
theorem Zf5:XB Tryz.prog 22 1:=fun w=>by kernel_rfl
theorem Zue:Zl Tryz.prog 60:=Zs Tryz.func60 rfl rfl
theorem ZcD:Zl Tryz.prog 42:=Zs Tryz.func42 rfl rfl
theorem ZbS:Zfc Tryz.prog 133 ((List.replicate 256 (0:UInt8)).map u8D):=ZoB (.agg (Array.replicate 256 (.int .u8 0))) (fun w=>by kernel_rfl) (by simp[Value.cells])
theorem X9:Tryz.prog.underlying 3=some (.int .i64):=by kernel_rfl
theorem ZbT:Tryz.prog.underlying 5=some (.int .u8):=by kernel_rfl
theorem XG:ArrT Tryz.prog 133 5 256:=⟨by kernel_rfl,fun w=>by kernel_rfl,by decide⟩
theorem Zdb:XB Tryz.prog 5 1:=fun w=>by kernel_rfl
theorem Zej:X4 Tryz.prog 133 256:=⟨fun w=>by kernel_rfl,fun w=>by kernel_rfl⟩
theorem ZcJ:XB Tryz.prog 133 256:=fun w=>by kernel_rfl
theorem Zdt:Tryz.prog.underlying 26=some (.slice 5):=by kernel_rfl
theorem Zay:Yl Tryz.prog 26 5 1:=⟨by kernel_rfl,fun w=>by kernel_rfl⟩
theorem one_5:XV Tryz.prog 5:=fun w=>by kernel_rfl
theorem ZtT:Zl Tryz.prog 96:=Zs Tryz.func96 rfl rfl
theorem Xn:Tryz.prog.underlying 9=some .string:=by kernel_rfl
theorem Zt4:Zl Tryz.prog 75:=Zs Tryz.func75 rfl rfl
theorem Zt3:Zl Tryz.prog 76:=Zs Tryz.func76 rfl rfl
theorem zero_5:Zc4 Tryz.prog 5:=⟨.int .u8 0,fun w=>by kernel_rfl⟩
theorem ZnZ:Zl Tryz.prog 57:=Zs Tryz.func57 rfl rfl
theorem Zlh:Zez Tryz.prog 5 1:=⟨(.int .u8 0),fun w=>by kernel_rfl,rfl,by simp[Value.cells,Value.oneCell']⟩
theorem ZjS:Zl Tryz.prog 101:=Zs Tryz.func101 rfl rfl
theorem Zij:Zl Tryz.prog 35:=Zs Tryz.func35 rfl rfl
theorem ZqL:Zl Tryz.prog 102:=Zs Tryz.func102 rfl rfl
theorem ZjT:Zl Tryz.prog 100:=Zs Tryz.func100 rfl rfl
theorem ZaQ:Tryz.prog.underlying 160=some (.array 10 159):=by kernel_rfl
theorem Zba:XB Tryz.prog 159 4:=fun w=>by kernel_rfl
theorem Zhn:X4 Tryz.prog 159 4:=⟨fun w=>by kernel_rfl,fun w=>by kernel_rfl⟩
theorem ZbR:Zfc Tryz.prog 159 [.lit (.string ⟨#[]⟩),.lit (.bool false),.lit (.int .i64 0),.lit (.int .i64 0)]:=⟨(.agg #[.string ⟨#[]⟩,.bool false,.int .i64 0,.int .i64 0]),fun w=>by kernel_rfl,fun S w=>(show RdL S w [.lit (.string ⟨#[]⟩),.lit (.bool false),.lit (.int .i64 0),.lit (.int .i64 0)] [.string ⟨#[]⟩,.bool false,.int .i64 0,.int .i64 0]from⟨.lit _ (Nat.zero_le _),.lit _ True.intro,.lit _ True.intro,.lit _ True.intro,trivial⟩)⟩
theorem ZfI:Zl Tryz.prog 37:=Zs Tryz.func37 rfl rfl
theorem Zif:ZW Tryz.prog 123 2 2:=fun b off w=>by kernel_rfl
theorem Zie:ZW Tryz.prog 123 3 3:=fun b off w=>by kernel_rfl
theorem ZtX:Zl Tryz.prog 84:=Zs Tryz.func84 rfl rfl
theorem ZaP:Tryz.prog.underlying 124=some (.slice 123):=by kernel_rfl
theorem Q4:Yl Tryz.prog 124 123 4:=⟨by kernel_rfl,fun w=>by kernel_rfl⟩
theorem ZtR:Zl Tryz.prog 99:=Zs Tryz.func99 rfl rfl
theorem Zby:Zc4 Tryz.prog 9:=⟨.string ⟨#[]⟩,fun w=>by kernel_rfl⟩
theorem Zib:ZW Tryz.prog 159 0 0:=fun b off w=>by kernel_rfl
theorem ZtY:Zl Tryz.prog 83:=Zs Tryz.func83 rfl rfl
theorem ZtZ:Zl Tryz.prog 82:=Zs Tryz.func82 rfl rfl
theorem Zls:ZqZ Tryz.prog 123 4:=⟨(#[.int .i64 0,.string ⟨#[]⟩,.slice none 0 0,.slice none 0 0]),rfl,by kernel_rfl⟩
theorem ZtW:Zl Tryz.prog 85:=Zs Tryz.func85 rfl rfl
theorem Zin:ZcX Tryz.prog 123 4:=⟨#[.int .i64 0,.string ⟨#[]⟩,.slice none 0 0,.slice none 0 0],rfl,fun i=>(#[(0,1),(1,1),(2,1),(3,1)]:Array (Nat×Nat))[i]?,fun j hj=>by rcases j with _ | _ | _ | _ | j<;>first | rfl | omega,fun parts=>by kernel_rfl⟩
theorem Zoy:Zc4 Tryz.prog 123:=⟨.agg #[.int .i64 0,.string ⟨#[]⟩,.slice none 0 0,.slice none 0 0],fun w=>by kernel_rfl⟩
theorem Zt7:Zl Tryz.prog 67:=Zs Tryz.func67 rfl rfl
theorem ZkX:ZW Tryz.prog 25 1 1:=fun b off w=>by kernel_rfl
theorem ZkS:ZW Tryz.prog 63 2 2:=fun b off w=>by kernel_rfl
theorem Ze4:ZW Tryz.prog 87 1 1:=fun b off w=>by kernel_rfl
theorem ZmQ:XV Tryz.prog 61:=fun w=>by kernel_rfl
theorem Zaw:Ziu Tryz.prog 61 9 9 keyS.kind:=⟨by kernel_rfl,by kernel_rfl⟩
theorem Zdo:Zho Tryz.prog 9 (.str default):=⟨(.string ⟨#[]⟩),fun w=>by kernel_rfl,fun S w=>(show Rel S w (.str ⟨#[]⟩) _ from Rel.of_lit _ (Nat.zero_le _))⟩
theorem ZkR:ZW Tryz.prog 63 4 4:=fun b off w=>by kernel_rfl
theorem Zad:ZW Tryz.prog 63 3 3:=fun b off w=>by kernel_rfl
theorem ZgA:XV Tryz.prog 60:=fun w=>by kernel_rfl
theorem Ql:Ziu Tryz.prog 60 9 84 keyS.kind:=⟨by kernel_rfl,by kernel_rfl⟩
theorem Zak:Zho Tryz.prog 84 (.agg (hyC default)):=⟨(.agg #[.string ⟨#[]⟩,.bool false,.slice none 0 0]),fun w=>by kernel_rfl,fun S w=>(show Rel S w (.agg [.lit (.string ⟨#[]⟩),.lit (.bool false),.sl []]) _ from(by simp only[Rel];exact⟨[.string ⟨#[]⟩,.bool false,.slice none 0 0],rfl,.lit _ (Nat.zero_le _),.lit _ True.intro,.nil _ _ (Nat.zero_le _),trivial⟩))⟩
theorem ZnY:Zl Tryz.prog 59:=Zs Tryz.func59 rfl rfl
theorem Zn3:Zl Tryz.prog 40:=Zs Tryz.func40 rfl rfl
theorem Ze5:ZW Tryz.prog 32 4 4:=fun b off w=>by kernel_rfl
theorem Zuc:Zl Tryz.prog 62:=Zs Tryz.func62 rfl rfl
theorem Zud:Zl Tryz.prog 61:=Zs Tryz.func61 rfl rfl
theorem Zhx:Tryz.prog.underlying 59=some (.map 9 4):=by kernel_rfl
theorem ZkV:ZW Tryz.prog 32 6 6:=fun b off w=>by kernel_rfl
theorem Zrx:XV Tryz.prog 30:=fun w=>by kernel_rfl
theorem QB:Zfc Tryz.prog 115 [.lit (.string ⟨#[]⟩),.lit (.string ⟨#[]⟩)]:=⟨(.agg #[.string ⟨#[]⟩,.string ⟨#[]⟩]),fun w=>by kernel_rfl,fun S w=>(show RdL S w [.lit (.string ⟨#[]⟩),.lit (.string ⟨#[]⟩)] [.string ⟨#[]⟩,.string ⟨#[]⟩]from⟨.lit _ (Nat.zero_le _),.lit _ (Nat.zero_le _),trivial⟩)⟩
theorem Zub:Zl Tryz.prog 63:=Zs Tryz.func63 rfl rfl
theorem ZkW:ZW Tryz.prog 32 3 3:=fun b off w=>by kernel_rfl
theorem Zt9:Zl Tryz.prog 65:=Zs Tryz.func65 rfl rfl
theorem Zua:Zl Tryz.prog 64:=Zs Tryz.func64 rfl rfl
theorem Zun:Zl Tryz.prog 44:=Zs Tryz.func44 rfl rfl
theorem Zdu:Tryz.prog.underlying 107=some (.slice 29):=by kernel_rfl
theorem Qu:Yl Tryz.prog 107 29 1:=⟨by kernel_rfl,fun w=>by kernel_rfl⟩
theorem Zuf:Zl Tryz.prog 58:=Zs Tryz.func58 rfl rfl
theorem Zhw:Tryz.prog.underlying 61=some (.map 9 9):=by kernel_rfl
theorem Zuo:Zl Tryz.prog 43:=Zs Tryz.func43 rfl rfl
theorem Zul:Zl Tryz.prog 47:=Zs Tryz.func47 rfl rfl
theorem Zbm:ZW Tryz.prog 32 0 0:=fun b off w=>by kernel_rfl
theorem Zk5:ZcX Tryz.prog 87 2:=⟨#[.map none,.map none],rfl,fun i=>(#[(0,1),(1,1)]:Array (Nat×Nat))[i]?,fun j hj=>by rcases j with _ | _ | j<;>first | rfl | omega,fun parts=>by kernel_rfl⟩
theorem Zj6:Zfc Tryz.prog 87 [.lit (.map none),.lit (.map none)]:=⟨(.agg #[.map none,.map none]),fun w=>by kernel_rfl,fun S w=>(show RdL S w [.lit (.map none),.lit (.map none)] [.map none,.map none]from⟨.lit _ True.intro,.lit _ True.intro,trivial⟩)⟩
theorem ZlQ:XB Tryz.prog 87 2:=fun w=>by kernel_rfl
theorem ZeD:Zez Tryz.prog 29 1:=⟨(.slice none 0 0),fun w=>by kernel_rfl,rfl,by simp[Value.cells,Value.oneCell']⟩
theorem Zn4:Zl Tryz.prog 38:=Zs Tryz.func38 rfl rfl
theorem Zuq:Zl Tryz.prog 39:=Zs Tryz.func39 rfl rfl
theorem Zup:Zl Tryz.prog 41:=Zs Tryz.func41 rfl rfl
theorem ZkU:ZW Tryz.prog 32 7 7:=fun b off w=>by kernel_rfl
theorem Zn7:Zl Tryz.prog 22:=Zs Tryz.func22 rfl rfl
theorem Zum:Zl Tryz.prog 45:=Zs Tryz.func45 rfl rfl
theorem Zn2:Zl Tryz.prog 46:=Zs Tryz.func46 rfl rfl
theorem Zn1:Zl Tryz.prog 48:=Zs Tryz.func48 rfl rfl
theorem Zuk:Zl Tryz.prog 49:=Zs Tryz.func49 rfl rfl
theorem XS:ZW Tryz.prog 25 2 2:=fun b off w=>by kernel_rfl
theorem ZdO:XV Tryz.prog 23:=fun w=>by kernel_rfl
theorem Zk6:ZcX Tryz.prog 63 5:=⟨#[.map none,.map none,.map none,.map none,.map none],rfl,fun i=>(#[(0,1),(1,1),(2,1),(3,1),(4,1)]:Array (Nat×Nat))[i]?,fun j hj=>by rcases j with _ | _ | _ | _ | _ | j<;>first | rfl | omega,fun parts=>by kernel_rfl⟩
theorem Zbs:X4 Tryz.prog 25 3:=⟨fun w=>by kernel_rfl,fun w=>by kernel_rfl⟩
theorem ZuA:Zl Tryz.prog 20:=Zs Tryz.func20 rfl rfl
theorem ZoA:ZqZ Tryz.prog 32 8:=⟨(#[.string ⟨#[]⟩,.bool false,.slice none 0 0,.slice none 0 0,.slice none 0 0,.slice none 0 0,.slice none 0 0,.slice none 0 0]),rfl,by kernel_rfl⟩
theorem Zuz:Zl Tryz.prog 21:=Zs Tryz.func21 rfl rfl
theorem Zn0:Zl Tryz.prog 56:=Zs Tryz.func56 rfl rfl
theorem ZjM:Zl Tryz.prog 8:=Zs Tryz.func8 rfl rfl
theorem Zoc:ZrZ Tryz.prog 75:=fun x y z=>by kernel_rfl
theorem XH:Zfc Tryz.prog 32 [.lit (.string ⟨#[]⟩),.lit (.bool false),.sl [],.sl [],.sl [],.sl [],.sl [],.sl []]:=⟨(.agg #[.string ⟨#[]⟩,.bool false,.slice none 0 0,.slice none 0 0,.slice none 0 0,.slice none 0 0,.slice none 0 0,.slice none 0 0]),fun w=>by kernel_rfl,fun S w=>(show RdL S w [.lit (.string ⟨#[]⟩),.lit (.bool false),.sl [],.sl [],.sl [],.sl [],.sl [],.sl []] [.string ⟨#[]⟩,.bool false,.slice none 0 0,.slice none 0 0,.slice none 0 0,.slice none 0 0,.slice none 0 0,.slice none 0 0]from⟨.lit _ (Nat.zero_le _),.lit _ True.intro,.nil _ _ (Nat.zero_le _),.nil _ _ (Nat.zero_le _),.nil _ _ (Nat.zero_le _),.nil _ _ (Nat.zero_le _),.nil _ _ (Nat.zero_le _),.nil _ _ (Nat.zero_le _),trivial⟩)⟩
theorem ZbY:XB Tryz.prog 32 8:=fun w=>by kernel_rfl
theorem Zus:Zl Tryz.prog 31:=Zs Tryz.func31 rfl rfl
theorem Zav:Ziu Tryz.prog 77 9 3 keyS.kind:=⟨by kernel_rfl,by kernel_rfl⟩
theorem Zdp:Zho Tryz.prog 3 (.int default):=⟨(.int .i64 0),fun w=>by kernel_rfl,fun S w=>(show Rel S w (.int 0) _ from Rel.of_lit _)⟩
theorem Xs:Ziu Tryz.prog 53 3 4 keyI.kind:=⟨by kernel_rfl,by kernel_rfl⟩
theorem Zbk:ZW Tryz.prog 75 1 3:=fun b off w=>by kernel_rfl
theorem ZmP:XV Tryz.prog 73:=fun w=>by kernel_rfl
theorem Zik:Zl Tryz.prog 29:=Zs Tryz.func29 rfl rfl
theorem Za4:Yl Tryz.prog 73 33 1:=⟨by kernel_rfl,fun w=>by kernel_rfl⟩
theorem Zr0:Zc4 Tryz.prog 33:=⟨.slice none 0 0,fun w=>by kernel_rfl⟩
theorem Zhl:ZfZ Tryz.prog 73 33 1 24:=ZqU (.slice none 0 0) (by kernel_rfl) (by kernel_rfl) rfl (by decide) (fun w=>by kernel_rfl)
theorem ZlS:XB Tryz.prog 73 1:=fun w=>by kernel_rfl
theorem ZmR:XV Tryz.prog 53:=fun w=>by kernel_rfl
theorem one_49:XV Tryz.prog 49:=fun w=>by kernel_rfl
theorem Zru:XV Tryz.prog 81:=fun w=>by kernel_rfl
theorem Zn5:Zl Tryz.prog 34:=Zs Tryz.func34 rfl rfl
theorem Zlu:Zfc Tryz.prog 53 [.lit (.map none)]:=⟨(.map none),fun w=>by kernel_rfl,fun S w=>(show RdL S w [.lit (.map none)] [.map none]from⟨.lit _ True.intro,trivial⟩)⟩
theorem ZlT:XB Tryz.prog 53 1:=fun w=>by kernel_rfl
theorem Zlt:Zfc Tryz.prog 81 [.lit .nilFunc]:=⟨(.nilFunc),fun w=>by kernel_rfl,fun S w=>(show RdL S w [.lit .nilFunc] [.nilFunc]from⟨.lit _ True.intro,trivial⟩)⟩
theorem ZlR:XB Tryz.prog 81 1:=fun w=>by kernel_rfl
theorem Zuy:Zl Tryz.prog 23:=Zs Tryz.func23 rfl rfl
theorem Ziv:Zc4 Tryz.prog 3:=⟨.int .i64 0,fun w=>by kernel_rfl⟩
theorem Zil:Zl Tryz.prog 16:=Zs Tryz.func16 rfl rfl
theorem Zeh:Zl Tryz.prog 19:=Zs Tryz.func19 rfl rfl
theorem Zkc:Tryz.prog.underlying 73=some (.slice 33):=by kernel_rfl
theorem ZbP:Zez Tryz.prog 3 1:=⟨(.int .i64 0),fun w=>by kernel_rfl,rfl,by simp[Value.cells,Value.oneCell']⟩
theorem ZkQ:ZW Tryz.prog 75 0 0:=fun b off w=>by kernel_rfl
theorem Zut:Zl Tryz.prog 30:=Zs Tryz.func30 rfl rfl
theorem Zla:Zoo Tryz.prog 75:=fun x y z ad k cap=>by kernel_rfl
theorem ZlU:XB Tryz.prog 33 1:=fun w=>by kernel_rfl
theorem ZjX:ZfZ Tryz.prog 33 3 1 8:=ZqU (.int .i64 0) (by kernel_rfl) (by kernel_rfl) rfl (by decide) (fun w=>by kernel_rfl)
theorem Zdm:Zez Tryz.prog 9 1:=⟨(.string ⟨#[]⟩),fun w=>by kernel_rfl,rfl,by simp[Value.cells,Value.oneCell']⟩
theorem Zlb:Zop Tryz.prog 32:=fun s b ad ad' k c k' c'=>by kernel_rfl
theorem ZfK:Zl Tryz.prog 28:=Zs Tryz.func28 rfl rfl
theorem ZbG:Zfc Tryz.prog 25 [.sl [],.sl [],.sl []]:=⟨(.agg #[.slice none 0 0,.slice none 0 0,.slice none 0 0]),fun w=>by kernel_rfl,fun S w=>(show RdL S w [.sl [],.sl [],.sl []] [.slice none 0 0,.slice none 0 0,.slice none 0 0]from⟨.nil _ _ (Nat.zero_le _),.nil _ _ (Nat.zero_le _),.nil _ _ (Nat.zero_le _),trivial⟩)⟩
theorem Zlc:Zoq Tryz.prog 25:=fun ad ad' k c k' c'=>by kernel_rfl
theorem ZdB:XB Tryz.prog 25 3:=fun w=>by kernel_rfl
theorem ZuF:Zl Tryz.prog 12:=Zs Tryz.func12 rfl rfl
theorem ZiD:ZqZ Tryz.prog 25 3:=⟨(#[.slice none 0 0,.slice none 0 0,.slice none 0 0]),rfl,by kernel_rfl⟩
theorem ZuE:Zl Tryz.prog 13:=Zs Tryz.func13 rfl rfl
theorem ZuD:Zl Tryz.prog 14:=Zs Tryz.func14 rfl rfl
theorem Zn8:Zl Tryz.prog 15:=Zs Tryz.func15 rfl rfl
theorem Zuu:Zl Tryz.prog 27:=Zs Tryz.func27 rfl rfl
theorem Zuv:Zl Tryz.prog 26:=Zs Tryz.func26 rfl rfl
theorem Zur:Zl Tryz.prog 33:=Zs Tryz.func33 rfl rfl
theorem ZuG:Zl Tryz.prog 11:=Zs Tryz.func11 rfl rfl
theorem Zhy:Tryz.prog.underlying 53=some (.map 3 4):=by kernel_rfl
theorem ZuC:Zl Tryz.prog 17:=Zs Tryz.func17 rfl rfl
theorem ZuB:Zl Tryz.prog 18:=Zs Tryz.func18 rfl rfl
theorem Zf1:Tryz.prog.underlying 195=some (.slice 197):=by kernel_rfl
theorem ZbF:Yl Tryz.prog 195 197 2:=⟨by kernel_rfl,fun w=>by kernel_rfl⟩
theorem Zlq:ZqZ Tryz.prog 197 2:=⟨(#[.string ⟨#[]⟩,.slice none 0 0]),rfl,by kernel_rfl⟩
theorem Zax:Ziu Tryz.prog 221 9 22 keyS.kind:=⟨by kernel_rfl,by kernel_rfl⟩
theorem ZbQ:Zho Tryz.prog 22 (.rd (Zb default)):=⟨(.slice none 0 0),fun w=>by kernel_rfl,fun S w=>(show Rel S w (.rd (.sl [])) _ from(by simp only[Rel];exact .nil _ _ (Nat.zero_le _)))⟩
theorem Zck:Zl Tryz.prog 153:=Zs Tryz.func153 rfl rfl
theorem Qc:Ziu Tryz.prog 58 9 4 keyS.kind:=⟨by kernel_rfl,by kernel_rfl⟩
theorem ZfL:Zl Tryz.prog 152:=Zs Tryz.func152 rfl rfl
theorem Zqw:Zl Tryz.prog 154:=Zs Tryz.func154 rfl rfl
theorem ZiR:XB Tryz.prog 9 1:=fun w=>by kernel_rfl
theorem Yn:ZW Tryz.prog 130 4 13:=fun b off w=>by kernel_rfl
theorem QE:XV Tryz.prog 112:=fun w=>by kernel_rfl
theorem Zbb:XB Tryz.prog 112 1:=fun w=>by kernel_rfl
theorem Zk7:ZcX Tryz.prog 41 2:=⟨#[.int .i64 0,.int .i64 0],rfl,fun i=>(#[(0,1),(1,1)]:Array (Nat×Nat))[i]?,fun j hj=>by rcases j with _ | _ | j<;>first | rfl | omega,fun parts=>by kernel_rfl⟩
theorem ZcS:ZW Tryz.prog 130 7 16:=fun b off w=>by kernel_rfl
theorem QO:XB Tryz.prog 4 1:=fun w=>by kernel_rfl
theorem ZcR:ZW Tryz.prog 130 8 17:=fun b off w=>by kernel_rfl
theorem Q6:XB Tryz.prog 41 2:=fun w=>by kernel_rfl
theorem ZjN:Zl Tryz.prog 179:=Zs Tryz.func179 rfl rfl
theorem Zdj:Zl Tryz.prog 174:=Zs Tryz.func174 rfl rfl
theorem ZjO:Zl Tryz.prog 173:=Zs Tryz.func173 rfl rfl
theorem ZcI:Tryz.prog.underlying 154=some (.int .u64):=by kernel_rfl
theorem Zqo:Zl Tryz.prog 171:=Zs Tryz.func171 rfl rfl
theorem ZjP:Zl Tryz.prog 172:=Zs Tryz.func172 rfl rfl
theorem Zio:ZcX Tryz.prog 115 2:=⟨#[.string ⟨#[]⟩,.string ⟨#[]⟩],rfl,fun i=>(#[(0,1),(1,1)]:Array (Nat×Nat))[i]?,fun j hj=>by rcases j with _ | _ | j<;>first | rfl | omega,fun parts=>by kernel_rfl⟩
theorem ZjQ:Zl Tryz.prog 167:=Zs Tryz.func167 rfl rfl
theorem Zqr:Zl Tryz.prog 168:=Zs Tryz.func168 rfl rfl
theorem Zqq:Zl Tryz.prog 169:=Zs Tryz.func169 rfl rfl
theorem Zqs:Zl Tryz.prog 158:=Zs Tryz.func158 rfl rfl
theorem ZoC:Zfc Tryz.prog 4 [.lit (.bool false)]:=⟨(.bool false),fun w=>by kernel_rfl,fun S w=>(show RdL S w [.lit (.bool false)] [.bool false]from⟨.lit _ True.intro,trivial⟩)⟩
theorem Zqv:Zl Tryz.prog 155:=Zs Tryz.func155 rfl rfl
theorem Zlv:Zfc Tryz.prog 30 [.sl []]:=⟨(.slice none 0 0),fun w=>by kernel_rfl,fun S w=>(show RdL S w [.sl []] [.slice none 0 0]from⟨.nil _ _ (Nat.zero_le _),trivial⟩)⟩
theorem ZlV:XB Tryz.prog 30 1:=fun w=>by kernel_rfl
theorem Zqu:Zl Tryz.prog 156:=Zs Tryz.func156 rfl rfl
theorem Zqp:Zl Tryz.prog 170:=Zs Tryz.func170 rfl rfl
theorem Zqt:Zl Tryz.prog 157:=Zs Tryz.func157 rfl rfl
theorem Zd2:ZW Tryz.prog 130 0 0:=fun b off w=>by kernel_rfl
theorem Zic:ZW Tryz.prog 147 2 2:=fun b off w=>by kernel_rfl
theorem YT:Zl Tryz.prog 105:=Zs Tryz.func105 rfl rfl
theorem Zim:ZcX Tryz.prog 197 2:=⟨#[.string ⟨#[]⟩,.slice none 0 0],rfl,fun i=>(#[(0,1),(1,1)]:Array (Nat×Nat))[i]?,fun j hj=>by rcases j with _ | _ | j<;>first | rfl | omega,fun parts=>by kernel_rfl⟩
theorem Zox:Zc4 Tryz.prog 197:=⟨.agg #[.string ⟨#[]⟩,.slice none 0 0],fun w=>by kernel_rfl⟩
theorem Zir:ZfZ Tryz.prog 195 197 2 40:=ZqU (.agg #[.string ⟨#[]⟩,.slice none 0 0]) (by kernel_rfl) (by kernel_rfl) rfl (by decide) (fun w=>by kernel_rfl)
theorem ZqA:Zl Tryz.prog 137:=Zs Tryz.func137 rfl rfl
theorem Zqz:Zl Tryz.prog 138:=Zs Tryz.func138 rfl rfl
theorem Qe:ZW Tryz.prog 130 1 3:=fun b off w=>by kernel_rfl
theorem Zqy:Zl Tryz.prog 139:=Zs Tryz.func139 rfl rfl
theorem Zqx:Zl Tryz.prog 140:=Zs Tryz.func140 rfl rfl
theorem ZfM:Zl Tryz.prog 114:=Zs Tryz.func114 rfl rfl
theorem ZtU:Zl Tryz.prog 92:=Zs Tryz.func92 rfl rfl
theorem Zid:ZW Tryz.prog 147 0 0:=fun b off w=>by kernel_rfl
theorem Zep:Tryz.prog.underlying 149=some (.array 5 148):=by kernel_rfl
theorem Zta:XV Tryz.prog 148:=fun w=>by kernel_rfl
theorem Zkl:XB Tryz.prog 148 1:=fun w=>by kernel_rfl
theorem ZU:XV Tryz.prog 126:=fun w=>by kernel_rfl
theorem YU:X4 Tryz.prog 147 4:=⟨fun w=>by kernel_rfl,fun w=>by kernel_rfl⟩
theorem Za2:ZW Tryz.prog 130 5 14:=fun b off w=>by kernel_rfl
theorem YR:ZW Tryz.prog 130 6 15:=fun b off w=>by kernel_rfl
theorem ZH:ZW Tryz.prog 130 3 12:=fun b off w=>by kernel_rfl
theorem Qp:XV Tryz.prog 128:=fun w=>by kernel_rfl
theorem ZcH:Tryz.prog.underlying 128=some (.slice 147):=by kernel_rfl
theorem Zeg:Zl Tryz.prog 89:=Zs Tryz.func89 rfl rfl
theorem Yi:Yl Tryz.prog 128 147 4:=⟨by kernel_rfl,fun w=>by kernel_rfl⟩
theorem Zal:Zfc Tryz.prog 147 [.lit (.int .i64 0),.sl [],.lit (.int .i64 0),.lit (.bool false)]:=⟨(.agg #[.int .i64 0,.slice none 0 0,.int .i64 0,.bool false]),fun w=>by kernel_rfl,fun S w=>(show RdL S w [.lit (.int .i64 0),.sl [],.lit (.int .i64 0),.lit (.bool false)] [.int .i64 0,.slice none 0 0,.int .i64 0,.bool false]from⟨.lit _ True.intro,.nil _ _ (Nat.zero_le _),.lit _ True.intro,.lit _ True.intro,trivial⟩)⟩
theorem Xw:XB Tryz.prog 147 4:=fun w=>by kernel_rfl
theorem ZnT:Zl Tryz.prog 86:=Zs Tryz.func86 rfl rfl
theorem Y5:ZW Tryz.prog 147 3 3:=fun b off w=>by kernel_rfl
theorem QP:XB Tryz.prog 3 1:=fun w=>by kernel_rfl
theorem Zii:Zl Tryz.prog 90:=Zs Tryz.func90 rfl rfl
theorem Zfe:Tryz.prog.underlying 211=some (.array 2 29):=by kernel_rfl
theorem ZlW:XB Tryz.prog 29 1:=fun w=>by kernel_rfl
theorem ZqE:Zl Tryz.prog 133:=Zs Tryz.func133 rfl rfl
theorem ZcT:ZW Tryz.prog 130 2 11:=fun b off w=>by kernel_rfl
theorem Zrv:XV Tryz.prog 77:=fun w=>by kernel_rfl
theorem ZqD:Zl Tryz.prog 134:=Zs Tryz.func134 rfl rfl
theorem ZqC:Zl Tryz.prog 135:=Zs Tryz.func135 rfl rfl
theorem Zht:Zfc Tryz.prog 174 [.lit (.int .i64 0),.lit (.bool false)]:=⟨(.agg #[.int .i64 0,.bool false]),fun w=>by kernel_rfl,fun S w=>(show RdL S w [.lit (.int .i64 0),.lit (.bool false)] [.int .i64 0,.bool false]from⟨.lit _ True.intro,.lit _ True.intro,trivial⟩)⟩
theorem Zkk:XB Tryz.prog 174 2:=fun w=>by kernel_rfl
theorem Zia:ZW Tryz.prog 174 1 1:=fun b off w=>by kernel_rfl
theorem Zhm:X4 Tryz.prog 174 2:=⟨fun w=>by kernel_rfl,fun w=>by kernel_rfl⟩
theorem ZqH:Zl Tryz.prog 109:=Zs Tryz.func109 rfl rfl
theorem ZqI:Zl Tryz.prog 108:=Zs Tryz.func108 rfl rfl
theorem ZqK:Zl Tryz.prog 104:=Zs Tryz.func104 rfl rfl
theorem ZjR:Zl Tryz.prog 106:=Zs Tryz.func106 rfl rfl
theorem Qr:Zc4 Tryz.prog 147:=⟨.agg #[.int .i64 0,.slice none 0 0,.int .i64 0,.bool false],fun w=>by kernel_rfl⟩
theorem Y6:ZfZ Tryz.prog 128 147 4 48:=ZqU (.agg #[.int .i64 0,.slice none 0 0,.int .i64 0,.bool false]) (by kernel_rfl) (by kernel_rfl) rfl (by decide) (fun w=>by kernel_rfl)
theorem Xe:XB Tryz.prog 128 1:=fun w=>by kernel_rfl
theorem ZqJ:Zl Tryz.prog 107:=Zs Tryz.func107 rfl rfl
theorem Zlw:Zfc Tryz.prog 22 [.sl []]:=⟨(.slice none 0 0),fun w=>by kernel_rfl,fun S w=>(show RdL S w [.sl []] [.slice none 0 0]from⟨.nil _ _ (Nat.zero_le _),trivial⟩)⟩
theorem ZqG:Zl Tryz.prog 110:=Zs Tryz.func110 rfl rfl
theorem ZiE:Zfc Tryz.prog 3 [.lit (.int .i64 0)]:=⟨(.int .i64 0),fun w=>by kernel_rfl,fun S w=>(show RdL S w [.lit (.int .i64 0)] [.int .i64 0]from⟨.lit _ True.intro,trivial⟩)⟩
theorem ZqF:Zl Tryz.prog 111:=Zs Tryz.func111 rfl rfl
theorem Zlr:ZqZ Tryz.prog 174 2:=⟨(#[.int .i64 0,.bool false]),rfl,by kernel_rfl⟩
theorem ZqB:Zl Tryz.prog 136:=Zs Tryz.func136 rfl rfl
theorem ZtV:Zl Tryz.prog 88:=Zs Tryz.func88 rfl rfl
theorem Zj7:Zfc Tryz.prog 126 [.lit (.pointer none)]:=⟨(.pointer none),fun w=>by kernel_rfl,fun S w=>(show RdL S w [.lit (.pointer none)] [.pointer none]from⟨.lit _ True.intro,trivial⟩)⟩
theorem Zkm:XB Tryz.prog 126 1:=fun w=>by kernel_rfl
theorem Zcs:Zfc Tryz.prog 41 [.lit (.int .i64 0),.lit (.int .i64 0)]:=⟨(.agg #[.int .i64 0,.int .i64 0]),fun w=>by kernel_rfl,fun S w=>(show RdL S w [.lit (.int .i64 0),.lit (.int .i64 0)] [.int .i64 0,.int .i64 0]from⟨.lit _ True.intro,.lit _ True.intro,trivial⟩)⟩
theorem Zt6:Zl Tryz.prog 70:=Zs Tryz.func70 rfl rfl
theorem Zt5:Zl Tryz.prog 71:=Zs Tryz.func71 rfl rfl
theorem Zbr:X4 Tryz.prog 41 2:=⟨fun w=>by kernel_rfl,fun w=>by kernel_rfl⟩
theorem Zug:Zl Tryz.prog 53:=Zs Tryz.func53 rfl rfl
theorem Zux:Zl Tryz.prog 24:=Zs Tryz.func24 rfl rfl
theorem Zuw:Zl Tryz.prog 25:=Zs Tryz.func25 rfl rfl
set_option maxRecDepth 100000 in
theorem tb_one:∀ t∈[3,4,5,9,22,23,29,30,33,34,49,53,57,59,60,61,73,77,81,82,112,126,128,194,195,221],XV Tryz.prog t:=by
 intro t h
 simp only[List.mem_cons,List.not_mem_nil,or_false]at h
 rcases h with rfl | rfl | rfl | rfl | rfl | rfl | rfl | rfl | rfl | rfl | rfl | rfl | rfl | rfl | rfl | rfl | rfl | rfl | rfl | rfl | rfl | rfl | rfl | rfl | rfl | rfl<;>exact fun w=>by kernel_rfl
set_option maxRecDepth 100000 in
theorem tb_agg:∀ q∈[(25,3),(32,8),(41,2),(84,3),(87,2),(115,2),(123,4),(147,4),(159,4),(174,2),(197,2)],X4 Tryz.prog q.1 q.2:=by
 intro q h
 simp only[List.mem_cons,List.not_mem_nil,or_false]at h
 rcases h with rfl | rfl | rfl | rfl | rfl | rfl | rfl | rfl | rfl | rfl | rfl<;>exact⟨fun w=>by kernel_rfl,fun w=>by kernel_rfl⟩
set_option maxRecDepth 100000 in
theorem tb_fld:∀ q∈[(25,0,0),(25,1,1),(25,2,2),(32,0,0),(32,1,1),(32,2,2),(32,3,3),(32,4,4),(32,5,5),(32,6,6),(32,7,7),(41,0,0),(41,1,1),(63,0,0),(63,1,1),(63,2,2),(63,3,3),(63,4,4),(75,0,0),(75,1,3),(84,0,0),(84,1,1),(84,2,2),(87,0,0),(87,1,1),(115,0,0),(115,1,1),(123,0,0),(123,1,1),(123,2,2),(123,3,3),(130,0,0),(130,1,3),(130,2,11),(130,3,12),(130,4,13),(130,5,14),(130,6,15),(130,7,16),(130,8,17),(147,0,0),(147,1,1),(147,2,2),(147,3,3),(159,0,0),(159,1,1),(159,2,2),(159,3,3),(174,0,0),(174,1,1),(197,0,0),(197,1,1)],ZW Tryz.prog q.1 q.2.1 q.2.2:=by
 intro q h
 simp only[List.mem_cons,List.not_mem_nil,or_false]at h
 rcases h with rfl | rfl | rfl | rfl | rfl | rfl | rfl | rfl | rfl | rfl | rfl | rfl | rfl | rfl | rfl | rfl | rfl | rfl | rfl | rfl | rfl | rfl | rfl | rfl | rfl | rfl | rfl | rfl | rfl | rfl | rfl | rfl | rfl | rfl | rfl | rfl | rfl | rfl | rfl | rfl | rfl | rfl | rfl | rfl | rfl | rfl | rfl | rfl | rfl | rfl | rfl | rfl<;>exact fun b off w=>by kernel_rfl
def tb:Tbl Tryz.prog where
 one:=Ztq [3,4,5,9,22,23,29,30,33,34,49,53,57,59,60,61,73,77,81,82,112,126,128,194,195,221]
 agg:=lk1 [(25,3),(32,8),(41,2),(84,3),(87,2),(115,2),(123,4),(147,4),(159,4),(174,2),(197,2)]
 fld:=lk2 [(25,0,0),(25,1,1),(25,2,2),(32,0,0),(32,1,1),(32,2,2),(32,3,3),(32,4,4),(32,5,5),(32,6,6),(32,7,7),(41,0,0),(41,1,1),(63,0,0),(63,1,1),(63,2,2),(63,3,3),(63,4,4),(75,0,0),(75,1,3),(84,0,0),(84,1,1),(84,2,2),(87,0,0),(87,1,1),(115,0,0),(115,1,1),(123,0,0),(123,1,1),(123,2,2),(123,3,3),(130,0,0),(130,1,3),(130,2,11),(130,3,12),(130,4,13),(130,5,14),(130,6,15),(130,7,16),(130,8,17),(147,0,0),(147,1,1),(147,2,2),(147,3,3),(159,0,0),(159,1,1),(159,2,2),(159,3,3),(174,0,0),(174,1,1),(197,0,0),(197,1,1)]
 h1:=fun t h=>tb_one t (Zjx h)
 h2:=fun t k h=>tb_agg (t,k+1) (Zm7 h)
 h3:=fun s f d h=>tb_fld (s,f,d) (Zm6 h)
 mix:=Yh
theorem Zbf {J:World→Prop} (hJ:Stab J) (M1:Nat) (M2:Nat) (M3:Nat) (M4:Nat) (M5:Nat) (cs:List ByteArray) (vs:List ByteArray) (s:ByteArray)  :FnR Tryz.prog J 36 [OB.set keyS M1 cs,OB.set keyS M2 vs] [.ptr (mpC [M1,M2,M3,M4,M5]),.str s] (.bool (decide (s∈cs)||decide (s∈vs))):=by
 refine Z9 (N:=19) Tryz.func36 rfl rfl (lb rfl) fun S w0 hS hJ0 hH=>?_
 clear hJ0
 refine qs tb hJ [0,1] [_] [_,_] ?_
 refine hqs tb hJ [1014] [_,_,_,_,_,.bool (decide (s∈cs)),_,_,_,_,_,_,.bool (decide (s∈vs)),_,_] [5,12] [_] rfl ⟨fun _ _ hk hx hl _=>Z8 (Kd:=keyS) (xs:=cs) ZV ZM s rfl (Y0 hH hk (mo 0 rfl)) (hl.D 3 8 rfl rfl) (hl.D 4 9 rfl rfl) hx,fun _ _ hk hx hl hc=>Z8 (Kd:=keyS) (xs:=vs) ZV ZM s rfl (Y0 hH hk (mo 1 rfl)) (hl.D 10 15 rfl hc) (hl.D 11 16 rfl hc) hx,trivial⟩ ?_
 exact Zg (rtn (m:=0) rfl rfl (eB (by first | rfl | grind[ZF])))
theorem ZsK {J:World→Prop} (hJ:Stab J) (M1:Nat) (M2:Nat) (M3:Nat) (M4:Nat) (M5:Nat) (cs:List ByteArray) (vs:List ByteArray) (s:ByteArray)  :FnR Tryz.prog J 60 [OB.set keyS M1 cs,OB.set keyS M2 vs] [.str s,.ptr [.ptr (mpC [M1,M2,M3,M4,M5])]] (.bool (!(decide (s∈cs)||decide (s∈vs)))):=by
 refine Z9 (N:=8) Tryz.func60 rfl rfl (lb rfl) fun S w0 hS hJ0 hH=>?_
 clear hJ0
 refine qs tb hJ [0,1] [_] [_,_] ?_
 refine hqs tb hJ [1004] [_,_,.bool (decide (s∈cs)||decide (s∈vs)),_,_] [2] [_] rfl ⟨fun _ _ hk hx hl _=>Y9 (Zbf hJ (M1:=M1) (M2:=M2) (M3:=M3) (M4:=M4) (M5:=M5) (cs:=cs) (vs:=vs) (s:=s) ) ZfJ rfl (nm hS hk) (hx) (ZG (Y0 hH hk (mo 0 rfl)) (ZG (Y0 hH hk (mo 1 rfl)) Zq)) (Za (hl.D 0 4 rfl rfl) (Za (hl.D 1 5 rfl rfl) Ze)) (js hJ hx),trivial⟩ ?_
 exact Zg (rtn (m:=0) rfl rfl rfl)
theorem Zgw {J:World→Prop} (hJ:Stab J) (xs:List ByteArray) (f:FuncId) (caps:List AV) (Os:List OB) (p:ByteArray→Bool) (hf:∀ q',FnR Tryz.prog J f Os ([.str (q')]++caps) (.bool (p q'))) (hk0:Zl Tryz.prog f):FnR Tryz.prog J 66 Os [.rd (Zb xs),.fn f caps] (.int (Yz p xs)):=by
 refine Z9 (N:=19) Tryz.func66 rfl rfl (lb rfl) fun S w0 hS hJ0 hH=>?_
 clear hJ0
 refine ln 0 fun hl1=>?_
 refine qs tb hJ [0,1] [_] [_,_] ?_
 refine Zj (hqs tb hJ [0,1,1001,1002] [_,.int (xs.length:Nat),_] [1] [_,_,_,_] rfl ⟨YG Zv,trivial⟩ ?_)
 refine Zf (lp (ι:=Nat) (fun k=>(k≤xs.length)∧(∀ j,j<k→p (ge xs j)=false)) (fun k=>[(8,.int (k:Nat))]) (fun k=>xs.length-k) [0,1,2,3] [_,_,_] 0 ⟨Nat.zero_le _,fun j hj=>by omega⟩ ?_)
 rintro k ⟨f1_1,f1_2⟩
 refine qs tb hJ [0,1,2,3,1000] [_] [_,_,_,_,_] ?_
 refine cjS 4 (fun hb1=>?_) fun hb1=>?_
 try simp at hb1
 refine Zc (nx (Zj (Zf (qs tb hJ [0,1,2,3,1001] [_,_] [_,_,_,_,_] ?_))))
 refine hqs tb hJ [0,1,2,3,4,1005] [_,_,_,.ptr [.lit (.string (ge xs k))],_,.bool (p (ge xs k))] [3,5] [_,_,_,_,_,_] rfl ⟨iIx Zn,fun _ _ hk hx hl _=>Zbu (hf (ge xs k)) hk0 rfl (hl.D 0 11 rfl rfl) (nm hS hk) (hx) (fun _ ho=>Y0 hH hk ho) (Za (hl.D 4 15 rfl rfl) Ze) (js hJ hx),trivial⟩ ?_
 refine cj 5 (fun hb2=>?_) fun hb2=>?_
 try simp at hb2
 refine qs tb hJ [1001] [_,_] [_] ?_
 exact Zg (rtn (m:=0) rfl rfl (eI (by first | exact(YJ hb1 hb2 f1_2).symm | exact(Ys fun j hj=>f1_2 j (by omega)).symm)))
 try simp at hb2
 refine Zc (nx (hqp tb hJ [0,1,2,1001] [.int (k+1:Nat),_] [0] [_,_,_,_] rfl ⟨Yv,trivial⟩ ?_))
 exact lpE (k+1) [0,1,2,3] ⟨by omega,ZZ f1_2 hb2⟩
 try simp at hb1
 refine Zx (nx (qs tb hJ [1000] [_] [_] ?_))
 exact Zg (rtn (m:=0) rfl rfl (eI (by first | exact(YJ hb1 hb2 f1_2).symm | exact(Ys fun j hj=>f1_2 j (by omega)).symm)))
theorem YZ {J:World→Prop} (hJ:Stab J) (xs:List ByteArray) (f:FuncId) (caps:List AV) (Os:List OB) (p:ByteArray→Bool) (hf:∀ q',FnR Tryz.prog J f Os ([.str (q')]++caps) (.bool (p q'))) (hk0:Zl Tryz.prog f):FnR Tryz.prog J 42 Os [.rd (Zb xs),.fn f caps] (.bool (xs.any p)):=by
 refine Z9 (N:=9) Tryz.func42 rfl rfl (lb rfl) fun S w0 hS hJ0 hH=>?_
 clear hJ0
 refine ln 0 fun hl1=>?_
 refine qs tb hJ [0,1] [_] [_,_] ?_
 refine hqs tb hJ [1004] [_,_,.int (Yz p xs),_,_] [2] [_] rfl ⟨fun _ _ hk hx hl _=>Y9 (Zgw hJ (xs:=xs) (f:=f) (caps:=caps) (Os:=Os) (p:=p) (hf) (hk0)) Zt8 rfl (nm hS hk) (hx) (fun _ ho=>Y0 hH hk ho) (Za (hl.D 0 5 rfl rfl) (Za (hl.D 1 6 rfl rfl) Ze)) (js hJ hx),trivial⟩ ?_
 exact Zg (rtn (m:=0) rfl rfl (eB (by rw[←Zbi])))
theorem ZcM {J:World→Prop} (hJ:Stab J) (xs:List Hy) (f:FuncId) (caps:List AV) (Os:List OB) (p:Hy→Bool) (hf:∀ q',FnR Tryz.prog J f Os ([.agg (hyC (q'))]++caps) (.bool (p q'))) (hk0:Zl Tryz.prog f):FnR Tryz.prog J 68 Os [.rd (YW xs),.fn f caps] (.int (Yz p xs)):=by
 refine Z9 (N:=19) Tryz.func68 rfl rfl (lb rfl) fun S w0 hS hJ0 hH=>?_
 clear hJ0
 refine ln 0 fun hl1=>?_
 refine qs tb hJ [0,1] [_] [_,_] ?_
 refine Zj (hqs tb hJ [0,1,1001,1002] [_,.int (xs.length:Nat),_] [1] [_,_,_,_] rfl ⟨YG ZN,trivial⟩ ?_)
 refine Zf (lp (ι:=Nat) (fun k=>(k≤xs.length)∧(∀ j,j<k→p (ge xs j)=false)) (fun k=>[(8,.int (k:Nat))]) (fun k=>xs.length-k) [0,1,2,3] [_,_,_] 0 ⟨Nat.zero_le _,fun j hj=>by omega⟩ ?_)
 rintro k ⟨f1_1,f1_2⟩
 refine qs tb hJ [0,1,2,3,1000] [_] [_,_,_,_,_] ?_
 refine cjS 4 (fun hb1=>?_) fun hb1=>?_
 try simp at hb1
 refine Zc (nx (Zj (Zf (qs tb hJ [0,1,2,3,1001] [_,_] [_,_,_,_,_] ?_))))
 refine hqs tb hJ [0,1,2,3,4,1005] [_,_,_,.ptr (hyC (ge xs k)),_,.bool (p (ge xs k))] [3,5] [_,_,_,_,_,_] rfl ⟨iIx ZR,fun _ _ hk hx hl _=>Zbu (hf (ge xs k)) hk0 rfl (hl.D 0 11 rfl rfl) (nm hS hk) (hx) (fun _ ho=>Y0 hH hk ho) (Za (hl.D 4 15 rfl rfl) Ze) (js hJ hx),trivial⟩ ?_
 refine cj 5 (fun hb2=>?_) fun hb2=>?_
 try simp at hb2
 refine qs tb hJ [1001] [_,_] [_] ?_
 exact Zg (rtn (m:=0) rfl rfl (eI (by first | exact(YJ hb1 hb2 f1_2).symm | exact(Ys fun j hj=>f1_2 j (by omega)).symm)))
 try simp at hb2
 refine Zc (nx (hqp tb hJ [0,1,2,1001] [.int (k+1:Nat),_] [0] [_,_,_,_] rfl ⟨Yv,trivial⟩ ?_))
 exact lpE (k+1) [0,1,2,3] ⟨by omega,ZZ f1_2 hb2⟩
 try simp at hb1
 refine Zx (nx (qs tb hJ [1000] [_] [_] ?_))
 exact Zg (rtn (m:=0) rfl rfl (eI (by first | exact(YJ hb1 hb2 f1_2).symm | exact(Ys fun j hj=>f1_2 j (by omega)).symm)))
theorem ZaV {J:World→Prop} (hJ:Stab J) (xs:List Hy) (f:FuncId) (caps:List AV) (Os:List OB) (p:Hy→Bool) (hf:∀ q',FnR Tryz.prog J f Os ([.agg (hyC (q'))]++caps) (.bool (p q'))) (hk0:Zl Tryz.prog f):FnR Tryz.prog J 46 Os [.rd (YW xs),.fn f caps] (.bool (xs.any p)):=by
 refine Z9 (N:=9) Tryz.func46 rfl rfl (lb rfl) fun S w0 hS hJ0 hH=>?_
 clear hJ0
 refine ln 0 fun hl1=>?_
 refine qs tb hJ [0,1] [_] [_,_] ?_
 refine hqs tb hJ [1004] [_,_,.int (Yz p xs),_,_] [2] [_] rfl ⟨fun _ _ hk hx hl _=>Y9 (ZcM hJ (xs:=xs) (f:=f) (caps:=caps) (Os:=Os) (p:=p) (hf) (hk0)) ZnX rfl (nm hS hk) (hx) (fun _ ho=>Y0 hH hk ho) (Za (hl.D 0 5 rfl rfl) (Za (hl.D 1 6 rfl rfl) Ze)) (js hJ hx),trivial⟩ ?_
 exact Zg (rtn (m:=0) rfl rfl (eB (by rw[←Zbi])))
theorem Zgx {J:World→Prop} (hJ:Stab J) (xs:List Pr) (f:FuncId) (caps:List AV) (Os:List OB) (p:Pr→Bool) (hf:∀ q',FnR Tryz.prog J f Os ([.agg (prC (q'))]++caps) (.bool (p q'))) (hk0:Zl Tryz.prog f):FnR Tryz.prog J 98 Os [.rd (Xm xs),.fn f caps] (.int (Yz p xs)):=by
 refine Z9 (N:=19) Tryz.func98 rfl rfl (lb rfl) fun S w0 hS hJ0 hH=>?_
 clear hJ0
 refine ln 0 fun hl1=>?_
 refine qs tb hJ [0,1] [_] [_,_] ?_
 refine Zj (hqs tb hJ [0,1,1001,1002] [_,.int (xs.length:Nat),_] [1] [_,_,_,_] rfl ⟨YG Ya,trivial⟩ ?_)
 refine Zf (lp (ι:=Nat) (fun k=>(k≤xs.length)∧(∀ j,j<k→p (ge xs j)=false)) (fun k=>[(8,.int (k:Nat))]) (fun k=>xs.length-k) [0,1,2,3] [_,_,_] 0 ⟨Nat.zero_le _,fun j hj=>by omega⟩ ?_)
 rintro k ⟨f1_1,f1_2⟩
 refine qs tb hJ [0,1,2,3,1000] [_] [_,_,_,_,_] ?_
 refine cjS 4 (fun hb1=>?_) fun hb1=>?_
 try simp at hb1
 refine Zc (nx (Zj (Zf (qs tb hJ [0,1,2,3,1001] [_,_] [_,_,_,_,_] ?_))))
 refine hqs tb hJ [0,1,2,3,4,1005] [_,_,_,.ptr (prC (ge xs k)),_,.bool (p (ge xs k))] [3,5] [_,_,_,_,_,_] rfl ⟨iIx ZD,fun _ _ hk hx hl _=>Zbu (hf (ge xs k)) hk0 rfl (hl.D 0 11 rfl rfl) (nm hS hk) (hx) (fun _ ho=>Y0 hH hk ho) (Za (hl.D 4 15 rfl rfl) Ze) (js hJ hx),trivial⟩ ?_
 refine cj 5 (fun hb2=>?_) fun hb2=>?_
 try simp at hb2
 refine qs tb hJ [1001] [_,_] [_] ?_
 exact Zg (rtn (m:=0) rfl rfl (eI (by first | exact(YJ hb1 hb2 f1_2).symm | exact(Ys fun j hj=>f1_2 j (by omega)).symm)))
 try simp at hb2
 refine Zc (nx (hqp tb hJ [0,1,2,1001] [.int (k+1:Nat),_] [0] [_,_,_,_] rfl ⟨Yv,trivial⟩ ?_))
 exact lpE (k+1) [0,1,2,3] ⟨by omega,ZZ f1_2 hb2⟩
 try simp at hb1
 refine Zx (nx (qs tb hJ [1000] [_] [_] ?_))
 exact Zg (rtn (m:=0) rfl rfl (eI (by first | exact(YJ hb1 hb2 f1_2).symm | exact(Ys fun j hj=>f1_2 j (by omega)).symm)))
theorem ZcN {J:World→Prop} (hJ:Stab J) (xs:List Fr) (f:FuncId) (caps:List AV) (Os:List OB) (p:Fr→Bool) (hf:∀ q',FnR Tryz.prog J f Os ([.agg (frC (q'))]++caps) (.bool (p q'))) (hk0:Zl Tryz.prog f):FnR Tryz.prog J 32 Os [.rd (YD xs),.fn f caps] (.int (Yz p xs)):=by
 refine Z9 (N:=19) Tryz.func32 rfl rfl (lb rfl) fun S w0 hS hJ0 hH=>?_
 clear hJ0
 refine ln 0 fun hl1=>?_
 refine qs tb hJ [0,1] [_] [_,_] ?_
 refine Zj (hqs tb hJ [0,1,1001,1002] [_,.int (xs.length:Nat),_] [1] [_,_,_,_] rfl ⟨YG YK,trivial⟩ ?_)
 refine Zf (lp (ι:=Nat) (fun k=>(k≤xs.length)∧(∀ j,j<k→p (ge xs j)=false)) (fun k=>[(8,.int (k:Nat))]) (fun k=>xs.length-k) [0,1,2,3] [_,_,_] 0 ⟨Nat.zero_le _,fun j hj=>by omega⟩ ?_)
 rintro k ⟨f1_1,f1_2⟩
 refine qs tb hJ [0,1,2,3,1000] [_] [_,_,_,_,_] ?_
 refine cjS 4 (fun hb1=>?_) fun hb1=>?_
 try simp at hb1
 refine Zc (nx (Zj (Zf (qs tb hJ [0,1,2,3,1001] [_,_] [_,_,_,_,_] ?_))))
 refine hqs tb hJ [0,1,2,3,4,1005] [_,_,_,.ptr (frC (ge xs k)),_,.bool (p (ge xs k))] [3,5] [_,_,_,_,_,_] rfl ⟨iIx Ye,fun _ _ hk hx hl _=>Zbu (hf (ge xs k)) hk0 rfl (hl.D 0 11 rfl rfl) (nm hS hk) (hx) (fun _ ho=>Y0 hH hk ho) (Za (hl.D 4 15 rfl rfl) Ze) (js hJ hx),trivial⟩ ?_
 refine cj 5 (fun hb2=>?_) fun hb2=>?_
 try simp at hb2
 refine qs tb hJ [1001] [_,_] [_] ?_
 exact Zg (rtn (m:=0) rfl rfl (eI (by first | exact(YJ hb1 hb2 f1_2).symm | exact(Ys fun j hj=>f1_2 j (by omega)).symm)))
 try simp at hb2
 refine Zc (nx (hqp tb hJ [0,1,2,1001] [.int (k+1:Nat),_] [0] [_,_,_,_] rfl ⟨Yv,trivial⟩ ?_))
 exact lpE (k+1) [0,1,2,3] ⟨by omega,ZZ f1_2 hb2⟩
 try simp at hb1
 refine Zx (nx (qs tb hJ [1000] [_] [_] ?_))
 exact Zg (rtn (m:=0) rfl rfl (eI (by first | exact(YJ hb1 hb2 f1_2).symm | exact(Ys fun j hj=>f1_2 j (by omega)).symm)))
theorem ZdN {J:World→Prop} (hJ:Stab J) (xs:List Fr) (f:FuncId) (caps:List AV) (Os:List OB) (p:Fr→Bool) (hf:∀ q',FnR Tryz.prog J f Os ([.agg (frC (q'))]++caps) (.bool (p q'))) (hk0:Zl Tryz.prog f):FnR Tryz.prog J 26 Os [.rd (YD xs),.fn f caps] (.bool (xs.any p)):=by
 refine Z9 (N:=9) Tryz.func26 rfl rfl (lb rfl) fun S w0 hS hJ0 hH=>?_
 clear hJ0
 refine ln 0 fun hl1=>?_
 refine qs tb hJ [0,1] [_] [_,_] ?_
 refine hqs tb hJ [1004] [_,_,.int (Yz p xs),_,_] [2] [_] rfl ⟨fun _ _ hk hx hl _=>Y9 (ZcN hJ (xs:=xs) (f:=f) (caps:=caps) (Os:=Os) (p:=p) (hf) (hk0)) Zn6 rfl (nm hS hk) (hx) (fun _ ho=>Y0 hH hk ho) (Za (hl.D 0 5 rfl rfl) (Za (hl.D 1 6 rfl rfl) Ze)) (js hJ hx),trivial⟩ ?_
 exact Zg (rtn (m:=0) rfl rfl (eB (by rw[←Zbi])))
theorem Zjb {J:World→Prop} (hJ:Stab J) (xs:List ByteArray) (ys:List ByteArray)  :Fn Tryz.prog J 77 [.rd (Zb xs),.rd (Zb ys)] (.bool (decide (xs=ys))):=by
 refine Zu (N:=26) Tryz.func77 rfl rfl (lb rfl) fun S w0 hS hJ0=>?_
 clear hJ0
 refine ln 0 fun hl1=>?_
 refine ln 1 fun hl2=>?_
 refine qs tb hJ [0,1] [_] [_,_] ?_
 refine Zj (hqs tb hJ [0,1,1004] [_,.int (xs.length:Nat),_,.int (ys.length:Nat),_] [1,3] [_,_,_] rfl ⟨YG Zv,YG Zv,trivial⟩ ?_)
 refine cj 2 (fun hb1=>?_) fun hb1=>?_
 try simp at hb1
 refine qs tb hJ [1000] [_] [_] ?_
 exact Zg (rtn (m:=0) rfl rfl (eB (by first | (have:=ZbE (xs:=xs) (ys:=ys) (by omega) (fun j hj=>f1_2 j (by omega));simp[this];done) | (symm;rw[decide_eq_false_iff_not];intro e;subst e;simp_all;done))))
 try simp at hb1
 refine Zc (nx (Zj (hqs tb hJ [0,1,1001,1002] [_,.int (xs.length:Nat),_] [1] [_,_,_,_] rfl ⟨YG Zv,trivial⟩ ?_)))
 refine Zf (lp (ι:=Nat) (fun k=>(k≤xs.length)∧(∀ j,j<k→ge xs j=ge ys j)) (fun k=>[(13,.int (k:Nat))]) (fun k=>xs.length-k) [0,1,2,3] [_,_,_] 0 ⟨Nat.zero_le _,fun j hj=>by omega⟩ ?_)
 rintro k ⟨f1_1,f1_2⟩
 refine qs tb hJ [0,1,2,3,1000] [_] [_,_,_,_,_] ?_
 refine cjS 4 (fun hb2=>?_) fun hb2=>?_
 try simp at hb2
 refine Zc (nx (Zj (Zf (qs tb hJ [0,1,2,3,1001] [_,_] [_,_,_,_,_] ?_))))
 refine hqs tb hJ [0,1,2,3,1008] [_,_,.ptr [.lit (.string (ge xs k))],_,_,_,.ptr [.lit (.string (ge ys k))],_,_] [2,6] [_,_,_,_,_] rfl ⟨iIx Zn,iIx Zn,trivial⟩ ?_
 refine cj 4 (fun hb3=>?_) fun hb3=>?_
 try simp at hb3
 refine qs tb hJ [1000] [_] [_] ?_
 exact Zg (rtn (m:=0) rfl rfl (eB (by first | (have:=ZbE (xs:=xs) (ys:=ys) (by omega) (fun j hj=>f1_2 j (by omega));simp[this];done) | (symm;rw[decide_eq_false_iff_not];intro e;subst e;simp_all;done))))
 try simp at hb3
 refine Zc (nx (hqp tb hJ [0,1,2,1001] [.int (k+1:Nat),_] [0] [_,_,_,_] rfl ⟨Yv,trivial⟩ ?_))
 exact lpE (k+1) [0,1,2,3] ⟨by omega,ZZ f1_2 hb3⟩
 try simp at hb2
 refine Zx (nx (qs tb hJ [1000] [_] [_] ?_))
 exact Zg (rtn (m:=0) rfl rfl (eB (by first | (have:=ZbE (xs:=xs) (ys:=ys) (by omega) (fun j hj=>f1_2 j (by omega));simp[this];done) | (symm;rw[decide_eq_false_iff_not];intro e;subst e;simp_all;done))))
theorem Zjc {J:World→Prop} (hJ:Stab J) (xs:List Int) (ys:List Int)  :Fn Tryz.prog J 15 [.rd (Xj xs),.rd (Xj ys)] (.bool (decide (xs=ys))):=by
 refine Zu (N:=26) Tryz.func15 rfl rfl (lb rfl) fun S w0 hS hJ0=>?_
 clear hJ0
 refine ln 0 fun hl1=>?_
 refine ln 1 fun hl2=>?_
 refine qs tb hJ [0,1] [_] [_,_] ?_
 refine Zj (hqs tb hJ [0,1,1004] [_,.int (xs.length:Nat),_,.int (ys.length:Nat),_] [1,3] [_,_,_] rfl ⟨YG Qh,YG Qh,trivial⟩ ?_)
 refine cj 2 (fun hb1=>?_) fun hb1=>?_
 try simp at hb1
 refine qs tb hJ [1000] [_] [_] ?_
 exact Zg (rtn (m:=0) rfl rfl (eB (by first | (have:=ZbE (xs:=xs) (ys:=ys) (by omega) (fun j hj=>f1_2 j (by omega));simp[this];done) | (symm;rw[decide_eq_false_iff_not];intro e;subst e;simp_all;done))))
 try simp at hb1
 refine Zc (nx (Zj (hqs tb hJ [0,1,1001,1002] [_,.int (xs.length:Nat),_] [1] [_,_,_,_] rfl ⟨YG Qh,trivial⟩ ?_)))
 refine Zf (lp (ι:=Nat) (fun k=>(k≤xs.length)∧(∀ j,j<k→ge xs j=ge ys j)) (fun k=>[(13,.int (k:Nat))]) (fun k=>xs.length-k) [0,1,2,3] [_,_,_] 0 ⟨Nat.zero_le _,fun j hj=>by omega⟩ ?_)
 rintro k ⟨f1_1,f1_2⟩
 refine qs tb hJ [0,1,2,3,1000] [_] [_,_,_,_,_] ?_
 refine cjS 4 (fun hb2=>?_) fun hb2=>?_
 try simp at hb2
 refine Zc (nx (Zj (Zf (qs tb hJ [0,1,2,3,1001] [_,_] [_,_,_,_,_] ?_))))
 refine hqs tb hJ [0,1,2,3,1008] [_,_,.ptr [.lit (.int .i64 (ge xs k))],_,_,_,.ptr [.lit (.int .i64 (ge ys k))],_,_] [2,6] [_,_,_,_,_] rfl ⟨iIx Yc,iIx Yc,trivial⟩ ?_
 refine cj 4 (fun hb3=>?_) fun hb3=>?_
 try simp at hb3
 refine qs tb hJ [1000] [_] [_] ?_
 exact Zg (rtn (m:=0) rfl rfl (eB (by first | (have:=ZbE (xs:=xs) (ys:=ys) (by omega) (fun j hj=>f1_2 j (by omega));simp[this];done) | (symm;rw[decide_eq_false_iff_not];intro e;subst e;simp_all;done))))
 try simp at hb3
 refine Zc (nx (hqp tb hJ [0,1,2,1001] [.int (k+1:Nat),_] [0] [_,_,_,_] rfl ⟨Yv,trivial⟩ ?_))
 exact lpE (k+1) [0,1,2,3] ⟨by omega,ZZ f1_2 hb3⟩
 try simp at hb2
 refine Zx (nx (qs tb hJ [1000] [_] [_] ?_))
 exact Zg (rtn (m:=0) rfl rfl (eB (by first | (have:=ZbE (xs:=xs) (ys:=ys) (by omega) (fun j hj=>f1_2 j (by omega));simp[this];done) | (symm;rw[decide_eq_false_iff_not];intro e;subst e;simp_all;done))))
theorem Zjd {J:World→Prop} (hJ:Stab J) (xs:List ByteArray) (b:xs.length*16≤140737488351232):FnM (ι:=Value) Tryz.prog J 69 [] [.rd (Zb xs)] [] (fun i'=>.lit (i')) (fun i'=>[OB.row i' 9 1 (xs.map Q5)]):=by
 refine ZX (N:=8) Tryz.func69 rfl rfl (lb rfl) fun S w0 R hS hJ0 hH=>?_
 refine Z6 (B:=St All (SO S (R)) w0 8 [(0,.rd (Zb xs))] (XO J S w0.heap.size (R))) ?_ fun a w h=>h
 refine ln 0 fun hl1=>?_
 refine qso tb hJ [0] [_] [_] ?_
 refine Zj (tsq ?_)
 refine snK 1 tb rfl ?_
 refine Zda (f:=Q5) (xs:=xs) Zv rfl rfl rfl (lb rfl) (fun a w h=>(h.get 0 rfl)) fun g1 hg1=>?_
 refine seK [0,2] [_,_] rfl ?_
 refine nx (cj 0 (fun hb1=>?_) fun hb1=>?_)
 try simp at hb1
 refine qso tb hJ [1000] [_] [_] ?_
 refine tw (Z7 9 1 hJ) ?_
 refine tw (ob0 (congrArg (fun z'=>OB.row (.slice none 0 0) 9 1 ((z').map Q5)) (show([]:List ByteArray)=xs from by first | exact(hg1 (by assumption)).symm | simp))) ?_
 exact Zg (fun a w h=>ZQ  (m:=0) (.slice none 0 0) rfl h rfl rfl)
 try simp at hb1
 refine Zc (nx (Zj (fun a w h=>Zdd (id:=3) (t:=22) (e:=9) (size:=1) (bytes:=16) (i0:=0) (fol:=3) (d:=2) (ch:=[(2,(xs.map Q5))]) (fun ix'=>([.any,.rd (Zb xs),.any,.any]:List AV).getD ix' .any) (fun ix'=>([true,true,true,true]:List Bool).getD ix' true) [] (xs.map Q5) (by simp) ?r3_1 hJ hJ0 h Yh rfl rfl rfl rfl ⟨?o3_1_0,⟨?o3_1_1,⟨?o3_1_2,⟨?o3_1_3,trivial⟩⟩⟩⟩ trivial (fun v2=>?n3_1))))
 case r3_1=>
  refine Row.mk' X3 ⟨_,rfl,rfl,rfl,rfl,rfl⟩ ⟨?x3_1_0,trivial⟩ ⟨_,_,_,_,rfl,rfl,rfl,rfl,rfl,rfl,rfl,rfl,rfl⟩ rfl rfl rfl
  case x3_1_0=>exact⟨_,_,_,_,rfl,rfl,rfl,rfl,rfl,rfl,rfl,rfl,Q2 (f:=Q5) (fun _=>rfl),(by have hm:maxLen=9223372036854775807:=rfl;simp[upto];first | omega | (simp;omega)),(by have hm:maxLen=9223372036854775807:=rfl;simp[upto];first | omega | (simp;omega)),fun _ _ _ _ _ hl=>(hl.D 1 6 rfl rfl)⟩
 exact fun h=>Zi rfl h
 exact fun _ _=>⟨rfl,fun _ _ _ hx hl _=>Yk rfl (hl.env 1 0 _ rfl rfl) hx⟩
 exact fun h=>Zi rfl h
 exact fun h=>Zi rfl h
 clear a w h
 exact nx (Zg (fun a w h=>ZQ  (m:=0) v2 rfl h rfl rfl))
theorem ZpF {J:World→Prop} (hJ:Stab J) (xs:List Hy) (b:xs.length*48≤140737488351232):FnM (ι:=Value) Tryz.prog J 51 [] [.rd (YW xs)] [] (fun i'=>.lit (i')) (fun i'=>[OB.row i' 84 3 (xs.map hyC)]):=by
 refine ZX (N:=8) Tryz.func51 rfl rfl (lb rfl) fun S w0 R hS hJ0 hH=>?_
 refine Z6 (B:=St All (SO S (R)) w0 8 [(0,.rd (YW xs))] (XO J S w0.heap.size (R))) ?_ fun a w h=>h
 refine ln 0 fun hl1=>?_
 refine qso tb hJ [0] [_] [_] ?_
 refine Zj (tsq ?_)
 refine snK 1 tb rfl ?_
 refine Zda (f:=hyC) (xs:=xs) ZN rfl rfl rfl (lb rfl) (fun a w h=>(h.get 0 rfl)) fun g1 hg1=>?_
 refine seK [0,2] [_,_] rfl ?_
 refine nx (cj 0 (fun hb1=>?_) fun hb1=>?_)
 try simp at hb1
 refine qso tb hJ [1000] [_] [_] ?_
 refine tw (Z7 84 3 hJ) ?_
 refine tw (ob0 (congrArg (fun z'=>OB.row (.slice none 0 0) 84 3 ((z').map hyC)) (show([]:List Hy)=xs from by first | exact(hg1 (by assumption)).symm | simp))) ?_
 exact Zg (fun a w h=>ZQ  (m:=0) (.slice none 0 0) rfl h rfl rfl)
 try simp at hb1
 refine Zc (nx (Zj (fun a w h=>Zdd (id:=3) (t:=29) (e:=84) (size:=3) (bytes:=48) (i0:=0) (fol:=3) (d:=2) (ch:=[(2,(xs.map hyC))]) (fun ix'=>([.any,.rd (YW xs),.any,.any]:List AV).getD ix' .any) (fun ix'=>([true,true,true,true]:List Bool).getD ix' true) [] (xs.map hyC) (by simp) ?r3_1 hJ hJ0 h Yh rfl rfl rfl rfl ⟨?o3_1_0,⟨?o3_1_1,⟨?o3_1_2,⟨?o3_1_3,trivial⟩⟩⟩⟩ trivial (fun v2=>?n3_1))))
 case r3_1=>
  refine Row.mk' Zei ⟨_,rfl,rfl,rfl,rfl,rfl⟩ ⟨?x3_1_0,trivial⟩ ⟨_,_,_,_,rfl,rfl,rfl,rfl,rfl,rfl,rfl,rfl,rfl⟩ rfl rfl rfl
  case x3_1_0=>exact⟨_,_,_,_,rfl,rfl,rfl,rfl,rfl,rfl,rfl,rfl,Q2 (f:=hyC) (fun _=>rfl),(by have hm:maxLen=9223372036854775807:=rfl;simp[upto];first | omega | (simp;omega)),(by have hm:maxLen=9223372036854775807:=rfl;simp[upto];first | omega | (simp;omega)),fun _ _ _ _ _ hl=>(hl.D 1 6 rfl rfl)⟩
 exact fun h=>Zi rfl h
 exact fun _ _=>⟨rfl,fun _ _ _ hx hl _=>Yk rfl (hl.env 1 0 _ rfl rfl) hx⟩
 exact fun h=>Zi rfl h
 exact fun h=>Zi rfl h
 clear a w h
 exact nx (Zg (fun a w h=>ZQ  (m:=0) v2 rfl h rfl rfl))
theorem ZpD {J:World→Prop} (hJ:Stab J) (xs:List Pr) (b:xs.length*32≤140737488351232):FnM (ι:=Value) Tryz.prog J 80 [] [.rd (Xm xs)] [] (fun i'=>.lit (i')) (fun i'=>[OB.row i' 115 2 (xs.map prC)]):=by
 refine ZX (N:=8) Tryz.func80 rfl rfl (lb rfl) fun S w0 R hS hJ0 hH=>?_
 refine Z6 (B:=St All (SO S (R)) w0 8 [(0,.rd (Xm xs))] (XO J S w0.heap.size (R))) ?_ fun a w h=>h
 refine ln 0 fun hl1=>?_
 refine qso tb hJ [0] [_] [_] ?_
 refine Zj (tsq ?_)
 refine snK 1 tb rfl ?_
 refine Zda (f:=prC) (xs:=xs) Ya rfl rfl rfl (lb rfl) (fun a w h=>(h.get 0 rfl)) fun g1 hg1=>?_
 refine seK [0,2] [_,_] rfl ?_
 refine nx (cj 0 (fun hb1=>?_) fun hb1=>?_)
 try simp at hb1
 refine qso tb hJ [1000] [_] [_] ?_
 refine tw (Z7 115 2 hJ) ?_
 refine tw (ob0 (congrArg (fun z'=>OB.row (.slice none 0 0) 115 2 ((z').map prC)) (show([]:List Pr)=xs from by first | exact(hg1 (by assumption)).symm | simp))) ?_
 exact Zg (fun a w h=>ZQ  (m:=0) (.slice none 0 0) rfl h rfl rfl)
 try simp at hb1
 refine Zc (nx (Zj (fun a w h=>Zdd (id:=3) (t:=30) (e:=115) (size:=2) (bytes:=32) (i0:=0) (fol:=3) (d:=2) (ch:=[(2,(xs.map prC))]) (fun ix'=>([.any,.rd (Xm xs),.any,.any]:List AV).getD ix' .any) (fun ix'=>([true,true,true,true]:List Bool).getD ix' true) [] (xs.map prC) (by simp) ?r3_1 hJ hJ0 h Yh rfl rfl rfl rfl ⟨?o3_1_0,⟨?o3_1_1,⟨?o3_1_2,⟨?o3_1_3,trivial⟩⟩⟩⟩ trivial (fun v2=>?n3_1))))
 case r3_1=>
  refine Row.mk' Zld ⟨_,rfl,rfl,rfl,rfl,rfl⟩ ⟨?x3_1_0,trivial⟩ ⟨_,_,_,_,rfl,rfl,rfl,rfl,rfl,rfl,rfl,rfl,rfl⟩ rfl rfl rfl
  case x3_1_0=>exact⟨_,_,_,_,rfl,rfl,rfl,rfl,rfl,rfl,rfl,rfl,Q2 (f:=prC) (fun _=>rfl),(by have hm:maxLen=9223372036854775807:=rfl;simp[upto];first | omega | (simp;omega)),(by have hm:maxLen=9223372036854775807:=rfl;simp[upto];first | omega | (simp;omega)),fun _ _ _ _ _ hl=>(hl.D 1 6 rfl rfl)⟩
 exact fun h=>Zi rfl h
 exact fun _ _=>⟨rfl,fun _ _ _ hx hl _=>Yk rfl (hl.env 1 0 _ rfl rfl) hx⟩
 exact fun h=>Zi rfl h
 exact fun h=>Zi rfl h
 clear a w h
 exact nx (Zg (fun a w h=>ZQ  (m:=0) v2 rfl h rfl rfl))
theorem Zfq {J:World→Prop} (hJ:Stab J) (v:Value) (xs:List Hy) (f:FuncId) (caps:List AV) (Os:List OB) (Hs:List OB) (p:Hy→Bool) (hf:∀ q',FnR Tryz.prog J f (Os++Hs) ([.agg (hyC (q'))]++caps) (.bool (p q'))) (hk0:Zl Tryz.prog f) (hn:xs.length≤9223372036854775807):FnM (ι:=Unit) Tryz.prog J 50 Hs [.lit v,.fn f caps] (OB.row v 84 3 (xs.map hyC)::Os) (fun _=>.rd (YW (xs.filter fun x'=>!p x'))) (fun _=>(Os)):=by
 refine ZX (N:=42) Tryz.func50 rfl rfl (lb rfl) fun S w0 R hS hJ0 hH=>?_
 refine Z6 (B:=St All (SO S (OB.row v 84 3 (xs.map hyC)::(Os++R))) w0 42 [(0,.lit v),(1,.fn f caps)] (XO J S w0.heap.size (OB.row v 84 3 (xs.map hyC)::(Os++R)))) ?_ fun a w h=>h
 refine qso tb hJ [0,1] [_] [_,_] ?_
 refine ZrI tb hJ [0,1,1003] [_,_,.int (Yz p xs),_] [2] [_,_,_] rfl ⟨fun _ _ hk hx hl _=>Y9 (ZcM hJ (xs:=xs) (f:=f) (caps:=caps) (Os:=(Os++Hs)) (p:=p) (hf) (hk0)) ZnX rfl (nm hS hk) (hx.1) (Zfz (fun _ ho=>Zdf hx (List.mem_cons_of_mem _ (List.mem_append_left _ ho))) (fun _ ho=>Zjw hH hk hx ho)) (Za (QR hS hx (mo 0 rfl) (hl.D 0 8 rfl rfl)) (Za (hl.D 1 9 rfl rfl) Ze)) (jo hJ hx),trivial⟩ ?_
 refine Zj (qso tb hJ [0,1,2,1001] [_,_] [_,_,_,_] ?_)
 refine cj 3 (fun hb1=>?_) fun hb1=>?_
 have e1:=of_decide_eq_true hb1
 refine qso tb hJ [1001] [_,_] [_] ?_
 refine tw (fun h=>Yq hS h (m:=0) (s:=4) rfl) ?_
 exact Zg (fun a w h=>ZQ  (m:=0) () rfl h rfl (congrArg (fun z=>AV.rd (YW z)) (show xs=(xs.filter fun x'=>!p x')from by first | exact DelF.none e1 | exact f1_1.fin (by have:=f1_1.len;omega))))
 have e1:=of_decide_eq_false hb1
 refine Zc (nx (Zj (tw (sa 2 rfl (congrArg AV.int (show Yz p xs=(((Yz p xs).toNat:Nat):Int)from by have:=Xa e1;omega))) ?_)))
 refine ZI tb hJ [0,1,2,1002] [_,.int ((Yz p xs).toNat+1:Nat),_] [1] [_,_,_,_] rfl ⟨Yv (h0:=by have:=(Xa e1).2.1;omega),trivial⟩ ?_
 refine Zf (lpo (ι:=Nat×Nat×(List Hy)×Value) (fun(i,j,ys,_)=>(DelF p xs ys i j)) (fun(_,_,ys,vo)=>(OB.row vo 84 3 (ys.map hyC)::(Os++R))) (fun(i,j,_,vo)=>[(5,.int (i:Nat)),(6,.int (j:Nat)),(0,.lit vo)]) (fun(_,j,_,_)=>xs.length-j) [1,2,3,0] [_] ((Yz p xs).toNat,(Yz p xs).toNat+1,xs,v) (show(DelF p xs xs ((Yz p xs).toNat) ((Yz p xs).toNat+1))from DelF.init e1) ?_)
 rintro⟨i,j,ys,vo⟩ hF
 have f1_1:DelF p xs ys i j:=hF
 refine Zj (ZrI tb hJ [0,1,2,3,1003] [_,_,.int (ys.length:Nat),_] [2] [_,_,_,_,_] rfl ⟨fun _ _ _ hx hl _=>ZaD ZN rfl (QR hS hx (mo 0 rfl) (hl.D 1 17 rfl rfl)) hx,trivial⟩ ?_)
 refine cj 4 (fun hb2=>?_) fun hb2=>?_
 try simp at hb2
 refine Zc (nx (Zj (Zf (tsq ?_))))
 refine snK 2 tb rfl ?_
 refine sq (.lit (X5 vo (j*3))) rfl rfl (lb rfl) (fun _ _ h=>Y8 (i:=(j:Int)) ZR rfl (Zd h.x (mo 0 rfl)) (h.get 1 rfl) (h.get 0 rfl) (Int.natCast_nonneg _) (by rw[List.length_map];exact Int.ofNat_lt.2 (by omega)) h.x) ?_
 refine sq (.agg (hyC (ge ys j))) rfl rfl (lb rfl) (fun _ _ h=>Qb (i:=j) Zbq rfl (Zd h.x (mo 0 rfl)) (h.get 0 rfl) (Q7 (xs:=ys) (k:=j) (by omega)) rfl h.x) ?_
 refine Qi (cs:=hyC (ge ys j)) Za9 rfl rfl rfl (lb rfl) rfl rfl rfl (by decide) (m:=0) rfl rfl (fun a w h=>Zr hS _ h.keep h.x _ (Nat.le_refl _)) (fun a w h w' hk'=>Yw hJ _ _ hk' h.x) ?_
 refine seK [0,5,6,7,8] [_,_,_,_,_] rfl ?_
 refine nx (ZI tb hJ [0,1,2,3,4,1003] [_,_,.bool (p (ge ys j)),_] [2] [_,_,_,_,_,_] rfl ⟨fun _ _ hk hx hl _=>Zbu (hf (ge ys j)) hk0 rfl (hl.D 0 26 rfl rfl) (Zr hS _ hk hx) (hx.1) (Zfz (fun _ ho=>Zd hx (List.mem_cons_of_mem _ (List.mem_append_left _ ho))) (fun _ ho=>Yf hH hk hx ho)) (Za (hl.D 1 27 rfl rfl) Ze) (jo hJ hx),trivial⟩ ?_)
 refine cj 5 (fun hb3=>?_) fun hb3=>?_
 try simp at hb3
 refine tsq ?_
 refine snK 3 tb rfl ?_
 refine sq (.lit (X5 vo (i*3))) rfl rfl (lb rfl) (fun _ _ h=>Y8 (i:=(i:Int)) ZR rfl (Zd h.x (mo 0 rfl)) (h.get 2 rfl) (h.get 1 rfl) (Int.natCast_nonneg _) (by rw[List.length_map];exact Int.ofNat_lt.2 (by have:=f1_1.le;omega)) h.x) ?_
 refine QN (i:=i) hJ hJ0 Xp rfl rfl rfl (by rw[List.length_map];exact(by have:=f1_1.le;omega)) rfl (fun a w h=>⟨(h.get 0 rfl),(h.get 1 rfl)⟩) ?_
 rw[show(ys.map hyC).set i (hyC (ge ys j))=(ys.set i (ge ys j)).map hyC from List.map_set.symm]
 refine seK [5,6,7,8] [_,_,_,_] rfl ?_
 refine nx (YQ tb hJ [0,2,3,1002] [_,.int (i+1:Nat),_] [1] [_,_,_,_] rfl ⟨Yv (h0:=by have:=f1_1.le;have:=f1_1.len;omega),trivial⟩ ?_)
 refine nx (YQ tb hJ [0,2,3,1002] [_,.int (j+1:Nat),_] [1] [_,_,_,_] rfl ⟨Yv (h0:=by have:=f1_1.lt;have:=f1_1.len;omega),trivial⟩ ?_)
 exact Xi (i+1,j+1,ys.set i (ge ys j),vo) [0,2,3,1] (show(DelF p xs (ys.set i (ge ys j)) (i+1) (j+1))from f1_1.keep (by have:=f1_1.len;omega) (by simpa using hb3)) (hm:=(show xs.length-(j+1)<xs.length-j from by have:=f1_1.lt;have:=f1_1.len;omega))
 try simp at hb3
 refine Zc (nx (YQ tb hJ [1,2,4,1002] [_,.int (j+1:Nat),_] [1] [_,_,_,_] rfl ⟨Yv (h0:=by have:=f1_1.lt;have:=f1_1.len;omega),trivial⟩ ?_))
 exact Xi (i,j+1,ys,vo) [0,1,3,2] (show(DelF p xs ys i (j+1))from f1_1.skip (by have:=f1_1.len;omega) (by simpa using hb3)) (hm:=(show xs.length-(j+1)<xs.length-j from by have:=f1_1.lt;have:=f1_1.len;omega))
 try simp at hb2
 refine Zx (nx (tsq ?_))
 refine snK 2 tb rfl ?_
 refine sq (.lit (ZeF vo i 3)) rfl rfl (lb rfl) (fun _ _ h=>Zgk (lo:=i) ZR rfl (Zd h.x (mo 0 rfl)) (h.get 1 rfl) (h.get 0 rfl) (by rw[List.length_map];exact(by have:=f1_1.le;have:=f1_1.lt;have:=f1_1.len;omega)) h.x) ?_
 refine Zff (lo:=i) Zj2 ZN (by decide) hJ hJ0 rfl rfl rfl (by rw[List.length_map];exact(by have:=f1_1.le;have:=f1_1.lt;have:=f1_1.len;omega)) (fun a w h=>(h.get 0 rfl)) ?_
 rw[←List.map_take]
 refine seK [4,6] [_,_] rfl ?_
 refine nx (ZI tb hJ [1003] [_,_,.lit (Za6 vo i),_] [2] [_] rfl ⟨fun _ _ _ hx hl _=>Zgl (m:=i) ZR rfl (Zd hx (mo 0 rfl)) (by first | rfl | (rw[List.length_map];exact(by have:=f1_1.le;have:=f1_1.lt;have:=f1_1.len;simp;omega))) (hl.D 0 39 rfl rfl) (hl.D 1 40 rfl rfl) hx,trivial⟩ ?_)
 refine tw (fun h=>Yq hS h (m:=0) (s:=4) rfl) ?_
 exact Zg (fun a w h=>ZQ  (m:=0) () rfl h rfl (congrArg (fun z=>AV.rd (YW z)) (show(ys.take i)=(xs.filter fun x'=>!p x')from by first | exact DelF.none e1 | exact f1_1.fin (by have:=f1_1.len;omega))))
theorem Zfp {J:World→Prop} (hJ:Stab J) (v:Value) (xs:List Pr) (f:FuncId) (caps:List AV) (Os:List OB) (Hs:List OB) (p:Pr→Bool) (hf:∀ q',FnR Tryz.prog J f (Os++Hs) ([.agg (prC (q'))]++caps) (.bool (p q'))) (hk0:Zl Tryz.prog f) (hn:xs.length≤9223372036854775807):FnM (ι:=Unit) Tryz.prog J 79 Hs [.lit v,.fn f caps] (OB.row v 115 2 (xs.map prC)::Os) (fun _=>.rd (Xm (xs.filter fun x'=>!p x'))) (fun _=>(Os)):=by
 refine ZX (N:=42) Tryz.func79 rfl rfl (lb rfl) fun S w0 R hS hJ0 hH=>?_
 refine Z6 (B:=St All (SO S (OB.row v 115 2 (xs.map prC)::(Os++R))) w0 42 [(0,.lit v),(1,.fn f caps)] (XO J S w0.heap.size (OB.row v 115 2 (xs.map prC)::(Os++R)))) ?_ fun a w h=>h
 refine qso tb hJ [0,1] [_] [_,_] ?_
 refine ZrI tb hJ [0,1,1003] [_,_,.int (Yz p xs),_] [2] [_,_,_] rfl ⟨fun _ _ hk hx hl _=>Y9 (Zgx hJ (xs:=xs) (f:=f) (caps:=caps) (Os:=(Os++Hs)) (p:=p) (hf) (hk0)) ZtS rfl (nm hS hk) (hx.1) (Zfz (fun _ ho=>Zdf hx (List.mem_cons_of_mem _ (List.mem_append_left _ ho))) (fun _ ho=>Zjw hH hk hx ho)) (Za (QR hS hx (mo 0 rfl) (hl.D 0 8 rfl rfl)) (Za (hl.D 1 9 rfl rfl) Ze)) (jo hJ hx),trivial⟩ ?_
 refine Zj (qso tb hJ [0,1,2,1001] [_,_] [_,_,_,_] ?_)
 refine cj 3 (fun hb1=>?_) fun hb1=>?_
 have e1:=of_decide_eq_true hb1
 refine qso tb hJ [1001] [_,_] [_] ?_
 refine tw (fun h=>Yq hS h (m:=0) (s:=4) rfl) ?_
 exact Zg (fun a w h=>ZQ  (m:=0) () rfl h rfl (congrArg (fun z=>AV.rd (Xm z)) (show xs=(xs.filter fun x'=>!p x')from by first | exact DelF.none e1 | exact f1_1.fin (by have:=f1_1.len;omega))))
 have e1:=of_decide_eq_false hb1
 refine Zc (nx (Zj (tw (sa 2 rfl (congrArg AV.int (show Yz p xs=(((Yz p xs).toNat:Nat):Int)from by have:=Xa e1;omega))) ?_)))
 refine ZI tb hJ [0,1,2,1002] [_,.int ((Yz p xs).toNat+1:Nat),_] [1] [_,_,_,_] rfl ⟨Yv (h0:=by have:=(Xa e1).2.1;omega),trivial⟩ ?_
 refine Zf (lpo (ι:=Nat×Nat×(List Pr)×Value) (fun(i,j,ys,_)=>(DelF p xs ys i j)) (fun(_,_,ys,vo)=>(OB.row vo 115 2 (ys.map prC)::(Os++R))) (fun(i,j,_,vo)=>[(5,.int (i:Nat)),(6,.int (j:Nat)),(0,.lit vo)]) (fun(_,j,_,_)=>xs.length-j) [1,2,3,0] [_] ((Yz p xs).toNat,(Yz p xs).toNat+1,xs,v) (show(DelF p xs xs ((Yz p xs).toNat) ((Yz p xs).toNat+1))from DelF.init e1) ?_)
 rintro⟨i,j,ys,vo⟩ hF
 have f1_1:DelF p xs ys i j:=hF
 refine Zj (ZrI tb hJ [0,1,2,3,1003] [_,_,.int (ys.length:Nat),_] [2] [_,_,_,_,_] rfl ⟨fun _ _ _ hx hl _=>ZaD Ya rfl (QR hS hx (mo 0 rfl) (hl.D 1 17 rfl rfl)) hx,trivial⟩ ?_)
 refine cj 4 (fun hb2=>?_) fun hb2=>?_
 try simp at hb2
 refine Zc (nx (Zj (Zf (tsq ?_))))
 refine snK 2 tb rfl ?_
 refine sq (.lit (X5 vo (j*2))) rfl rfl (lb rfl) (fun _ _ h=>Y8 (i:=(j:Int)) ZD rfl (Zd h.x (mo 0 rfl)) (h.get 1 rfl) (h.get 0 rfl) (Int.natCast_nonneg _) (by rw[List.length_map];exact Int.ofNat_lt.2 (by omega)) h.x) ?_
 refine sq (.agg (prC (ge ys j))) rfl rfl (lb rfl) (fun _ _ h=>Qb (i:=j) Xd rfl (Zd h.x (mo 0 rfl)) (h.get 0 rfl) (Q7 (xs:=ys) (k:=j) (by omega)) rfl h.x) ?_
 refine Qi (cs:=prC (ge ys j)) Zds rfl rfl rfl (lb rfl) rfl rfl rfl (by decide) (m:=0) rfl rfl (fun a w h=>Zr hS _ h.keep h.x _ (Nat.le_refl _)) (fun a w h w' hk'=>Yw hJ _ _ hk' h.x) ?_
 refine seK [0,5,6,7,8] [_,_,_,_,_] rfl ?_
 refine nx (ZI tb hJ [0,1,2,3,4,1003] [_,_,.bool (p (ge ys j)),_] [2] [_,_,_,_,_,_] rfl ⟨fun _ _ hk hx hl _=>Zbu (hf (ge ys j)) hk0 rfl (hl.D 0 26 rfl rfl) (Zr hS _ hk hx) (hx.1) (Zfz (fun _ ho=>Zd hx (List.mem_cons_of_mem _ (List.mem_append_left _ ho))) (fun _ ho=>Yf hH hk hx ho)) (Za (hl.D 1 27 rfl rfl) Ze) (jo hJ hx),trivial⟩ ?_)
 refine cj 5 (fun hb3=>?_) fun hb3=>?_
 try simp at hb3
 refine tsq ?_
 refine snK 3 tb rfl ?_
 refine sq (.lit (X5 vo (i*2))) rfl rfl (lb rfl) (fun _ _ h=>Y8 (i:=(i:Int)) ZD rfl (Zd h.x (mo 0 rfl)) (h.get 2 rfl) (h.get 1 rfl) (Int.natCast_nonneg _) (by rw[List.length_map];exact Int.ofNat_lt.2 (by have:=f1_1.le;omega)) h.x) ?_
 refine QN (i:=i) hJ hJ0 Xf rfl rfl rfl (by rw[List.length_map];exact(by have:=f1_1.le;omega)) rfl (fun a w h=>⟨(h.get 0 rfl),(h.get 1 rfl)⟩) ?_
 rw[show(ys.map prC).set i (prC (ge ys j))=(ys.set i (ge ys j)).map prC from List.map_set.symm]
 refine seK [5,6,7,8] [_,_,_,_] rfl ?_
 refine nx (YQ tb hJ [0,2,3,1002] [_,.int (i+1:Nat),_] [1] [_,_,_,_] rfl ⟨Yv (h0:=by have:=f1_1.le;have:=f1_1.len;omega),trivial⟩ ?_)
 refine nx (YQ tb hJ [0,2,3,1002] [_,.int (j+1:Nat),_] [1] [_,_,_,_] rfl ⟨Yv (h0:=by have:=f1_1.lt;have:=f1_1.len;omega),trivial⟩ ?_)
 exact Xi (i+1,j+1,ys.set i (ge ys j),vo) [0,2,3,1] (show(DelF p xs (ys.set i (ge ys j)) (i+1) (j+1))from f1_1.keep (by have:=f1_1.len;omega) (by simpa using hb3)) (hm:=(show xs.length-(j+1)<xs.length-j from by have:=f1_1.lt;have:=f1_1.len;omega))
 try simp at hb3
 refine Zc (nx (YQ tb hJ [1,2,4,1002] [_,.int (j+1:Nat),_] [1] [_,_,_,_] rfl ⟨Yv (h0:=by have:=f1_1.lt;have:=f1_1.len;omega),trivial⟩ ?_))
 exact Xi (i,j+1,ys,vo) [0,1,3,2] (show(DelF p xs ys i (j+1))from f1_1.skip (by have:=f1_1.len;omega) (by simpa using hb3)) (hm:=(show xs.length-(j+1)<xs.length-j from by have:=f1_1.lt;have:=f1_1.len;omega))
 try simp at hb2
 refine Zx (nx (tsq ?_))
 refine snK 2 tb rfl ?_
 refine sq (.lit (ZeF vo i 2)) rfl rfl (lb rfl) (fun _ _ h=>Zgk (lo:=i) ZD rfl (Zd h.x (mo 0 rfl)) (h.get 1 rfl) (h.get 0 rfl) (by rw[List.length_map];exact(by have:=f1_1.le;have:=f1_1.lt;have:=f1_1.len;omega)) h.x) ?_
 refine Zff (lo:=i) Zdn Ya (by decide) hJ hJ0 rfl rfl rfl (by rw[List.length_map];exact(by have:=f1_1.le;have:=f1_1.lt;have:=f1_1.len;omega)) (fun a w h=>(h.get 0 rfl)) ?_
 rw[←List.map_take]
 refine seK [4,6] [_,_] rfl ?_
 refine nx (ZI tb hJ [1003] [_,_,.lit (Za6 vo i),_] [2] [_] rfl ⟨fun _ _ _ hx hl _=>Zgl (m:=i) ZD rfl (Zd hx (mo 0 rfl)) (by first | rfl | (rw[List.length_map];exact(by have:=f1_1.le;have:=f1_1.lt;have:=f1_1.len;simp;omega))) (hl.D 0 39 rfl rfl) (hl.D 1 40 rfl rfl) hx,trivial⟩ ?_)
 refine tw (fun h=>Yq hS h (m:=0) (s:=4) rfl) ?_
 exact Zg (fun a w h=>ZQ  (m:=0) () rfl h rfl (congrArg (fun z=>AV.rd (Xm z)) (show(ys.take i)=(xs.filter fun x'=>!p x')from by first | exact DelF.none e1 | exact f1_1.fin (by have:=f1_1.len;omega))))
end Go.Proofs.YtapelgeodldlcaaGreatDoor
