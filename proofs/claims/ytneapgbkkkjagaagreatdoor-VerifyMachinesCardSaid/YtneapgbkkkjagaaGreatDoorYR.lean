/-
  FACTS of the program's types and functions.
  CONTRACTS: small functions of the references that only read.
  CONTRACTS: functions of the references on hypotheses and frames.
  CONTRACTS: labels, pairs and hypotheses of the references.
  CONTRACTS: hypotheses of the references.
  CONTRACTS: the check of a database by the reference.
  CONTRACTS: the check of a database by the reference, whole.
  CONTRACTS of the program: look-ups, functions that take functions.
  CONTRACTS of the library: slices' functions.
  CONTRACTS of the library: slices.DeleteFunc.
-/
import Derived.Test.YtneapgbkkkjagaaGreatDoorYQ
import Derived.Laws.StructEq
set_option maxHeartbeats 8000000
set_option maxRecDepth 100000
namespace Go.Proofs.YtneapgbkkkjagaaGreatDoor
open Go.Proofs.Tryz (prog)
open Go.RowKit
theorem Yr:prog.follows .mixedOrders=true:=by kernel_rfl
theorem Zoe:(prog.fieldsOf 104).toList=[{ name:= "A",type:=9,offset:=0,embedded:=false,tag:= "",pkgPath:= "",byteOffset:=0 }, { name:= "B",type:=9,offset:=1,embedded:=false,tag:= "",pkgPath:= "",byteOffset:=16 }]:=by kernel_rfl
theorem Zoc:prog.underlying 104=some (.struct (prog.fieldsOf 104)):=by kernel_rfl
theorem ZtJ:prog.underlying 9=some .string:=by kernel_rfl
theorem ZhI (c:Array Value) (i:Nat) (v:Value) (h:c[i]?=some v) (w:World):(part 9 c i).run prog w= .ok v w:=by
 simp[part,Tryz.isAgg9,h]
theorem Zgj:Zqw prog 104:=by
 intro a b c d w x y
 refine⟨by simp[eqGuard],by simp[eqGuard],?_⟩
 unfold Op.equal Op.maxDepth
 rw[run_equalIn_struct w 9999 104 _ _ Zoc (by kernel_rfl),Zoe]
 have e1:=fun(c:Array Value) (v:Value) (i:Nat) (h:c[i]?=some v)=>ZhI c i v h
 have q1:=run_equalIn_string (P:=prog) w 9998 9 a c ZtJ
 have q2:=run_equalIn_string (P:=prog) w 9998 9 b d ZtJ
 rw[Za9]at q1 q2
 simp only[Op.eqFields]
 rw[if_pos dz,if_pos dz]
 simp only[Sem.run_bind]
 rw[e1 _ (.string a) 0 rfl w,Result.andThen_ok,e1 _ (.string c) 0 rfl w,Result.andThen_ok,q1,Result.andThen_ok]
 by_cases h1:a=c
 · simp only[h1,decide_true,Bool.not_true,Bool.false_eq_true,if_false,Sem.run_bind]
   rw[e1 _ (.string b) 1 rfl w,Result.andThen_ok,e1 _ (.string d) 1 rfl w,Result.andThen_ok,q2,Result.andThen_ok]
   by_cases h2:b=d
   · simp[h2,Sem.run_pure]
   · simp[h2,Sem.run_pure]
 · simp[h1,Sem.run_pure]
theorem Zm:prog.underlying 22=some (.slice 9):=by kernel_rfl
theorem Zd:Yx prog 22 9 1:=⟨by kernel_rfl,fun w=>by kernel_rfl⟩
theorem QU:QM prog 9:=fun w=>by kernel_rfl
theorem ZL:prog.underlying 57=some (.slice 104):=by kernel_rfl
theorem Zt:Yx prog 57 104 2:=⟨by kernel_rfl,fun w=>by kernel_rfl⟩
theorem YR:X0 prog 104 2:=⟨fun w=>by kernel_rfl,fun w=>by kernel_rfl⟩
theorem ZU:prog.underlying 9=some .string:=by kernel_rfl
theorem ZsD:Zk prog 162:=Zp Tryz.func162 rfl rfl
theorem Zs2:Zk prog 132:=Zp Tryz.func132 rfl rfl
theorem Qh:ZX prog 59 2 2:=fun b off w=>by kernel_rfl
theorem Zcu:QM prog 56:=fun w=>by kernel_rfl
theorem ZdK:ZX prog 59 5 5:=fun b off w=>by kernel_rfl
theorem Q1:Zgw prog 56 61 3 48:=ZqD (.agg #[.string ⟨#[]⟩,.bool false,.slice none 0 0]) (by kernel_rfl) (by kernel_rfl) rfl dz (fun w=>by kernel_rfl)
theorem Zhi:Zk prog 91:=Zp Tryz.func91 rfl rfl
theorem Zmi:QM prog 4:=fun w=>by kernel_rfl
theorem Qg:ZX prog 61 2 2:=fun b off w=>by kernel_rfl
theorem Xg:QM prog 22:=fun w=>by kernel_rfl
theorem X1:Zk prog 90:=Zp Tryz.func90 rfl rfl
theorem Zca:ZX prog 61 0 0:=fun b off w=>by kernel_rfl
theorem Znk:prog.underlying 4=some .bool:=by kernel_rfl
theorem ZsC:Zk prog 163:=Zp Tryz.func163 rfl rfl
theorem ZmD:ZX prog 25 0 0:=fun b off w=>by kernel_rfl
theorem ZdN:ZX prog 25 1 1:=fun b off w=>by kernel_rfl
theorem Zdr:X0 prog 25 3:=⟨fun w=>by kernel_rfl,fun w=>by kernel_rfl⟩
theorem ZjP:Zk prog 93:=Zp Tryz.func93 rfl rfl
theorem Zat:ZX prog 104 0 0:=fun b off w=>by kernel_rfl
theorem Zas:ZX prog 104 1 1:=fun b off w=>by kernel_rfl
theorem Zgx:Zds prog 104:=⟨.agg #[.string ⟨#[]⟩,.string ⟨#[]⟩],fun w=>by kernel_rfl⟩
theorem Zch:Zgw prog 57 104 2 32:=ZqD (.agg #[.string ⟨#[]⟩,.string ⟨#[]⟩]) (by kernel_rfl) (by kernel_rfl) rfl dz (fun w=>by kernel_rfl)
theorem Y9:prog.underlying 45=some (.slice 22):=by kernel_rfl
theorem ZF:Yx prog 45 22 1:=⟨by kernel_rfl,fun w=>by kernel_rfl⟩
theorem ZaT:Zds prog 9:=⟨.string ⟨#[]⟩,fun w=>by kernel_rfl⟩
theorem Xn:Zgw prog 22 9 1 16:=ZqD (.string ⟨#[]⟩) (by kernel_rfl) (by kernel_rfl) rfl dz (fun w=>by kernel_rfl)
theorem Zz:prog.underlying 56=some (.slice 61):=by kernel_rfl
theorem Zo:Yx prog 56 61 3:=⟨by kernel_rfl,fun w=>by kernel_rfl⟩
theorem ZaL:Zds prog 22:=⟨.slice none 0 0,fun w=>by kernel_rfl⟩
theorem Qy:Zgw prog 45 22 1 24:=ZqD (.slice none 0 0) (by kernel_rfl) (by kernel_rfl) rfl dz (fun w=>by kernel_rfl)
theorem Qi:ZX prog 25 2 2:=fun b off w=>by kernel_rfl
theorem ZeX:QM prog 23:=fun w=>by kernel_rfl
theorem ZV:Yx prog 23 59 8:=⟨by kernel_rfl,fun w=>by kernel_rfl⟩
theorem Zev:X0 prog 59 8:=⟨fun w=>by kernel_rfl,fun w=>by kernel_rfl⟩
theorem ZpM:Zk prog 99:=Zp Tryz.func99 rfl rfl
theorem ZdL:ZX prog 59 0 0:=fun b off w=>by kernel_rfl
theorem Zhh:Zk prog 94:=Zp Tryz.func94 rfl rfl
theorem Zss:Zk prog 184:=Zp Tryz.func184 rfl rfl
theorem Zlv:Zk prog 164:=Zp Tryz.func164 rfl rfl
theorem ZjQ:Zk prog 92:=Zp Tryz.func92 rfl rfl
theorem ZpN:Zk prog 96:=Zp Tryz.func96 rfl rfl
theorem XY:X0 prog 61 3:=⟨fun w=>by kernel_rfl,fun w=>by kernel_rfl⟩
theorem Zdi:Zk prog 133:=Zp Tryz.func133 rfl rfl
theorem Zer:Zk prog 134:=Zp Tryz.func134 rfl rfl
theorem Zcc:ZX prog 59 4 4:=fun b off w=>by kernel_rfl
theorem Zs0:Zk prog 136:=Zp Tryz.func136 rfl rfl
theorem Zs1:Zk prog 135:=Zp Tryz.func135 rfl rfl
theorem Zcb:ZX prog 59 6 6:=fun b off w=>by kernel_rfl
theorem Zga:QM prog 57:=fun w=>by kernel_rfl
theorem ZcO:ZqE prog 104 2:=⟨(#[.string ⟨#[]⟩,.string ⟨#[]⟩]),rfl,by kernel_rfl⟩
theorem ZsZ:Zk prog 138:=Zp Tryz.func138 rfl rfl
theorem Zlx:Zk prog 137:=Zp Tryz.func137 rfl rfl
theorem Zcd:ZX prog 59 3 3:=fun b off w=>by kernel_rfl
theorem ZsY:Zk prog 139:=Zp Tryz.func139 rfl rfl
theorem ZpO:Zk prog 89:=Zp Tryz.func89 rfl rfl
theorem Zec:ZqE prog 59 8:=⟨(#[.string ⟨#[]⟩,.bool false,.slice none 0 0,.slice none 0 0,.slice none 0 0,.slice none 0 0,.slice none 0 0,.slice none 0 0]),rfl,by kernel_rfl⟩
theorem Zwi:Zk prog 95:=Zp Tryz.func95 rfl rfl
theorem Zwh:Zk prog 97:=Zp Tryz.func97 rfl rfl
theorem ZdJ:ZX prog 59 7 7:=fun b off w=>by kernel_rfl
theorem Zwg:Zk prog 98:=Zp Tryz.func98 rfl rfl
theorem Ztm:Zk prog 101:=Zp Tryz.func101 rfl rfl
theorem Ztn:Zk prog 100:=Zp Tryz.func100 rfl rfl
theorem XS:prog.underlying 23=some (.slice 59):=by kernel_rfl
theorem ZwA:Zk prog 52:=Zp Tryz.func52 rfl rfl
theorem Zwz:Zk prog 53:=Zp Tryz.func53 rfl rfl
theorem Zt6:QM prog 91:=fun w=>by kernel_rfl
theorem Yf:ZmS prog 91 9 4 keyS.kind:=⟨by kernel_rfl,by kernel_rfl⟩
theorem Yk:ZiZ prog 4 (.bool false):=⟨(.bool false),fun w=>by kernel_rfl,fun S w=>Rel.of_lit _⟩
theorem Zmz:ZX prog 95 1 1:=fun b off w=>by kernel_rfl
theorem Zie:QM prog 89:=fun w=>by kernel_rfl
theorem Zhk:Zk prog 75:=Zp Tryz.func75 rfl rfl
theorem ZwO:Zk prog 31:=Zp Tryz.func31 rfl rfl
theorem ZpZ:Zk prog 48:=Zp Tryz.func48 rfl rfl
theorem ZwD:Zk prog 47:=Zp Tryz.func47 rfl rfl
theorem ZbW:ZqE prog 61 3:=⟨(#[.string ⟨#[]⟩,.bool false,.slice none 0 0]),rfl,by kernel_rfl⟩
theorem YN:XR prog 61 3:=fun w=>by kernel_rfl
theorem ZlD:ZfR prog 61 3:=⟨(.agg #[.string ⟨#[]⟩,.bool false,.slice none 0 0]),fun w=>by kernel_rfl,rfl,by simp[Value.cells,Value.oneCell']⟩
theorem Zsv:Zk prog 179:=Zp Tryz.func179 rfl rfl
theorem YK:XR prog 104 2:=fun w=>by kernel_rfl
theorem Zex:ZfR prog 104 2:=⟨(.agg #[.string ⟨#[]⟩,.string ⟨#[]⟩]),fun w=>by kernel_rfl,rfl,by simp[Value.cells,Value.oneCell']⟩
theorem Zlw:Zk prog 155:=Zp Tryz.func155 rfl rfl
theorem ZjW:Zk prog 24:=Zp Tryz.func24 rfl rfl
theorem ZsI:Zk prog 157:=Zp Tryz.func157 rfl rfl
theorem ZjS:Zk prog 62:=Zp Tryz.func62 rfl rfl
theorem ZsJ:Zk prog 156:=Zp Tryz.func156 rfl rfl
theorem Zwj:Zk prog 88:=Zp Tryz.func88 rfl rfl
theorem ZpV:Zk prog 61:=Zp Tryz.func61 rfl rfl
theorem Zwk:Zk prog 87:=Zp Tryz.func87 rfl rfl
theorem YI:Zgu prog 61 [.lit (.string ⟨#[]⟩),.lit (.bool false),.sl []]:=⟨(.agg #[.string ⟨#[]⟩,.bool false,.slice none 0 0]),fun w=>by kernel_rfl,fun S w=>(show RdL S w [.lit (.string ⟨#[]⟩),.lit (.bool false),.sl []] [.string ⟨#[]⟩,.bool false,.slice none 0 0]from⟨.lit _ nzl,.lit _ True.intro,.nil _ _ nzl,trivial⟩)⟩
theorem Zft:Zk prog 42:=Zp Tryz.func42 rfl rfl
theorem ZbE:XR prog 22 1:=fun w=>by kernel_rfl
theorem Zs9:Zk prog 125:=Zp Tryz.func125 rfl rfl
theorem Zdf:Zk prog 7:=Zp Tryz.func7 rfl rfl
theorem ZcR:Zgu prog 193 ((List.replicate 256 (0:UInt8)).map u8D):=ZqN (.agg (Array.replicate 256 (.int .u8 0))) (fun w=>by kernel_rfl) (by simp[Value.cells])
theorem XT:prog.underlying 3=some (.int .i64):=by kernel_rfl
theorem ZaU:prog.underlying 5=some (.int .u8):=by kernel_rfl
theorem X8:ArrT prog 193 5 256:=⟨by kernel_rfl,fun w=>by kernel_rfl,by decide⟩
theorem Zeg:XR prog 5 1:=fun w=>by kernel_rfl
theorem ZfC:X0 prog 193 256:=⟨fun w=>by kernel_rfl,fun w=>by kernel_rfl⟩
theorem ZdU:XR prog 193 256:=fun w=>by kernel_rfl
theorem ZlL:prog.underlying 192=some (.slice 5):=by kernel_rfl
theorem ZbP:Yx prog 192 5 1:=⟨by kernel_rfl,fun w=>by kernel_rfl⟩
theorem one_5:QM prog 5:=fun w=>by kernel_rfl
theorem Zsw:Zk prog 177:=Zp Tryz.func177 rfl rfl
theorem ZsL:Zk prog 153:=Zp Tryz.func153 rfl rfl
theorem ZsK:Zk prog 154:=Zp Tryz.func154 rfl rfl
theorem zero_5:Zds prog 5:=⟨.int .u8 0,fun w=>by kernel_rfl⟩
theorem Zlz:Zk prog 122:=Zp Tryz.func122 rfl rfl
theorem ZmZ:ZfR prog 5 1:=⟨(.int .u8 0),fun w=>by kernel_rfl,rfl,by simp[Value.cells,Value.oneCell']⟩
theorem Zlr:Zk prog 182:=Zp Tryz.func182 rfl rfl
theorem ZjR:Zk prog 74:=Zp Tryz.func74 rfl rfl
theorem Zst:Zk prog 183:=Zp Tryz.func183 rfl rfl
theorem Zls:Zk prog 181:=Zp Tryz.func181 rfl rfl
theorem Zay:QM prog 3:=fun w=>by kernel_rfl
theorem ZbA:prog.underlying 229=some (.array 10 228):=by kernel_rfl
theorem ZbZ:XR prog 228 4:=fun w=>by kernel_rfl
theorem ZiX:X0 prog 228 4:=⟨fun w=>by kernel_rfl,fun w=>by kernel_rfl⟩
theorem ZcQ:Zgu prog 228 [.lit (.string ⟨#[]⟩),.lit (.bool false),.lit (.int .i64 0),.lit (.int .i64 0)]:=⟨(.agg #[.string ⟨#[]⟩,.bool false,.int .i64 0,.int .i64 0]),fun w=>by kernel_rfl,fun S w=>(show RdL S w [.lit (.string ⟨#[]⟩),.lit (.bool false),.lit (.int .i64 0),.lit (.int .i64 0)] [.string ⟨#[]⟩,.bool false,.int .i64 0,.int .i64 0]from⟨.lit _ nzl,.lit _ True.intro,.lit _ True.intro,.lit _ True.intro,trivial⟩)⟩
theorem Zhj:Zk prog 76:=Zp Tryz.func76 rfl rfl
theorem ZjH:ZX prog 177 2 2:=fun b off w=>by kernel_rfl
theorem ZjG:ZX prog 177 3 3:=fun b off w=>by kernel_rfl
theorem ZsF:Zk prog 160:=Zp Tryz.func160 rfl rfl
theorem Zby:prog.underlying 178=some (.slice 177):=by kernel_rfl
theorem ZaP:Yx prog 178 177 4:=⟨by kernel_rfl,fun w=>by kernel_rfl⟩
theorem Zsu:Zk prog 180:=Zp Tryz.func180 rfl rfl
theorem ZjF:ZX prog 228 0 0:=fun b off w=>by kernel_rfl
theorem ZsG:Zk prog 159:=Zp Tryz.func159 rfl rfl
theorem ZsH:Zk prog 158:=Zp Tryz.func158 rfl rfl
theorem Zm9:ZqE prog 177 4:=⟨(#[.int .i64 0,.string ⟨#[]⟩,.slice none 0 0,.slice none 0 0]),rfl,by kernel_rfl⟩
theorem ZsE:Zk prog 161:=Zp Tryz.func161 rfl rfl
theorem Zj2:ZbU prog 177 4:=⟨#[.int .i64 0,.string ⟨#[]⟩,.slice none 0 0,.slice none 0 0],rfl,fun i=>(#[(0,1),(1,1),(2,1),(3,1)]:Array (Nat×Nat))[i]?,fun j hj=>by rcases j with _ | _ | _ | _ | j<;>first | rfl | omega,fun parts=>by kernel_rfl⟩
theorem ZqG:Zds prog 177:=⟨.agg #[.int .i64 0,.string ⟨#[]⟩,.slice none 0 0,.slice none 0 0],fun w=>by kernel_rfl⟩
theorem Zs3:Zk prog 131:=Zp Tryz.func131 rfl rfl
theorem Zmy:ZX prog 95 2 2:=fun b off w=>by kernel_rfl
theorem Zff:ZX prog 128 1 1:=fun b off w=>by kernel_rfl
theorem ZoA:QM prog 93:=fun w=>by kernel_rfl
theorem Zbi:ZmS prog 93 9 9 keyS.kind:=⟨by kernel_rfl,by kernel_rfl⟩
theorem Zey:ZiZ prog 9 (.str default):=⟨(.string ⟨#[]⟩),fun w=>by kernel_rfl,fun S w=>(show Rel S w (.str ⟨#[]⟩) _ from Rel.of_lit _ nzl)⟩
theorem Zmx:ZX prog 95 4 4:=fun b off w=>by kernel_rfl
theorem Za3:ZX prog 95 3 3:=fun b off w=>by kernel_rfl
theorem Zid:QM prog 92:=fun w=>by kernel_rfl
theorem QV:ZmS prog 92 9 61 keyS.kind:=⟨by kernel_rfl,by kernel_rfl⟩
theorem Zbd:ZiZ prog 61 (.agg (hyC default)):=⟨(.agg #[.string ⟨#[]⟩,.bool false,.slice none 0 0]),fun w=>by kernel_rfl,fun S w=>(show Rel S w (.agg [.lit (.string ⟨#[]⟩),.lit (.bool false),.sl []]) _ from(by simp only[Rel];exact⟨[.string ⟨#[]⟩,.bool false,.slice none 0 0],rfl,.lit _ nzl,.lit _ True.intro,.nil _ _ nzl,trivial⟩))⟩
theorem Zly:Zk prog 124:=Zp Tryz.func124 rfl rfl
theorem ZpQ:Zk prog 79:=Zp Tryz.func79 rfl rfl
theorem Zs7:Zk prog 127:=Zp Tryz.func127 rfl rfl
theorem Zs8:Zk prog 126:=Zp Tryz.func126 rfl rfl
theorem Zi6:prog.underlying 91=some (.map 9 4):=by kernel_rfl
theorem XL:Zgu prog 104 [.lit (.string ⟨#[]⟩),.lit (.string ⟨#[]⟩)]:=⟨(.agg #[.string ⟨#[]⟩,.string ⟨#[]⟩]),fun w=>by kernel_rfl,fun S w=>(show RdL S w [.lit (.string ⟨#[]⟩),.lit (.string ⟨#[]⟩)] [.string ⟨#[]⟩,.string ⟨#[]⟩]from⟨.lit _ nzl,.lit _ nzl,trivial⟩)⟩
theorem Zs6:Zk prog 128:=Zp Tryz.func128 rfl rfl
theorem Zs4:Zk prog 130:=Zp Tryz.func130 rfl rfl
theorem Zs5:Zk prog 129:=Zp Tryz.func129 rfl rfl
theorem Zwo:Zk prog 82:=Zp Tryz.func82 rfl rfl
theorem ZeD:prog.underlying 167=some (.slice 56):=by kernel_rfl
theorem Q8:Yx prog 167 56 1:=⟨by kernel_rfl,fun w=>by kernel_rfl⟩
theorem Zta:Zk prog 123:=Zp Tryz.func123 rfl rfl
theorem Zi5:prog.underlying 93=some (.map 9 9):=by kernel_rfl
theorem Zwp:Zk prog 81:=Zp Tryz.func81 rfl rfl
theorem Zwm:Zk prog 84:=Zp Tryz.func84 rfl rfl
theorem Zj3:ZbU prog 128 2:=⟨#[.map none,.map none],rfl,fun i=>(#[(0,1),(1,1)]:Array (Nat×Nat))[i]?,fun j hj=>by rcases j with _ | _ | j<;>first | rfl | omega,fun parts=>by kernel_rfl⟩
theorem Zi4:Zgu prog 128 [.lit (.map none),.lit (.map none)]:=⟨(.agg #[.map none,.map none]),fun w=>by kernel_rfl,fun S w=>(show RdL S w [.lit (.map none),.lit (.map none)] [.map none,.map none]from⟨.lit _ True.intro,.lit _ True.intro,trivial⟩)⟩
theorem ZlW:XR prog 128 2:=fun w=>by kernel_rfl
theorem ZfV:ZfR prog 56 1:=⟨(.slice none 0 0),fun w=>by kernel_rfl,rfl,by simp[Value.cells,Value.oneCell']⟩
theorem ZpR:Zk prog 77:=Zp Tryz.func77 rfl rfl
theorem Zwr:Zk prog 78:=Zp Tryz.func78 rfl rfl
theorem Zwq:Zk prog 80:=Zp Tryz.func80 rfl rfl
theorem ZpY:Zk prog 51:=Zp Tryz.func51 rfl rfl
theorem Zwn:Zk prog 83:=Zp Tryz.func83 rfl rfl
theorem Zhm:Zk prog 29:=Zp Tryz.func29 rfl rfl
theorem ZpP:Zk prog 85:=Zp Tryz.func85 rfl rfl
theorem Zwl:Zk prog 86:=Zp Tryz.func86 rfl rfl
theorem ZmO:ZbU prog 95 5:=⟨#[.map none,.map none,.map none,.map none,.map none],rfl,fun i=>(#[(0,1),(1,1),(2,1),(3,1),(4,1)]:Array (Nat×Nat))[i]?,fun j hj=>by rcases j with _ | _ | _ | _ | _ | j<;>first | rfl | omega,fun parts=>by kernel_rfl⟩
theorem ZwC:Zk prog 49:=Zp Tryz.func49 rfl rfl
theorem ZwB:Zk prog 50:=Zp Tryz.func50 rfl rfl
theorem ZdR:prog.underlying 159=some (.slice 161):=by kernel_rfl
theorem XD:Yx prog 159 161 2:=⟨by kernel_rfl,fun w=>by kernel_rfl⟩
theorem Zna:ZqE prog 161 2:=⟨(#[.string ⟨#[]⟩,.slice none 0 0]),rfl,by kernel_rfl⟩
theorem Zbj:ZmS prog 215 9 22 keyS.kind:=⟨by kernel_rfl,by kernel_rfl⟩
theorem ZcN:ZiZ prog 22 (.rd (Zf default)):=⟨(.slice none 0 0),fun w=>by kernel_rfl,fun S w=>(show Rel S w (.rd (.sl [])) _ from(by simp only[Rel];exact .nil _ _ nzl))⟩
theorem Zdg:Zk prog 169:=Zp Tryz.func169 rfl rfl
theorem QJ:ZmS prog 90 9 4 keyS.kind:=⟨by kernel_rfl,by kernel_rfl⟩
theorem Zhn:Zk prog 168:=Zp Tryz.func168 rfl rfl
theorem ZsB:Zk prog 170:=Zp Tryz.func170 rfl rfl
theorem Zks:XR prog 9 1:=fun w=>by kernel_rfl
theorem YL:ZX prog 86 4 13:=fun b off w=>by kernel_rfl
theorem Zaj:QM prog 45:=fun w=>by kernel_rfl
theorem ZbD:XR prog 45 1:=fun w=>by kernel_rfl
theorem Ql:ZbU prog 32 2:=⟨#[.int .i64 0,.int .i64 0],rfl,fun i=>(#[(0,1),(1,1)]:Array (Nat×Nat))[i]?,fun j hj=>by rcases j with _ | _ | j<;>first | rfl | omega,fun parts=>by kernel_rfl⟩
theorem ZcF:ZX prog 86 7 16:=fun b off w=>by kernel_rfl
theorem ZaC:XR prog 4 1:=fun w=>by kernel_rfl
theorem ZcE:ZX prog 86 8 17:=fun b off w=>by kernel_rfl
theorem YO:XR prog 32 2:=fun w=>by kernel_rfl
theorem Zlm:Zk prog 204:=Zp Tryz.func204 rfl rfl
theorem ZfX:prog.underlying 119=some (.slice 3):=by kernel_rfl
theorem Qk:Yx prog 119 3 1:=⟨by kernel_rfl,fun w=>by kernel_rfl⟩
theorem Zeq:Zk prog 194:=Zp Tryz.func194 rfl rfl
theorem ZhD:ZfR prog 3 1:=⟨(.int .i64 0),fun w=>by kernel_rfl,rfl,by simp[Value.cells,Value.oneCell']⟩
theorem Zlo:Zk prog 193:=Zp Tryz.func193 rfl rfl
theorem ZdS:prog.underlying 238=some (.int .u64):=by kernel_rfl
theorem Zso:Zk prog 191:=Zp Tryz.func191 rfl rfl
theorem Zlp:Zk prog 192:=Zp Tryz.func192 rfl rfl
theorem ZcI:ZbU prog 104 2:=⟨#[.string ⟨#[]⟩,.string ⟨#[]⟩],rfl,fun i=>(#[(0,1),(1,1)]:Array (Nat×Nat))[i]?,fun j hj=>by rcases j with _ | _ | j<;>first | rfl | omega,fun parts=>by kernel_rfl⟩
theorem Zlq:Zk prog 187:=Zp Tryz.func187 rfl rfl
theorem Zsr:Zk prog 188:=Zp Tryz.func188 rfl rfl
theorem Zsq:Zk prog 189:=Zp Tryz.func189 rfl rfl
theorem Zsx:Zk prog 174:=Zp Tryz.func174 rfl rfl
theorem ZqO:Zgu prog 4 [.lit (.bool false)]:=⟨(.bool false),fun w=>by kernel_rfl,fun S w=>(show RdL S w [.lit (.bool false)] [.bool false]from⟨.lit _ True.intro,trivial⟩)⟩
theorem ZsA:Zk prog 171:=Zp Tryz.func171 rfl rfl
theorem Znd:Zgu prog 57 [.sl []]:=⟨(.slice none 0 0),fun w=>by kernel_rfl,fun S w=>(show RdL S w [.sl []] [.slice none 0 0]from⟨.nil _ _ nzl,trivial⟩)⟩
theorem ZeJ:XR prog 57 1:=fun w=>by kernel_rfl
theorem Zsz:Zk prog 172:=Zp Tryz.func172 rfl rfl
theorem Zsp:Zk prog 190:=Zp Tryz.func190 rfl rfl
theorem Zsy:Zk prog 173:=Zp Tryz.func173 rfl rfl
theorem Zgf:ZX prog 86 0 0:=fun b off w=>by kernel_rfl
theorem ZjK:ZX prog 106 2 2:=fun b off w=>by kernel_rfl
theorem Xc:Zk prog 104:=Zp Tryz.func104 rfl rfl
theorem Zfw:ZbU prog 161 2:=⟨#[.string ⟨#[]⟩,.slice none 0 0],rfl,fun i=>(#[(0,1),(1,1)]:Array (Nat×Nat))[i]?,fun j hj=>by rcases j with _ | _ | j<;>first | rfl | omega,fun parts=>by kernel_rfl⟩
theorem Zj9:Zds prog 161:=⟨.agg #[.string ⟨#[]⟩,.slice none 0 0],fun w=>by kernel_rfl⟩
theorem Zfz:Zgw prog 159 161 2 40:=ZqD (.agg #[.string ⟨#[]⟩,.slice none 0 0]) (by kernel_rfl) (by kernel_rfl) rfl dz (fun w=>by kernel_rfl)
theorem ZsS:Zk prog 145:=Zp Tryz.func145 rfl rfl
theorem ZsR:Zk prog 146:=Zp Tryz.func146 rfl rfl
theorem Zaf:ZX prog 86 1 3:=fun b off w=>by kernel_rfl
theorem ZsQ:Zk prog 147:=Zp Tryz.func147 rfl rfl
theorem ZsP:Zk prog 148:=Zp Tryz.func148 rfl rfl
theorem Zho:Zk prog 113:=Zp Tryz.func113 rfl rfl
theorem Zwx:Zk prog 64:=Zp Tryz.func64 rfl rfl
theorem ZjL:ZX prog 106 0 0:=fun b off w=>by kernel_rfl
theorem ZfG:prog.underlying 108=some (.array 5 107):=by kernel_rfl
theorem Zvz:QM prog 107:=fun w=>by kernel_rfl
theorem ZlX:XR prog 107 1:=fun w=>by kernel_rfl
theorem Xo:QM prog 42:=fun w=>by kernel_rfl
theorem Zaw:X0 prog 106 4:=⟨fun w=>by kernel_rfl,fun w=>by kernel_rfl⟩
theorem ZcG:ZX prog 86 5 14:=fun b off w=>by kernel_rfl
theorem Y2:ZX prog 86 6 15:=fun b off w=>by kernel_rfl
theorem XN:ZX prog 86 3 12:=fun b off w=>by kernel_rfl
theorem Zif:QM prog 84:=fun w=>by kernel_rfl
theorem ZeC:prog.underlying 84=some (.slice 106):=by kernel_rfl
theorem Zfs:Zk prog 57:=Zp Tryz.func57 rfl rfl
theorem Zbl:Yx prog 84 106 4:=⟨by kernel_rfl,fun w=>by kernel_rfl⟩
theorem Zbe:Zgu prog 106 [.lit (.int .i64 0),.sl [],.lit (.int .i64 0),.lit (.bool false)]:=⟨(.agg #[.int .i64 0,.slice none 0 0,.int .i64 0,.bool false]),fun w=>by kernel_rfl,fun S w=>(show RdL S w [.lit (.int .i64 0),.sl [],.lit (.int .i64 0),.lit (.bool false)] [.int .i64 0,.slice none 0 0,.int .i64 0,.bool false]from⟨.lit _ True.intro,.nil _ _ nzl,.lit _ True.intro,.lit _ True.intro,trivial⟩)⟩
theorem XU:XR prog 106 4:=fun w=>by kernel_rfl
theorem ZpX:Zk prog 54:=Zp Tryz.func54 rfl rfl
theorem ZcH:ZX prog 106 3 3:=fun b off w=>by kernel_rfl
theorem ZbY:XR prog 3 1:=fun w=>by kernel_rfl
theorem ZjT:Zk prog 58:=Zp Tryz.func58 rfl rfl
theorem ZgD:prog.underlying 204=some (.array 2 56):=by kernel_rfl
theorem ZeK:XR prog 56 1:=fun w=>by kernel_rfl
theorem ZsX:Zk prog 140:=Zp Tryz.func140 rfl rfl
theorem Zfe:ZX prog 86 2 11:=fun b off w=>by kernel_rfl
theorem Zt7:QM prog 83:=fun w=>by kernel_rfl
theorem Ze1:ZmS prog 83 9 3 keyS.kind:=⟨by kernel_rfl,by kernel_rfl⟩
theorem Zi2:ZiZ prog 3 (.int default):=⟨(.int .i64 0),fun w=>by kernel_rfl,fun S w=>(show Rel S w (.int 0) _ from Rel.of_lit _)⟩
theorem ZsV:Zk prog 142:=Zp Tryz.func142 rfl rfl
theorem ZsW:Zk prog 141:=Zp Tryz.func141 rfl rfl
theorem ZsU:Zk prog 143:=Zp Tryz.func143 rfl rfl
theorem Zi3:Zgu prog 157 [.lit (.int .i64 0),.lit (.bool false)]:=⟨(.agg #[.int .i64 0,.bool false]),fun w=>by kernel_rfl,fun S w=>(show RdL S w [.lit (.int .i64 0),.lit (.bool false)] [.int .i64 0,.bool false]from⟨.lit _ True.intro,.lit _ True.intro,trivial⟩)⟩
theorem ZlV:XR prog 157 2:=fun w=>by kernel_rfl
theorem ZjI:ZX prog 157 1 1:=fun b off w=>by kernel_rfl
theorem ZiY:X0 prog 157 2:=⟨fun w=>by kernel_rfl,fun w=>by kernel_rfl⟩
theorem Zti:Zk prog 108:=Zp Tryz.func108 rfl rfl
theorem ZwI:Zk prog 38:=Zp Tryz.func38 rfl rfl
theorem Ztj:Zk prog 107:=Zp Tryz.func107 rfl rfl
theorem Ztl:Zk prog 103:=Zp Tryz.func103 rfl rfl
theorem ZlA:Zk prog 105:=Zp Tryz.func105 rfl rfl
theorem Zkb:Zds prog 106:=⟨.agg #[.int .i64 0,.slice none 0 0,.int .i64 0,.bool false],fun w=>by kernel_rfl⟩
theorem Zgs:Zgw prog 84 106 4 48:=ZqD (.agg #[.int .i64 0,.slice none 0 0,.int .i64 0,.bool false]) (by kernel_rfl) (by kernel_rfl) rfl dz (fun w=>by kernel_rfl)
theorem ZeI:XR prog 84 1:=fun w=>by kernel_rfl
theorem Ztk:Zk prog 106:=Zp Tryz.func106 rfl rfl
theorem Znf:Zgu prog 22 [.sl []]:=⟨(.slice none 0 0),fun w=>by kernel_rfl,fun S w=>(show RdL S w [.sl []] [.slice none 0 0]from⟨.nil _ _ nzl,trivial⟩)⟩
theorem Zth:Zk prog 109:=Zp Tryz.func109 rfl rfl
theorem Zki:Zgu prog 3 [.lit (.int .i64 0)]:=⟨(.int .i64 0),fun w=>by kernel_rfl,fun S w=>(show RdL S w [.lit (.int .i64 0)] [.int .i64 0]from⟨.lit _ True.intro,trivial⟩)⟩
theorem Ztg:Zk prog 110:=Zp Tryz.func110 rfl rfl
theorem Znb:ZqE prog 157 2:=⟨(#[.int .i64 0,.bool false]),rfl,by kernel_rfl⟩
theorem ZsT:Zk prog 144:=Zp Tryz.func144 rfl rfl
theorem Zwy:Zk prog 56:=Zp Tryz.func56 rfl rfl
theorem Zne:Zgu prog 42 [.lit (.pointer none)]:=⟨(.pointer none),fun w=>by kernel_rfl,fun S w=>(show RdL S w [.lit (.pointer none)] [.pointer none]from⟨.lit _ True.intro,trivial⟩)⟩
theorem ZnE:XR prog 42 1:=fun w=>by kernel_rfl
theorem Qe:Zgu prog 32 [.lit (.int .i64 0),.lit (.int .i64 0)]:=⟨(.agg #[.int .i64 0,.int .i64 0]),fun w=>by kernel_rfl,fun S w=>(show RdL S w [.lit (.int .i64 0),.lit (.int .i64 0)] [.int .i64 0,.int .i64 0]from⟨.lit _ True.intro,.lit _ True.intro,trivial⟩)⟩
theorem Zp2:Zk prog 40:=Zp Tryz.func40 rfl rfl
theorem Zp1:Zk prog 43:=Zp Tryz.func43 rfl rfl
theorem Xu:X0 prog 32 2:=⟨fun w=>by kernel_rfl,fun w=>by kernel_rfl⟩
theorem ZwM:Zk prog 34:=Zp Tryz.func34 rfl rfl
theorem ZjU:Zk prog 33:=Zp Tryz.func33 rfl rfl
theorem ZwJ:Zk prog 37:=Zp Tryz.func37 rfl rfl
theorem Zp3:Zk prog 28:=Zp Tryz.func28 rfl rfl
theorem ZwP:Zk prog 30:=Zp Tryz.func30 rfl rfl
theorem ZwQ:Zk prog 27:=Zp Tryz.func27 rfl rfl
theorem ZwR:Zk prog 26:=Zp Tryz.func26 rfl rfl
theorem Zcz:Zgu prog 25 [.sl [],.sl [],.sl []]:=⟨(.agg #[.slice none 0 0,.slice none 0 0,.slice none 0 0]),fun w=>by kernel_rfl,fun S w=>(show RdL S w [.sl [],.sl [],.sl []] [.slice none 0 0,.slice none 0 0,.slice none 0 0]from⟨.nil _ _ nzl,.nil _ _ nzl,.nil _ _ nzl,trivial⟩)⟩
theorem X2:ZfR prog 9 1:=⟨(.string ⟨#[]⟩),fun w=>by kernel_rfl,rfl,by simp[Value.cells,Value.oneCell']⟩
theorem Zgn:ZbU prog 61 3:=⟨#[.string ⟨#[]⟩,.bool false,.slice none 0 0],rfl,fun i=>(#[(0,1),(1,1),(2,1)]:Array (Nat×Nat))[i]?,fun j hj=>by rcases j with _ | _ | _ | j<;>first | rfl | omega,fun parts=>by kernel_rfl⟩
theorem ZmQ:ZbU prog 25 3:=⟨#[.slice none 0 0,.slice none 0 0,.slice none 0 0],rfl,fun i=>(#[(0,1),(1,1),(2,1)]:Array (Nat×Nat))[i]?,fun j hj=>by rcases j with _ | _ | _ | j<;>first | rfl | omega,fun parts=>by kernel_rfl⟩
theorem ZeL:XR prog 25 3:=fun w=>by kernel_rfl
theorem Zd2:Yx prog 67 66 3:=⟨by kernel_rfl,fun w=>by kernel_rfl⟩
theorem ZlK:prog.underlying 67=some (.slice 66):=by kernel_rfl
theorem ZtF:X0 prog 66 3:=⟨fun w=>by kernel_rfl,fun w=>by kernel_rfl⟩
theorem ZqL:ZqE prog 66 3:=⟨(#[.slice none 0 0,.int .i64 0,.int .i64 0]),rfl,by kernel_rfl⟩
theorem ZmC:ZX prog 66 0 0:=fun b off w=>by kernel_rfl
theorem ZwN:Zk prog 32:=Zp Tryz.func32 rfl rfl
theorem ZwT:Zk prog 12:=Zp Tryz.func12 rfl rfl
theorem ZgB:ZqE prog 32 2:=⟨(#[.int .i64 0,.int .i64 0]),rfl,by kernel_rfl⟩
theorem ZmB:ZX prog 66 1 1:=fun b off w=>by kernel_rfl
theorem Zhl:Zk prog 68:=Zp Tryz.func68 rfl rfl
theorem XE:Yx prog 112 121 2:=⟨by kernel_rfl,fun w=>by kernel_rfl⟩
theorem Zka:Zds prog 121:=⟨.agg #[.int .i64 0,.bool false],fun w=>by kernel_rfl⟩
theorem ZfA:Zgw prog 112 121 2 16:=ZqD (.agg #[.int .i64 0,.bool false]) (by kernel_rfl) (by kernel_rfl) rfl dz (fun w=>by kernel_rfl)
theorem Zbz:prog.underlying 112=some (.slice 121):=by kernel_rfl
theorem ZjJ:ZX prog 121 1 1:=fun b off w=>by kernel_rfl
theorem ZpU:Zk prog 65:=Zp Tryz.func65 rfl rfl
theorem Ztf:Zk prog 117:=Zp Tryz.func117 rfl rfl
theorem Zte:Zk prog 118:=Zp Tryz.func118 rfl rfl
theorem ZpS:Zk prog 70:=Zp Tryz.func70 rfl rfl
theorem ZpT:Zk prog 69:=Zp Tryz.func69 rfl rfl
theorem Zdh:Zk prog 149:=Zp Tryz.func149 rfl rfl
theorem ZsO:Zk prog 150:=Zp Tryz.func150 rfl rfl
theorem Zp0:Zk prog 46:=Zp Tryz.func46 rfl rfl
theorem Zln:Zk prog 195:=Zp Tryz.func195 rfl rfl
theorem Zlu:Zk prog 175:=Zp Tryz.func175 rfl rfl
theorem Zlt:Zk prog 176:=Zp Tryz.func176 rfl rfl
theorem ZsN:Zk prog 151:=Zp Tryz.func151 rfl rfl
theorem ZsM:Zk prog 152:=Zp Tryz.func152 rfl rfl
set_option maxRecDepth 100000 in
theorem tb_one:∀ t∈[3,4,5,9,22,23,28,30,42,45,56,57,83,84,89,91,92,93,119,159,186,208,215],QM prog t:=by
 intro t h
 simp only[List.mem_cons,List.not_mem_nil,or_false]at h
 rcases h with rfl | rfl | rfl | rfl | rfl | rfl | rfl | rfl | rfl | rfl | rfl | rfl | rfl | rfl | rfl | rfl | rfl | rfl | rfl | rfl | rfl | rfl | rfl<;>exact fun w=>by kernel_rfl
set_option maxRecDepth 100000 in
theorem tb_agg:∀ q∈[(25,3),(32,2),(59,8),(61,3),(104,2),(106,4),(121,2),(128,2),(157,2),(161,2),(177,4),(228,4)],X0 prog q.1 q.2:=by
 intro q h
 simp only[List.mem_cons,List.not_mem_nil,or_false]at h
 rcases h with rfl | rfl | rfl | rfl | rfl | rfl | rfl | rfl | rfl | rfl | rfl | rfl<;>exact⟨fun w=>by kernel_rfl,fun w=>by kernel_rfl⟩
set_option maxRecDepth 100000 in
theorem tb_fld:∀ q∈[(25,0,0),(25,1,1),(25,2,2),(32,0,0),(32,1,1),(59,0,0),(59,1,1),(59,2,2),(59,3,3),(59,4,4),(59,5,5),(59,6,6),(59,7,7),(61,0,0),(61,1,1),(61,2,2),(86,0,0),(86,1,3),(86,2,11),(86,3,12),(86,4,13),(86,5,14),(86,6,15),(86,7,16),(86,8,17),(95,0,0),(95,1,1),(95,2,2),(95,3,3),(95,4,4),(104,0,0),(104,1,1),(106,0,0),(106,1,1),(106,2,2),(106,3,3),(121,0,0),(121,1,1),(128,0,0),(128,1,1),(157,0,0),(157,1,1),(161,0,0),(161,1,1),(177,0,0),(177,1,1),(177,2,2),(177,3,3),(228,0,0),(228,1,1),(228,2,2),(228,3,3)],ZX prog q.1 q.2.1 q.2.2:=by
 intro q h
 simp only[List.mem_cons,List.not_mem_nil,or_false]at h
 rcases h with rfl | rfl | rfl | rfl | rfl | rfl | rfl | rfl | rfl | rfl | rfl | rfl | rfl | rfl | rfl | rfl | rfl | rfl | rfl | rfl | rfl | rfl | rfl | rfl | rfl | rfl | rfl | rfl | rfl | rfl | rfl | rfl | rfl | rfl | rfl | rfl | rfl | rfl | rfl | rfl | rfl | rfl | rfl | rfl | rfl | rfl | rfl | rfl | rfl | rfl | rfl | rfl<;>exact fun b off w=>by kernel_rfl
def tb:Tbl prog where
 one:=ZvT [3,4,5,9,22,23,28,30,42,45,56,57,83,84,89,91,92,93,119,159,186,208,215]
 agg:=lk1 [(25,3),(32,2),(59,8),(61,3),(104,2),(106,4),(121,2),(128,2),(157,2),(161,2),(177,4),(228,4)]
 fld:=lk2 [(25,0,0),(25,1,1),(25,2,2),(32,0,0),(32,1,1),(59,0,0),(59,1,1),(59,2,2),(59,3,3),(59,4,4),(59,5,5),(59,6,6),(59,7,7),(61,0,0),(61,1,1),(61,2,2),(86,0,0),(86,1,3),(86,2,11),(86,3,12),(86,4,13),(86,5,14),(86,6,15),(86,7,16),(86,8,17),(95,0,0),(95,1,1),(95,2,2),(95,3,3),(95,4,4),(104,0,0),(104,1,1),(106,0,0),(106,1,1),(106,2,2),(106,3,3),(121,0,0),(121,1,1),(128,0,0),(128,1,1),(157,0,0),(157,1,1),(161,0,0),(161,1,1),(177,0,0),(177,1,1),(177,2,2),(177,3,3),(228,0,0),(228,1,1),(228,2,2),(228,3,3)]
 h1:=fun t h=>tb_one t (Zk4 h)
 h2:=fun t k h=>tb_agg (t,k+1) (ZoL h)
 h3:=fun s f d h=>tb_fld (s,f,d) (ZoK h)
 mix:=Yr
section
variable {J:WP} (hJ:Stab J)
include hJ
theorem Zcp (xs:List BA) (s:BA)  :Fn prog J 90 [.rd (Zf xs),.str s] (.bool (decide (s∈xs))):=by
 refine fE Tryz.func90 fun S w0 hS hJ0=>?_
 clear hJ0
 refine ln 0 fun hl1=>?_
 refine qs tb hJ [0,1] [_] U2 ?_
 refine Ze (qs tb hJ [0,1,1000] [_] U3 ?_)
 refine Zc (lp (ι:=Nat) (fun k=>(k≤xs.length)∧(∀ j,j<k→ge xs j≠s)) (fun k=>[(5,.int (k:Nat))]) (fun k=>xs.length-k) [0,1,2] U2 0 (show(0≤xs.length)∧(∀ j,j<0→ge xs j≠s)from by first | trivial | grind) ?_)
 rintro k ⟨f1_1,f1_2⟩
 refine Ze (hqs tb hJ [0,1,2,1003] [_,_,.int (xs.length:Nat),_] [2] U4 rfl ⟨Z3 Zm,trivial⟩ ?_)
 refine cj 3 (fun hb1=>?_) fun hb1=>?_
 ·
  try simp at hb1
  refine Zb (nx (Ze (Zc (hqs tb hJ [0,1,2,1005] [_,_,.ptr [lS (ge xs k)],_,_,_] [2] U4 rfl ⟨iIx Zd,trivial⟩ ?_))))
  refine cj 3 (fun hb2=>?_) fun hb2=>?_
  ·
   try simp at hb2
   refine qs tb hJ [1000] [_] [_] ?_
   exact tRn 0 (hE:=eB (by grind[Zu]))
  ·
   try simp at hb2
   refine Zb (nx (hqp tb hJ [0,1,1002] [_,.int (k+1:Nat),_] [1] U3 rfl ⟨Z7,trivial⟩ ?_))
   exact lpE (k+1) [0,1,2] ⟨by first | omega | (simp;omega) | grind[Zu],by first | omega | (simp;omega) | grind[Zu]⟩
 ·
  try simp at hb1
  refine Zs (nx (qs tb hJ [1000] [_] [_] ?_))
  exact tRn 0 (hE:=eB (by grind[Xp]))
theorem ZjY (xs ys:List BA)  :Fn prog J 163 [.rd (Zf xs),.rd (Zf ys)] (.bool (decide (xs=ys))):=by
 refine fE Tryz.func163 fun S w0 hS hJ0=>?_
 clear hJ0
 refine ln 0 fun hl1=>?_
 refine ln 1 fun hl2=>?_
 refine qs tb hJ [0,1] [_] U2 ?_
 refine Ze (hqs tb hJ [0,1,1004] [_,.int (xs.length:Nat),_,.int (ys.length:Nat),_] [1,3] U3 rfl ⟨Z3 Zm,Z3 Zm,trivial⟩ ?_)
 refine cj 2 (fun hb1=>?_) fun hb1=>?_
 ·
  try simp at hb1
  refine qs tb hJ [1000] [_] [_] ?_
  exact tRn 0 (hE:=eB (by first | rfl | grind[Zu]))
 ·
  try simp at hb1
  refine Zb (nx (Ze (qs tb hJ [0,1,1000] [_] U3 ?_)))
  refine Zc (lp (ι:=Nat) (fun k=>(k≤xs.length)∧(∀ j,j<k→ge xs j=ge ys j)) (fun k=>[(5,.int (k:Nat))]) (fun k=>xs.length-k) [0,1,2] U2 0 (show(0≤xs.length)∧(∀ j,j<0→ge xs j=ge ys j)from by first | trivial | grind) ?_)
  rintro k ⟨f1_1,f1_2⟩
  refine Ze (hqs tb hJ [0,1,2,1003] [_,_,.int (xs.length:Nat),_] [2] U4 rfl ⟨Z3 Zm,trivial⟩ ?_)
  refine cj 3 (fun hb2=>?_) fun hb2=>?_
  ·
   try simp at hb2
   refine Zb (nx (Ze (Zc (hqs tb hJ [0,1,2,1008] [_,_,.ptr [lS (ge xs k)],_,_,_,.ptr [lS (ge ys k)],_,_] [2,6] U4 rfl ⟨iIx Zd,iIx Zd,trivial⟩ ?_))))
   refine cj 3 (fun hb3=>?_) fun hb3=>?_
   ·
    try simp at hb3
    refine qs tb hJ [1000] [_] [_] ?_
    exact tRn 0 (hE:=eB (by first | rfl | grind[Zu]))
   ·
    try simp at hb3
    refine Zb (nx (hqp tb hJ [0,1,1002] [_,.int (k+1:Nat),_] [1] U3 rfl ⟨Z7,trivial⟩ ?_))
    exact lpE (k+1) [0,1,2] ⟨by first | omega | (simp;omega) | grind[Zu],by first | omega | (simp;omega) | grind[Zu]⟩
  ·
   try simp at hb2
   refine Zs (nx (qs tb hJ [1000] [_] [_] ?_))
   exact tRn 0 (hE:=eB (by have:=Za7 (xs:=xs) (ys:=ys) oz (fun j hj=>f1_2 j oz);simp[this]))
theorem Zfu (xs ys:List Pr)  :Fn prog J 137 [.rd (YV xs),.rd (YV ys)] (.bool (decide (xs=ys))):=by
 refine fE Tryz.func137 fun S w0 hS hJ0=>?_
 clear hJ0
 refine ln 0 fun hl1=>?_
 refine ln 1 fun hl2=>?_
 refine qs tb hJ [0,1] [_] U2 ?_
 refine Ze (hqs tb hJ [0,1,1004] [_,.int (xs.length:Nat),_,.int (ys.length:Nat),_] [1,3] U3 rfl ⟨Z3 ZL,Z3 ZL,trivial⟩ ?_)
 refine cj 2 (fun hb1=>?_) fun hb1=>?_
 ·
  try simp at hb1
  refine qs tb hJ [1000] [_] [_] ?_
  exact tRn 0 (hE:=eB (by first | rfl | grind[Zu]))
 ·
  try simp at hb1
  refine Zb (nx (Ze (qs tb hJ [0,1,1000] [_] U3 ?_)))
  refine Zc (lp (ι:=Nat) (fun k=>(k≤xs.length)∧(∀ j,j<k→ZfF (ge xs j) (ge ys j)=true)) (fun k=>[(5,.int (k:Nat))]) (fun k=>xs.length-k) [0,1,2] U2 0 (show(0≤xs.length)∧(∀ j,j<0→ZfF (ge xs j) (ge ys j)=true)from by first | trivial | grind) ?_)
  rintro k ⟨f1_1,f1_2⟩
  refine Ze (hqs tb hJ [0,1,2,1003] [_,_,.int (xs.length:Nat),_] [2] U4 rfl ⟨Z3 ZL,trivial⟩ ?_)
  refine cj 3 (fun hb2=>?_) fun hb2=>?_
  ·
   try simp at hb2
   refine Zb (nx (Ze (Zc (hqs tb hJ [0,1,2,1008] [_,_,.ptr (prC (ge xs k)),_,_,_,.ptr (prC (ge ys k)),_,.bool (!(decide ((ge xs k).a=(ge ys k).a)&&decide ((ge xs k).b=(ge ys k).b)))] [2,6,8] U4 rfl ⟨iIx Zt,iIx Zt,fun _ _ _ hx hl _=>ZnZ Zgj rfl (hl.dep 3 20 _ rfl rfl rfl rfl) (hl.dep 7 24 _ rfl rfl rfl rfl) hx,trivial⟩ ?_))))
   refine cj 3 (fun hb3=>?_) fun hb3=>?_
   ·
    try simp at hb3
    refine qs tb hJ [1000] [_] [_] ?_
    exact tRn 0 (hE:=eB (by symm;rw[decide_eq_false_iff_not];intro e;subst e;simp at hb3))
   ·
    try simp at hb3
    refine Zb (nx (hqp tb hJ [0,1,1002] [_,.int (k+1:Nat),_] [1] U3 rfl ⟨Z7,trivial⟩ ?_))
    exact lpE (k+1) [0,1,2] ⟨by first | omega | (intro j hj;by_cases e:j=k;(subst e;simp[ZfF,hb3]);exact f1_2 j oz),by first | omega | (intro j hj;by_cases e:j=k;(subst e;simp[ZfF,hb3]);exact f1_2 j oz)⟩
  ·
   try simp at hb2
   refine Zs (nx (qs tb hJ [1000] [_] [_] ?_))
   exact tRn 0 (hE:=eB (by have:=Za7 (xs:=xs) (ys:=ys) oz (fun j hj=>prEq_iff.1 (f1_2 j oz));simp[this]))
theorem Zj1 (c:UInt8)  :Fn prog J 162 [.rd (.lit (.int .u8 (c.toNat:Int)))] (.bool (Zbs c)):=by
 refine fE Tryz.func162 fun S w0 hS hJ0=>?_
 clear hJ0
 refine qs tb hJ [0] [_] [_] ?_
 refine qs tb hJ [1006] U7 [_] ?_
 exact tRn 0 (hE:=eB (by first | rfl | grind[Zu]))
theorem Ztt (s:BA)  :Fn prog J 132 [.str s] (.bool (Zgz s)):=by
 refine fE Tryz.func132 fun S w0 hS hJ0=>?_
 clear hJ0
 refine lnS 0 fun hl1=>?_
 refine qs tb hJ [0] [_] [_] ?_
 refine Ze (qs tb hJ [0,1000] [_] U2 ?_)
 refine Zc (lp (ι:=Nat) (fun k=>(k≤s.size)∧(∀ j,j<k→Zbs (bt s j)=true)) (fun k=>[(3,.int (k:Nat))]) (fun k=>s.size-k) [0,1] [_] 0 (show(0≤s.size)∧(∀ j,j<0→Zbs (bt s j)=true)from by first | trivial | grind) ?_)
 rintro k ⟨f1_1,f1_2⟩
 refine Ze (hqs tb hJ [0,1,1003] [_,_,.int (s.size:Nat),_] [2] U3 rfl ⟨Zmp ZU,trivial⟩ ?_)
 refine cj 2 (fun hb1=>?_) fun hb1=>?_
 ·
  try simp at hb1
  refine Zb (nx (Ze (Zc (hqs tb hJ [0,1,1004] [_,_,.rd (.lit (.int .u8 ((ge s.data.toList k).toNat:Int))),.bool (Zbs (ge s.data.toList k)),_] [2,3] U3 rfl ⟨fun _ _ _ hx hl _=>ZdV (i:=(k:Int)) ZU rfl (hl.dep 0 10 _ rfl rfl rfl rfl) (hl.dep 1 11 _ rfl rfl rfl rfl) nnn (ZaJ (s:=s) (k:=k) sfz) hx,iFn hS hJ (Zj1 hJ (ge s.data.toList k)) ZsD,trivial⟩ ?_))))
  refine cj 2 (fun hb2=>?_) fun hb2=>?_
  ·
   try simp at hb2
   refine qs tb hJ [1000] [_] [_] ?_
   exact tRn 0 (hE:=eB ((ZqI hb1 hb2).symm))
  ·
   try simp at hb2
   refine Zb (nx (hqp tb hJ [0,1002] [_,.int (k+1:Nat),_] [1] U2 rfl ⟨Z7,trivial⟩ ?_))
   exact lpE (k+1) [0,1] ⟨oz,ZK f1_2 hb2⟩
 ·
  try simp at hb1
  refine Zs (nx (qs tb hJ [1002] U3 [_] ?_))
  exact tRn 0 (hE:=eB ((Zm3 fun j hj=>f1_2 j oz).symm))
theorem Zgm (s:BA)  :Fn prog J 89 [.str s] (.bool (ZgH s)):=by
 refine fE Tryz.func89 fun S w0 hS hJ0=>?_
 clear hJ0
 refine lnS 0 fun hl1=>?_
 refine qs tb hJ [0] [_] [_] ?_
 refine Ze (qs tb hJ [0,1000] [_] U2 ?_)
 refine Zc (lp (ι:=Nat) (fun k=>(k≤s.size)∧(∀ j,j<k→¬ ((bt s j).toNat:Int)=36)) (fun k=>[(3,.int (k:Nat))]) (fun k=>s.size-k) [0,1] [_] 0 (show(0≤s.size)∧(∀ j,j<0→¬ ((bt s j).toNat:Int)=36)from by first | trivial | grind) ?_)
 rintro k ⟨f1_1,f1_2⟩
 refine Ze (hqs tb hJ [0,1,1003] [_,_,.int (s.size:Nat),_] [2] U3 rfl ⟨Zmp ZU,trivial⟩ ?_)
 refine cj 2 (fun hb1=>?_) fun hb1=>?_
 ·
  try simp at hb1
  refine Zb (nx (Ze (Zc (hqs tb hJ [0,1,1003] [_,_,.rd (.lit (.int .u8 ((ge s.data.toList k).toNat:Int))),_] [2] U3 rfl ⟨fun _ _ _ hx hl _=>ZdV (i:=(k:Int)) ZU rfl (hl.dep 0 10 _ rfl rfl rfl rfl) (hl.dep 1 11 _ rfl rfl rfl rfl) nnn (ZaJ (s:=s) (k:=k) sfz) hx,trivial⟩ ?_))))
  refine cj 2 (fun hb2=>?_) fun hb2=>?_
  ·
   try simp at hb2
   refine qs tb hJ [1000] [_] [_] ?_
   exact tRn 0 (hE:=eB ((ZuJ hb1 hb2).symm))
  ·
   try simp at hb2
   refine Zb (nx (hqp tb hJ [0,1002] [_,.int (k+1:Nat),_] [1] U2 rfl ⟨Z7,trivial⟩ ?_))
   exact lpE (k+1) [0,1] ⟨oz,ZK f1_2 hb2⟩
 ·
  try simp at hb1
  refine Zs (nx (hqs tb hJ [1007] [_,.bool (Zgz s),_,_,.int (s.size:Nat),_,_,_] [1,4] [_] rfl ⟨iFn hS hJ (Ztt hJ s) Zs2,Zmp ZU,trivial⟩ ?_))
  exact tRn 0 (hE:=eB ((ZqU fun j hj=>f1_2 j oz).symm))
theorem Zdk (s:BA)  :Fn prog J 91 [.str s] (.bool (QK s)):=by
 refine fE Tryz.func91 fun S w0 hS hJ0=>?_
 clear hJ0
 refine lnS 0 fun hl1=>?_
 refine qs tb hJ [0] [_] [_] ?_
 refine Ze (qs tb hJ [0,1000] [_] U2 ?_)
 refine Zc (lp (ι:=Nat) (fun k=>(k≤s.size)∧(∀ j,j<k→ZmY (bt s j)=false)) (fun k=>[(3,.int (k:Nat))]) (fun k=>s.size-k) [0,1] [_] 0 (show(0≤s.size)∧(∀ j,j<0→ZmY (bt s j)=false)from by first | trivial | grind) ?_)
 rintro k ⟨f1_1,f1_2⟩
 refine Ze (hqs tb hJ [0,1,1003] [_,_,.int (s.size:Nat),_] [2] U3 rfl ⟨Zmp ZU,trivial⟩ ?_)
 refine cj 2 (fun hb1=>?_) fun hb1=>?_
 ·
  try simp at hb1
  refine Zb (nx (Ze (Zc (hqs tb hJ [0,1,1003] [_,_,.rd (.lit (.int .u8 ((ge s.data.toList k).toNat:Int))),_] [2] U3 rfl ⟨fun _ _ _ hx hl _=>ZdV (i:=(k:Int)) ZU rfl (hl.dep 0 12 _ rfl rfl rfl rfl) (hl.dep 1 13 _ rfl rfl rfl rfl) nnn (ZaJ (s:=s) (k:=k) sfz) hx,trivial⟩ ?_))))
  refine qs tb hJ [0,1,2,1014] U15 U4 ?_
  refine qs tb hJ [0,1,1021] [_,_,_,_,_,_,_,_,_,_,_,_,_,_,_,_,_,_,_,_,_,_] U3 ?_
  refine cj 2 (fun hb2=>?_) fun hb2=>?_
  ·
   refine qs tb hJ [1000] [_] [_] ?_
   exact tRn 0 (hE:=eB ((ZvM hb1 hb2).symm))
  ·
   refine Zb (nx (hqp tb hJ [0,1002] [_,.int (k+1:Nat),_] [1] U2 rfl ⟨Z7,trivial⟩ ?_))
   exact lpE (k+1) [0,1] ⟨oz,ZK f1_2 hb2⟩
 ·
  try simp at hb1
  refine Zs (nx (hqs tb hJ [1007] (V4 [.int (s.size:Nat),_,_,_]) [4] [_] rfl ⟨Zmp ZU,trivial⟩ ?_))
  exact tRn 0 (hE:=eB ((Zr0 fun j hj=>f1_2 j oz).symm))
end
section
variable {J:WP} (hJ:Stab J)
include hJ
theorem Ztu (f:Fr) (b:(f.hyps.length+f.dummies.length)*48≤140737488351232):Fn prog J 94 [.agg (frC f)] (.rd (Y1 (f.hyps++f.dummies))):=by
 refine fE Tryz.func94 fun S w0 hS hJ0=>?_
 refine tw ZR (ZG tb hJ [1000] [.ptr (frC f),_] [0] [_] rfl ⟨iBo hS hJ,trivial⟩ ?_)
 refine Ze (fun a w h=>Zbg (id:=1) (t:=56) (e:=61) (size:=3) (bytes:=48) (i0:=0) (fol:=7) (d:=2) (ch:=[(3,(f.hyps.map hyC)),(6,(f.dummies.map hyC))]) (fun ix'=>([.any,.ptr [Y1 f.hyps,YV f.apart,Zf f.text,Y1 f.dummies,YV f.wide,Zf f.proof],.rd (Y1 f.hyps),.any,.ptr [Y1 f.dummies,YV f.wide,Zf f.proof],.rd (Y1 f.dummies),.any,.any]:List AV).getD ix' .any) (fun _=>true) [] ((f.hyps++f.dummies).map hyC) yz ?r1_1 hJ hJ0 h Yr rfl rfl rfl rfl ⟨?_,?_,?_,?_,?_,?_,?_,?_,trivial⟩ trivial (fun v1=>?n1_1))
 case r1_1=>
  refine Row.mk' Q1 ⟨_,rfl,rfl,rfl,rfl,rfl⟩ ⟨?x1_1_0,?x1_1_1,trivial⟩ ⟨_,_,_,_,rfl,rfl,rfl,rfl,rfl,rfl,rfl,rfl,rfl⟩ rfl rfl rfl
  case x1_1_0=>exact⟨_,_,_,_,rfl,rfl,rfl,rfl,rfl,rfl,rfl,rfl,XG (f:=hyC) (fun _=>rfl),(by have hm:maxLen=9223372036854775807:=rfl;simp[upto];first | omega | (simp;omega) | grind[Zu]),(by have hm:maxLen=9223372036854775807:=rfl;simp[upto];first | omega | (simp;omega) | grind[Zu]),fun _ _ _ _ _ hl=>(hl.dep 2 5 _ rfl rfl rfl rfl)⟩
  case x1_1_1=>exact⟨_,_,_,_,rfl,rfl,rfl,rfl,rfl,rfl,rfl,rfl,XG (f:=hyC) (fun _=>rfl),(by have hm:maxLen=9223372036854775807:=rfl;simp[upto];first | omega | (simp;omega) | grind[Zu]),(by have hm:maxLen=9223372036854775807:=rfl;simp[upto];first | omega | (simp;omega) | grind[Zu]),fun _ _ _ _ _ hl=>(hl.dep 5 8 _ rfl rfl rfl rfl)⟩
 exact fun h=>Zl rfl h
 exact fun _ _=>⟨rfl,fun _ _ _ hx hl _=>ZN Qh rfl (hl.env 0 1 _ rfl rfl) hx⟩
 exact fun _ _=>⟨rfl,fun _ _ _ hx hl _=>ZH Zcu rfl (hl.dep 1 4 _ rfl rfl rfl rfl) hx⟩
 exact fun h=>Zl rfl h
 exact fun _ _=>⟨rfl,fun _ _ _ hx hl _=>ZN ZdK rfl (hl.env 0 1 _ rfl rfl) hx⟩
 exact fun _ _=>⟨rfl,fun _ _ _ hx hl _=>ZH Zcu rfl (hl.dep 4 7 _ rfl rfl rfl rfl) hx⟩
 exact fun h=>Zl rfl h
 exact fun h=>Zl rfl h
 clear a w h
 exact nx (tw (fun h=>ZO hS h (m:=0) (s:=2) rfl) (tRo 0 (hE:=rfl)))
theorem Zqj (s:BA)  :Fn prog J 98 [.str s] (.bool (Y6 s)):=by
 refine fE Tryz.func98 fun S w0 hS hJ0=>?_
 clear hJ0
 refine lnS 0 fun hl1=>?_
 refine qs tb hJ [0] [_] [_] ?_
 refine Ze (qs tb hJ [0,1005] U6 U2 ?_)
 refine cj 1 (fun hb1=>?_) fun hb1=>?_
 ·
  try simp at hb1
  refine qs tb hJ [1000] [_] [_] ?_
  exact tRn 0 (hE:=eB ((Zl9 hb1).symm))
 ·
  try simp at hb1
  refine Zb (nx (Ze (qs tb hJ [0,1000] [_] U2 ?_)))
  refine Zc (lp (ι:=Nat) (fun k=>(k≤s.size)∧(∀ j,j<k→ZqB s j=false)) (fun k=>[(3,.int (k:Nat))]) (fun k=>s.size-k) [0,1] [_] 0 (show(0≤s.size)∧(∀ j,j<0→ZqB s j=false)from by first | trivial | grind) ?_)
  rintro k ⟨f1_1,f1_2⟩
  refine Ze (hqs tb hJ [0,1,1003] [_,_,.int (s.size:Nat),_] [2] U3 rfl ⟨Zmp ZU,trivial⟩ ?_)
  refine cj 2 (fun hb2=>?_) fun hb2=>?_
  ·
   try simp at hb2
   refine Zb (nx (Ze (Zc (hqs tb hJ [0,1,1012] [_,_,.rd (.lit (.int .u8 ((ge s.data.toList k).toNat:Int))),_,_,_,_,_,.int (k+1:Nat),.str (s.extract k (k+1)),.bool (QK (s.extract k (k+1))),_,_] [2,8,9,10] U3 rfl ⟨fun _ _ _ hx hl _=>ZdV (i:=(k:Int)) ZU rfl (hl.dep 0 16 _ rfl rfl rfl rfl) (hl.dep 1 17 _ rfl rfl rfl rfl) nnn (ZaJ (s:=s) (k:=k) sfz) hx,fun _ _ _ hx hl hc=>ZeR (i:=(k:Int)) (j:=(1:Int)) rfl (hl.dep 7 23 _ rfl rfl rfl hc) (Rel.of_lit (.int .i64 1)) (by have hc':((!decide (((ge s.data.toList k).toNat:Int)=(63:Int)))==true)=true:=hc;(try simp at hc');(first | omega | (simp;omega) | grind[Zu])) (by have hc':((!decide (((ge s.data.toList k).toNat:Int)=(63:Int)))==true)=true:=hc;(try simp at hc');(first | omega | (simp;omega) | grind[Zu])) hx,fun _ _ _ hx hl hc=>Zrb (lo:=k) (hi:=k+1) ZU rfl (hl.dep 5 21 _ rfl rfl rfl hc) (hl.dep 6 22 _ rfl rfl rfl hc) (hl.dep 8 24 _ rfl rfl rfl hc) (by have hc':((!decide (((ge s.data.toList k).toNat:Int)=(63:Int)))==true)=true:=hc;(try simp at hc');(first | omega | (simp;omega) | grind[Zu])) (by have hc':((!decide (((ge s.data.toList k).toNat:Int)=(63:Int)))==true)=true:=hc;(try simp at hc');(first | omega | (simp;omega) | grind[Zu])) hx,iFn hS hJ (Zdk hJ (s.extract k (k+1))) Zhi,trivial⟩ ?_))))
   refine cj 2 (fun hb3=>?_) fun hb3=>?_
   ·
    refine qs tb hJ [1000] [_] [_] ?_
    exact tRn 0 (hE:=eB ((Zoa hb1 hb2 hb3).symm))
   ·
    refine Zb (nx (hqp tb hJ [0,1002] [_,.int (k+1:Nat),_] [1] U2 rfl ⟨Z7,trivial⟩ ?_))
    exact lpE (k+1) [0,1] ⟨oz,ZK f1_2 hb3⟩
  ·
   try simp at hb2
   refine Zs (nx (qs tb hJ [1002] U3 [_] ?_))
   exact tRn 0 (hE:=eB ((Zma hb1 fun j hj=>f1_2 j oz).symm))
theorem c_of (y:Hy) (vs:List BA)  :Fn prog J 133 [.agg (hyC y),.rd (Zf vs)] (.bool (ofB y vs)):=by
 refine fE Tryz.func133 fun S w0 hS hJ0=>?_
 clear hJ0
 refine ln 1 fun hl1=>?_
 refine hqs tb hJ [1,1000] [.ptr (hyC y),_] [0] U2 rfl ⟨iBs hS hJ,trivial⟩ ?_
 refine hqs tb hJ [1016] (V5 [.int (y.text.length:Nat),_,_,_,_,_,_,.ptr [lS (ge y.text 1)],_,.bool (decide ((ge y.text 1)∈vs)),_,_]) [5,12,14] [_] rfl ⟨Z3 Zm,gIx (k:=1) Zd (hk:=fun(hc':((y.floating&& (decide ((y.text.length:Int)=(2:Int))))==true)=true)=>by(try simp at hc');first | omega | (simp;omega) | grind[Zu]),iFn hS hJ (Zcp hJ vs (ge y.text 1)) X1,trivial⟩ ?_
 exact tRn 0 (hE:=eB (by first | rfl | grind[Zu]))
theorem Zdj (x y:Hy)  :Fn prog J 134 [.agg (hyC x),.agg (hyC y)] (.bool (Zmr x y)):=by
 refine fE Tryz.func134 fun S w0 hS hJ0=>?_
 clear hJ0
 refine hqs tb hJ [1000,1001] [.ptr (hyC x),.ptr (hyC y),_] [0,1] U2 rfl ⟨iBs hS hJ,iBs hS hJ,trivial⟩ ?_
 refine hqs tb hJ [1019] (V10 [.bool (x.floating==y.floating),_,_,_,_,_,_,.bool (decide (x.text=y.text)),_,_]) [10,17] [_] rfl ⟨fun _ _ _ hx hl hc=>ZtX Znk rfl (hl.dep 7 12 _ rfl rfl rfl hc) (hl.dep 9 14 _ rfl rfl rfl hc) hx,iFn hS hJ (ZjY hJ x.text y.text) ZsC,trivial⟩ ?_
 exact tRn 0 (hE:=eB (by first | rfl | grind[Zu]))
theorem Zhp (d:Db) (s:BA)  :Fn prog J 93 [.agg (dbC d),.str s] (.bool (Zdv d s)):=by
 refine fE Tryz.func93 fun S w0 hS hJ0=>?_
 clear hJ0
 refine hqs tb hJ [1,1000] [.ptr (dbC d),_] [0] U2 rfl ⟨iBs hS hJ,trivial⟩ ?_
 refine hqs tb hJ [1001,1010] (V3 [.bool (decide (s∈d.consts)),_,_,_,_,.bool (decide (s∈d.vars)),_,_]) [3,8] U2 rfl ⟨iFn hS hJ (Zcp hJ d.consts s) X1,iFn hS hJ (Zcp hJ d.vars s) X1,trivial⟩ ?_
 refine ln 0 fun hl1=>?_
 exact tRn 1 (hE:=eB (by first | rfl | grind[Zu]))
theorem ZiO (d:Db) (l:List BA) (h0:0<l.length):Fn prog J 96 [.agg (dbC d),.rd (Zf l)] (.int (Zbu d l)):=by
 refine fE Tryz.func96 fun S w0 hS hJ0=>?_
 clear hJ0
 refine ln 1 fun hl1=>?_
 refine hqs tb hJ [1,1000] [.ptr (dbC d),_] [0] U2 rfl ⟨iBs hS hJ,trivial⟩ ?_
 refine Ze (hqs tb hJ [0,1,1001,1006] (V3 [.ptr [lS (ge l 0)],_,.bool (decide ((ge l 0)∈d.consts)),_]) [3,5] U4 rfl ⟨iIx (k:=0) Zd,iFn hS hJ (Zcp hJ d.consts (ge l 0)) X1,trivial⟩ ?_)
 refine ln 2 fun hl2=>?_
 refine cj 3 (fun hb1=>?_) fun hb1=>?_
 ·
  try simp at hb1
  refine qs tb hJ [1000] [_] [_] ?_
  exact tRn 0 (hE:=eI ((Zpi hb1).symm))
 ·
  try simp at hb1
  refine Zb (nx (Ze (qs tb hJ [0,1,1000] [_] U3 ?_)))
  refine Zc (lp (ι:=Nat) (fun k=>(1≤k)∧(k≤l.length)∧(∀ j,0<j→j<k→Zdv d (ge l j)=true)) (fun k=>[(5,.int (k:Nat))]) (fun k=>l.length-k) [0,1,2] U2 1 (show(1≤1)∧(1≤l.length)∧(∀ j,0<j→j<1→Zdv d (ge l j)=true)from by first | trivial | grind) ?_)
  rintro k ⟨f1_1,f1_2,f1_3⟩
  refine Ze (hqs tb hJ [0,1,2,1003] [_,_,.int (l.length:Nat),_] [2] U4 rfl ⟨Z3 Zm,trivial⟩ ?_)
  refine cj 3 (fun hb2=>?_) fun hb2=>?_
  ·
   try simp at hb2
   refine Zb (nx (Ze (Zc (hqs tb hJ [0,1,2,1006] (V3 [.ptr [lS (ge l k)],_,.bool (Zdv d (ge l k)),_]) [3,5] U4 rfl ⟨iIx Zd,iFn hS hJ (Zhp hJ d (ge l k)) ZjP,trivial⟩ ?_))))
   refine cj 3 (fun hb3=>?_) fun hb3=>?_
   ·
    try simp at hb3
    refine qs tb hJ [1000] [_] [_] ?_
    exact tRn 0 (hE:=eI ((Zk8 oz oz hb3).symm))
   ·
    try simp at hb3
    refine Zb (nx (hqp tb hJ [0,1,1002] [_,.int (k+1:Nat),_] [1] U3 rfl ⟨Z7,trivial⟩ ?_))
    exact lpE (k+1) [0,1,2] ⟨by first | omega | (simp;omega) | grind[Zu],by first | omega | (simp;omega) | grind[Zu],by first | omega | (simp;omega) | grind[Zu]⟩
  ·
   try simp at hb2
   refine Zs (nx (qs tb hJ [1000] [_] [_] ?_))
   exact tRn 0 (hE:=eI ((Zk7 hb1 fun j h1 h2=>f1_3 j h1 oz).symm))
theorem Ztr (xs ys:List BA)  :Fn prog J 100 [.rd (Zf xs),.rd (Zf ys)] (.int (Zen xs ys:Nat)):=by
 refine fE Tryz.func100 fun S w0 hS hJ0=>?_
 clear hJ0
 refine ln 0 fun hl1=>?_
 refine ln 1 fun hl2=>?_
 refine qs tb hJ [0,1] [_] U2 ?_
 refine qs tb hJ [0,1,1000] [_] U3 ?_
 refine Ze (Zc (lp (ι:=Nat) (fun k=>(k≤xs.length)∧(k≤ys.length)∧(∀ j,j<k→ge xs j=ge ys j)) (fun k=>[(5,.int (k:Nat))]) (fun k=>xs.length-k) [0,1,2] U2 0 (show(0≤xs.length)∧(0≤ys.length)∧(∀ j,j<0→ge xs j=ge ys j)from by first | trivial | grind) ?_))
 rintro k ⟨f1_1,f1_2,f1_3⟩
 refine Ze (hqs tb hJ [0,1,2,1020] [_,_,.int (xs.length:Nat),_,_,_,_,.int (ys.length:Nat),_,_,_,_,_,.ptr [lS (ge xs k)],_,_,_,.ptr [lS (ge ys k)],_,_,_] [2,7,13,17] U4 rfl ⟨Z3 Zm,Z3 Zm,gIx Zd (hk:=fun(hc':(((decide ((k:Int)< (xs.length:Int)))&& (decide ((k:Int)< (ys.length:Int))))==true)=true)=>by(try simp at hc');first | omega | (simp;omega) | grind[Zu]),gIx Zd (hk:=fun(hc':(((decide ((k:Int)< (xs.length:Int)))&& (decide ((k:Int)< (ys.length:Int))))==true)=true)=>by(try simp at hc');first | omega | (simp;omega) | grind[Zu]),trivial⟩ ?_)
 refine cj 3 (fun hb1=>?_) fun hb1=>?_
 ·
  try simp at hb1
  refine Zb (nx (Zc (hqp tb hJ [0,1,1002] [_,.int (k+1:Nat),_] [1] U3 rfl ⟨Z7,trivial⟩ ?_)))
  exact lpE (k+1) [0,1,2] ⟨by first | omega | (simp;omega) | grind[Zu],by first | omega | (simp;omega) | grind[Zu],by first | omega | (simp;omega) | grind[Zu]⟩
 ·
  try simp at hb1
  refine Zs (nx (qs tb hJ [1001] U2 [_] ?_))
  exact tRn 0 (hE:=eI (by rw[ZjO xs ys k f1_1 f1_2 f1_3 (by grind)]))
theorem Zto (l:List Pr) (vs:List BA) (b:l.length*32≤140737488351232):Fn prog J 139 [.rd (YV l),.rd (Zf vs)] (.rd (YV (l.filter (inV vs)))):=by
 refine fE Tryz.func139 fun S w0 hS hJ0=>?_
 refine tw ZR (ln 0 fun hl1=>?_)
 refine ln 1 fun hl2=>?_
 refine qso tb hJ [0,1] [_] U2 ?_
 refine tsq (XF Zt hJ rfl rfl rfl (lb rfl) fun v1=>?_)
 refine snK 1 tb rfl (seK [0,2,3] U3 rfl ?_)
 refine nx (Ze (qso tb hJ [0,1,2,1000] [_] U4 ?_))
 refine Zc (lpo (ι:=Nat×Value×(List Pr)) (fun(k,_,out)=>(k≤l.length)∧(out=(l.take k).filter (inV vs))∧(out.length≤k)) (fun(_,v,out)=>[OB.row v 104 2 (out.map prC)]) (fun(k,v,_)=>[(6,.int (k:Nat)),(5,.lit v)]) (fun(k,_,_)=>l.length-k) [1,2,3,0] U2 (0,v1,([]:List Pr)) ⟨nzl,by simp,by simp⟩ ?_)
 rintro⟨k,v,out⟩ ⟨f1_1,f1_2,f1_3⟩
 refine Ze (ZG tb hJ [0,1,2,3,1003] [_,_,.int (l.length:Nat),_] [2] U5 rfl ⟨Z3 ZL,trivial⟩ ?_)
 refine cj 4 (fun hb1=>?_) fun hb1=>?_
 ·
  try simp at hb1
  refine Zb (nx (Ze (Zc (ZG tb hJ [0,1,2,3,1015] (V3 [.ptr (prC (ge l k)),_,_,.bool (decide (((ge l k).a)∈vs)),_,_,_,_,.ptr (prC (ge l k)),_,_,.bool (decide (((ge l k).b)∈vs)),_]) [3,6,11,14] U5 rfl ⟨iIx Zt,iFo hS hJ (Zcp hJ vs ((ge l k).a)) X1,gIx Zt (hk:=fun(hc':((decide (((ge l k).a)∈vs))==true)=true)=>by(try simp at hc');first | omega | (simp;omega) | grind[Zu]),iFo hS hJ (Zcp hJ vs ((ge l k).b)) X1,trivial⟩ ?_))))
  refine cj 4 (fun hb2=>?_) fun hb2=>?_
  ·
   try simp at hb2
   refine ZE (snK 3 tb rfl (sy (.ptr (prC (ge l k))) (fun h=>ZQ (i:=(k:Int)) Zt rfl (h.get 1 rfl) (h.get 0 rfl) nnn (Z0 (xs:=l) (k:=k) sfz) rfl h.x) ?_))
   refine snK 1 tb rfl (sy (.rd (YV ([(ge l k)]))) (fun h=>Xw Zt Zgx dz rfl rfl (h.get 0 rfl) (Zq hS _ h.keep h.x _ nlr) (jo hJ h.x)) ?_)
   refine ZS (f:=prC) (m:=5) (s:=30) out ([(ge l k)]) (fun _=>rfl) Zch hJ hJ0 rfl rfl rfl (lb rfl) rfl rfl (fun a w h=>(h.get 0 rfl)) sfz sfz fun v2=>?_
   refine snK 1 tb rfl (seK [0,2,8,9,10] U5 rfl ?_)
   refine nx (ln 1 fun hl3=>?_)
   refine Yo tb hJ [0,2,3,1002] [_,.int (k+1:Nat),_] [1] U4 rfl ⟨Z7,trivial⟩ ?_
   exact YE (k+1,v2,out++([(ge l k)])) [1,2,3,0] ⟨oz,by rw[Z4 oz,f1_2];simp[inV,hb2],by simp;omega⟩
  ·
   try simp at hb2
   refine Zb (nx (Yo tb hJ [0,1,3,1002] [_,.int (k+1:Nat),_] [1] U4 rfl ⟨Z7,trivial⟩ ?_))
   exact YE (k+1,v,out) [0,1,3,2] ⟨oz,by rw[Z4 oz,f1_2];simp[inV];grind,oz⟩
 ·
  try simp at hb1
  refine Zs (nx (qso tb hJ [1001] U2 [_] ?_))
  exact tw (fun h=>ZO hS h (m:=0) (s:=4) rfl) (tRo 0 (hE:=congrArg (fun z=>AV.rd (YV z)) (show out=(l.filter (inV vs))from by rw[f1_2,ZD oz])))
theorem ZjZ (l:List (List BA)) (vs:List BA) (b:vs.length≤8000):Fn prog J 135 [.rd (Ye l),.rd (Zf vs)] (.rd (Zf (Zab vs l.flatten))):=by
 refine fE Tryz.func135 fun S w0 hS hJ0=>?_
 refine tw ZR (ln 0 fun hl1=>?_)
 refine ln 1 fun hl2=>?_
 refine qso tb hJ [0,1] [_] U2 ?_
 refine tsq (XF Zd hJ rfl rfl rfl (lb rfl) fun v1=>?_)
 refine snK 1 tb rfl (seK [0,2,3] U3 rfl ?_)
 refine nx (Ze (qso tb hJ [0,1,2,1000] [_] U4 ?_))
 refine Zc (lpo (ι:=Nat×Value×(List BA)) (fun(k,_,out)=>(k≤l.length)∧(out=Zab vs (l.take k).flatten)) (fun(_,v,out)=>[OB.row v 9 1 (out.map Zax)]) (fun(k,v,_)=>[(6,.int (k:Nat)),(5,.lit v)]) (fun(k,_,_)=>l.length-k) [1,2,3,0] U2 (0,v1,([]:List BA)) ⟨nzl,by simp[Zab]⟩ ?_)
 rintro⟨k,v,out⟩ ⟨f1_1,f1_2⟩
 refine Ze (ZG tb hJ [0,1,2,3,1003] [_,_,.int (l.length:Nat),_] [2] U5 rfl ⟨Z3 Y9,trivial⟩ ?_)
 refine cj 4 (fun hb1=>?_) fun hb1=>?_
 ·
  try simp at hb1
  refine Zb (nx (Ze (Zc (qso tb hJ [0,1,2,3,1000] [_] U5 ?_))))
  refine Zc (lpo (ι:=Nat×Value×(List BA)) (fun(j,_,out2)=>(j≤(ge l k).length)∧(out2=Zab vs ((l.take k).flatten++(ge l k).take j))) (fun(_,vb,out2)=>[OB.row vb 9 1 (out2.map Zax)]) (fun(j,vb,_)=>[(7,.int (j:Nat)),(5,.lit vb)]) (fun(j,_,_)=>(ge l k).length-j) [0,1,2,4,3] U3 (0,v,out) ⟨nzl,by simp[f1_2]⟩ ?_)
  rintro⟨j,vb,out2⟩ ⟨f2_1,f2_2⟩
  refine Ze (ZG tb hJ (r5 [1004,1006]) (V3 [.ptr [Zf (ge l k)],_,.int ((ge l k).length:Nat),_]) [3,5] U7 rfl ⟨iIx ZF,Z3 Zm,trivial⟩ ?_)
  refine ln 5 fun hl3=>?_
  refine cj 6 (fun hb2=>?_) fun hb2=>?_
  ·
   try simp at hb2
   refine Zb (nx (Ze (Zc (ZG tb hJ (r5 [1007]) [_,_,.ptr [Zf (ge l k)],_,_,.ptr [lS (ge (ge l k) j)],_,_] [2,5] U6 rfl ⟨iIx ZF,iIx Zd,trivial⟩ ?_))))
   refine ZmW tb hJ (r6 [1008]) [_,_,.bool (decide ((ge (ge l k) j)∈vs)),_,_,_,.bool (decide ((ge (ge l k) j)∈out2)),_,_] [2,6] U7 rfl ⟨iFr hS hJ (Zcp hJ vs (ge (ge l k) j)) X1,fun _ _ hk hx hl hc=>ZaY (Zcp hJ out2 (ge (ge l k) j)) X1 rfl (nm hS hk) (hx.1) (Za (Qa hS hx (mo 0 rfl) (hl.dep 4 36 _ rfl rfl rfl hc)) (Za (hl.dep 5 37 _ rfl rfl rfl hc) Zg)) (jo hJ hx),trivial⟩ ?_
   refine cj 6 (fun hb3=>?_) fun hb3=>?_
   ·
    try simp at hb3
    refine ZE (snK 2 tb rfl (sy (.rd (Zf ([(ge (ge l k) j)]))) (fun h=>YC Zd ZaT rfl (h.get 0 rfl) (Zq hS _ h.keep h.x _ nlr) (jo hJ h.x)) ?_))
    refine ZS (f:=Zax) (m:=2) (s:=41) out2 ([(ge (ge l k) j)]) (fun _=>rfl) Xn hJ hJ0 rfl rfl rfl (lb rfl) rfl rfl (fun a w h=>(h.get 0 rfl)) (by have:=ZoC vs ((l.take k).flatten++(ge l k).take j);simp[f2_2];omega) (by have:=ZoC vs ((l.take k).flatten++(ge l k).take j);simp[f2_2];omega) fun v2=>?_
    refine snK 1 tb rfl (seK [0,2,5,6,7,8] U6 rfl ?_)
    refine nx (ln 1 fun hl4=>?_)
    refine Yo tb hJ [0,2,3,4,1002] [_,.int (j+1:Nat),_] [1] U5 rfl ⟨Z7,trivial⟩ ?_
    exact YE (j+1,v2,out2++([(ge (ge l k) j)])) [1,2,3,4,0] ⟨oz,by rw[ZZ oz,←List.append_assoc,ZbJ,←f2_2];simp[hb3]⟩
   ·
    try simp at hb3
    refine Zb (nx (Yo tb hJ [0,1,2,4,1002] [_,.int (j+1:Nat),_] [1] U5 rfl ⟨Z7,trivial⟩ ?_))
    exact YE (j+1,vb,out2) [0,1,2,4,3] ⟨oz,by rw[ZZ oz,←List.append_assoc,ZbJ,←f2_2];simp;grind⟩
  ·
   try simp at hb2
   refine Zs (nx (Yo tb hJ [0,1,4,1002] [_,.int (k+1:Nat),_] [1] U4 rfl ⟨Z7,trivial⟩ ?_))
   exact YE (k+1,vb,out2) [0,1,3,2] ⟨oz,by rw[f2_2,ZD (xs:=ge l k) oz,ZZ oz];simp⟩
 ·
  try simp at hb1
  refine Zs (nx (qso tb hJ [1001] U2 [_] ?_))
  exact tw (fun h=>ZO hS h (m:=0) (s:=4) rfl) (tRo 0 (hE:=congrArg (fun z=>AV.rd (Zf z)) (show out=(Zab vs l.flatten)from by rw[f1_2,ZD oz])))
theorem Zd4 (f:Fr) (b:f.hyps.length*48≤140737488351232):Fn prog J 99 [.agg (frC f)] (.rd (Zf ((YZ f.hyps).map Hy.label))):=by
 refine fE Tryz.func99 fun S w0 hS hJ0=>?_
 refine tw ZR (ZG tb hJ [1000] [.ptr (frC f),_] [0] [_] rfl ⟨iBo hS hJ,trivial⟩ ?_)
 refine tsq (XF Zd hJ rfl rfl rfl (lb rfl) fun v1=>?_)
 refine snK 1 tb rfl (seK [0,2] U2 rfl ?_)
 refine nx (Ze (qso tb hJ [0,1,1000] [_] U3 ?_))
 refine Zc (lpo (ι:=Nat×Value×(List BA)) (fun(k,_,out)=>(k≤f.hyps.length)∧(out=(YZ (f.hyps.take k)).map Hy.label)∧(out.length≤k)) (fun(_,v,out)=>[OB.row v 9 1 (out.map Zax)]) (fun(k,v,_)=>[(4,.int (k:Nat)),(3,.lit v)]) (fun(k,_,_)=>f.hyps.length-k) [1,2,0] [_] (0,v1,([]:List BA)) ⟨nzl,by simp[YZ],by simp⟩ ?_)
 rintro⟨k,v,out⟩ ⟨f1_1,f1_2,f1_3⟩
 refine Ze (ZG tb hJ [0,1,2,1002,1004] (V3 [.int (f.hyps.length:Nat),_]) [3] U5 rfl ⟨Z3 Zz,trivial⟩ ?_)
 refine ln 3 fun hl1=>?_
 refine cj 4 (fun hb1=>?_) fun hb1=>?_
 ·
  try simp at hb1
  refine Zb (nx (Ze (Zc (ZG tb hJ [0,1,2,1006] (V3 [.ptr (hyC (ge f.hyps k)),_,_,_]) [3] U4 rfl ⟨iIx Zo,trivial⟩ ?_))))
  refine cj 3 (fun hb2=>?_) fun hb2=>?_
  ·
   try simp at hb2
   refine ZE (snK 4 tb rfl (sy (.ptr (hyC (ge f.hyps k))) (fun h=>ZQ (i:=(k:Int)) Zo rfl (h.get 1 rfl) (h.get 0 rfl) nnn (Z0 (xs:=f.hyps) (k:=k) sfz) rfl h.x) ?_))
   refine snK 2 tb rfl (sy (.rd (Zf ([(ge f.hyps k).label]))) (fun h=>YC Zd ZaT rfl (h.get 0 rfl) (Zq hS _ h.keep h.x _ nlr) (jo hJ h.x)) ?_)
   refine ZS (f:=Zax) (m:=7) (s:=20) out ([(ge f.hyps k).label]) (fun _=>rfl) Xn hJ hJ0 rfl rfl rfl (lb rfl) rfl rfl (fun a w h=>(h.get 0 rfl)) sfz sfz fun v2=>?_
   refine snK 1 tb rfl (seK [0,2,10,11] U4 rfl ?_)
   refine nx (ln 1 fun hl2=>?_)
   refine Yo tb hJ [0,2,1002] [_,.int (k+1:Nat),_] [1] U3 rfl ⟨Z7,trivial⟩ ?_
   exact YE (k+1,v2,out++([(ge f.hyps k).label])) [1,2,0] ⟨oz,by rw[YZ,Z4 oz,f1_2];simp[YZ,hb2],by simp;omega⟩
  ·
   try simp at hb2
   refine Zb (nx (Yo tb hJ [0,2,1002] [_,.int (k+1:Nat),_] [1] U3 rfl ⟨Z7,trivial⟩ ?_))
   exact YE (k+1,v,out) [0,2,1] ⟨oz,by rw[YZ,Z4 oz,f1_2];simp[YZ,hb2],oz⟩
 ·
  try simp at hb1
  refine Zs (nx (qso tb hJ [1001] U2 [_] ?_))
  exact tw (fun h=>ZO hS h (m:=0) (s:=2) rfl) (tRo 0 (hE:=congrArg (fun z=>AV.rd (Zf z)) (show out=((YZ f.hyps).map Hy.label)from by rw[f1_2,ZD oz])))
theorem ZmM (hs:List Hy) (t:List BA) (b:hs.length≤40):Fn prog J 136 [.rd (Y1 hs),.rd (Zf t)] (.rd (Ye (t::(YZ hs).map Hy.text))):=by
 refine fE Tryz.func136 fun S w0 hS hJ0=>?_
 refine tw ZR (ln 0 fun hl1=>?_)
 refine ln 1 fun hl2=>?_
 refine qso tb hJ [0,1] [_] U2 ?_
 refine tsq (snK 1 tb rfl (Zny ZF ZaL hJ rfl rfl rfl (lb rfl) (fun _ _ h=>(h.get 0 rfl)) fun v1=>?_))
 refine snK 1 tb rfl (seK [0,3] U2 rfl ?_)
 refine nx (Ze (qso tb hJ [0,1,1000] [_] U3 ?_))
 refine Zc (lpo (ι:=Nat×Value×(List (List BA))) (fun(k,_,out)=>(k≤hs.length)∧(out=t::(YZ (hs.take k)).map Hy.text)∧(out.length≤k+1)) (fun(_,v,out)=>[OB.row v 22 1 (out.map Zn)]) (fun(k,v,_)=>[(6,.int (k:Nat)),(5,.lit v)]) (fun(k,_,_)=>hs.length-k) [1,2,0] [_] (0,v1,[t]) ⟨nzl,by simp[YZ],by simp⟩ ?_)
 rintro⟨k,v,out⟩ ⟨f1_1,f1_2,f1_3⟩
 refine Ze (ZG tb hJ [0,1,2,1003] [_,_,.int (hs.length:Nat),_] [2] U4 rfl ⟨Z3 Zz,trivial⟩ ?_)
 refine cj 3 (fun hb1=>?_) fun hb1=>?_
 ·
  try simp at hb1
  refine Zb (nx (Ze (Zc (ZG tb hJ [0,1,2,1005] [_,_,.ptr (hyC (ge hs k)),_,_,_] [2] U4 rfl ⟨iIx Zo,trivial⟩ ?_))))
  refine cj 3 (fun hb2=>?_) fun hb2=>?_
  ·
   try simp at hb2
   refine ZE (snK 3 tb rfl (sy (.ptr (hyC (ge hs k))) (fun h=>ZQ (i:=(k:Int)) Zo rfl (h.get 1 rfl) (h.get 0 rfl) nnn (Z0 (xs:=hs) (k:=k) sfz) rfl h.x) ?_))
   refine snK 2 tb rfl (sy (.rd (Ye ([(ge hs k).text]))) (fun h=>YC ZF ZaL rfl (h.get 0 rfl) (Zq hS _ h.keep h.x _ nlr) (jo hJ h.x)) ?_)
   refine ZS (f:=Zn) (m:=6) (s:=21) out ([(ge hs k).text]) (fun _=>rfl) Qy hJ hJ0 rfl rfl rfl (lb rfl) rfl rfl (fun a w h=>(h.get 0 rfl)) sfz sfz fun v2=>?_
   refine snK 1 tb rfl (seK [0,2,3,9,10] U5 rfl ?_)
   refine nx (ln 1 fun hl3=>?_)
   refine ln 2 fun hl4=>?_
   refine Yo tb hJ [0,3,1002] [_,.int (k+1:Nat),_] [1] U3 rfl ⟨Z7,trivial⟩ ?_
   exact YE (k+1,v2,out++([(ge hs k).text])) [1,2,0] ⟨oz,by rw[YZ,Z4 oz,f1_2];simp[YZ,hb2],by simp;omega⟩
  ·
   try simp at hb2
   refine Zb (nx (Yo tb hJ [0,2,1002] [_,.int (k+1:Nat),_] [1] U3 rfl ⟨Z7,trivial⟩ ?_))
   exact YE (k+1,v,out) [0,2,1] ⟨oz,by rw[YZ,Z4 oz,f1_2];simp[YZ,hb2],oz⟩
 ·
  try simp at hb1
  refine Zs (nx (qso tb hJ [1001] U2 [_] ?_))
  exact tw (fun h=>ZO hS h (m:=0) (s:=4) rfl) (tRo 0 (hE:=congrArg (fun z=>AV.rd (Ye z)) (show out=(t::(YZ hs).map Hy.text)from by rw[f1_2,ZD oz])))
end
end Go.Proofs.YtneapgbkkkjagaaGreatDoor
set_option maxHeartbeats 8000000
set_option maxRecDepth 100000
namespace Go.Proofs.YtneapgbkkkjagaaGreatDoor
open Go.RowKit
section
variable {J:WP} (hJ:Stab J)
include hJ
theorem Zts (d:Db) (k:Nat) (hn:k≤d.frames.length) (hk0:k≤400) (hz:0<k→(ge d.frames (k-1)).hyps.length≤40):Fn Tryz.prog J 101 [.agg (dbC d),.int (k:Nat)] (.rd (Zf (Zj5 d k))):=by
 refine fE Tryz.func101 fun S w0 hS hJ0=>?_
 clear hJ0
 refine hqs tb hJ [1,1000] [.ptr (dbC d),_] [0] U2 rfl ⟨iBs hS hJ,trivial⟩ ?_
 refine Ze (qs tb hJ [0,1,1001] U2 U3 ?_)
 refine cj 2 (fun hb1=>?_) fun hb1=>?_
 ·
  try simp at hb1
  refine qs tb hJ [1000] [_] [_] ?_
  exact tw (fun h=>Yb h (m:=0) (s:=4) rfl) (tRn 0 (hE:=congrArg (fun z=>AV.rd (Zf z)) (show([]:List BA)=(Zj5 d k)from by simp[Zj5,hb1])))
 ·
  try simp at hb1
  refine Zb (nx (hqs tb hJ [1001,1006,1007] (V3 [.int ((k:Int)-(1:Int)),.ptr (frC (ge d.frames ((k:Int)-(1:Int)).toNat)),_,.rd (Zf ((YZ (ge d.frames ((k:Int)-(1:Int)).toNat).hyps).map Hy.label)),_]) [3,4,6] U3 rfl ⟨ZvR,iIz ZV,iFn hS hJ (Zd4 hJ (ge d.frames ((k:Int)-(1:Int)).toNat) (by have:=hz oz;rw[show((k:Int)-1).toNat=k-1 by omega];omega)) ZpM,trivial⟩ ?_))
  refine ln 0 fun hl1=>?_
  refine ln 1 fun hl2=>?_
  exact tRn 2 (hE:=congrArg (fun z=>AV.rd (Zf z)) (show((YZ (ge d.frames ((k:Int)-(1:Int)).toNat).hyps).map Hy.label)=(Zj5 d k)from by rw[Zj5,if_neg hb1,show((k:Int)-1).toNat=k-1 by omega]))
theorem Zj0 (d:Db) (n:Nat) (s:BA) (hn:n≤d.frames.length) (hz:∀ i,i<n→(ge d.frames i).hyps.length≤40∧(ge d.frames i).dummies.length≤40):Fn Tryz.prog J 92 [.agg (dbC d),.int (n:Nat),.str s] (.tup [.bool (frL d n s),.bool (hyL d n s)]):=by
 refine fE Tryz.func92 fun S w0 hS hJ0=>?_
 clear hJ0
 refine hqs tb hJ [1,2,1000,1001,1002] [.ptr (dbC d),_,_] [0] U5 rfl ⟨iBs hS hJ,trivial⟩ ?_
 refine Ze (qs tb hJ (r5 [1000]) [_] U6 ?_)
 refine Zc (lp (ι:=Nat×Bool×Bool) (fun(k,p,q)=>(k≤n)∧(p=frL d k s)∧(q=hyL d k s)) (fun(k,p,q)=>[(8,.int (k:Nat)),(6,.bool p),(7,.bool q)]) (fun(k,_,_)=>n-k) [0,1,2,5,3,4] U3 (0,false,false) ⟨nzl,by simp[frL],by simp[hyL]⟩ ?_)
 rintro⟨k,p,q⟩ ⟨f1_1,f1_2,f1_3⟩
 refine Ze (qs tb hJ (r6 [1002]) U3 U7 ?_)
 refine cj 6 (fun hb1=>?_) fun hb1=>?_
 ·
  try simp at hb1
  refine Zb (nx (Ze (Zc (hqs tb hJ [0,1,2,3,5,1011] (V5 [.ptr (frC (ge d.frames k)),_,_,_,_,_,_]) [5] U6 rfl ⟨gIx ZV (hk:=fun(hc':(p==false)=true)=>by(try simp at hc');first | omega | (simp;omega) | grind[Zu]),trivial⟩ ?_))))
  refine hqs tb hJ (r6 [1001,1005,1006]) (V3 [.ptr (frC (ge d.frames k)),_,.rd (Y1 ((ge d.frames k).hyps++(ge d.frames k).dummies)),_]) [3,5] U9 rfl ⟨iIx ZV,iFn hS hJ (Ztu hJ (ge d.frames k) (by have:=hz k oz;omega)) Zhh,trivial⟩ ?_
  refine ln 6 fun hl1=>?_
  refine ln 7 fun hl2=>?_
  refine qs tb hJ (r6 [8,1000]) [_] U8 ?_
  refine Zc (lp (ι:=Nat×Bool) (fun(j,q2)=>(j≤((ge d.frames k).hyps++(ge d.frames k).dummies).length)∧(q2=(hyL d k s|| (((ge d.frames k).hyps++(ge d.frames k).dummies).take j).any fun h=>decide (h.label=s)))) (fun(j,q2)=>[(10,.int (j:Nat)),(7,.bool q2)]) (fun(j,_)=>((ge d.frames k).hyps++(ge d.frames k).dummies).length-j) [0,1,2,3,5,6,7,4] U6 (0,q) ⟨nzl,by simp[f1_3]⟩ ?_)
  rintro⟨j,q2⟩ ⟨f2_1,f2_2⟩
  refine Ze (hqs tb hJ (r8 [1003]) [_,_,.int (((ge d.frames k).hyps++(ge d.frames k).dummies).length:Nat),_] [2] U9 rfl ⟨Z3 Zz,trivial⟩ ?_)
  refine cj 8 (fun hb2=>?_) fun hb2=>?_
  ·
   try simp at hb2
   refine Zb (nx (Ze (Zc (hqp tb hJ (r7 [1010]) (V4 [.ptr (hyC (ge ((ge d.frames k).hyps++(ge d.frames k).dummies) j)),_,_,_,_,_,_]) [4] U8 rfl ⟨gIx Zo (hk:=fun(hc':(q2==false)=true)=>by(try simp at hc');first | omega | (simp;omega) | grind[Zu]),trivial⟩ ?_))))
   refine nx (hqp tb hJ (r6 [7,1002]) [_,.int (j+1:Nat),_] [1] U8 rfl ⟨Z7,trivial⟩ ?_)
   exact lpE (j+1,q2|| (decide (((ge ((ge d.frames k).hyps++(ge d.frames k).dummies) j).label)=s))) (r6 [7,6]) ⟨by simp;omega,by rw[Qz (by simp;omega),←Bool.or_assoc,←f2_2]⟩
  ·
   try simp at hb2
   refine Zs (nx (hqp tb hJ [0,1,2,4,7,1002] [_,.int (k+1:Nat),_] [1] U6 rfl ⟨Z7,trivial⟩ ?_))
   exact lpE (k+1,p|| (decide (((ge d.frames k).label)=s)),q2) [0,1,2,5,3,4] ⟨oz,by rw[f1_2,frL,frL,Qz oz],by rw[f2_2,ZD (xs:=((ge d.frames k).hyps++(ge d.frames k).dummies)) (by simp;omega),hyL,hyL,Qz oz]⟩
 ·
  try simp at hb1
  refine Zs (nx (qs tb hJ [1002,1003] U4 U2 ?_))
  exact ZA (fun a w h=>Y0 (m:=0) (k:=1) rfl h rfl rfl (eB (by rw[f1_2,show k=n by omega])) (eB (by rw[f1_3,show k=n by omega])))
theorem c_less (x y:Pr)  :Fn Tryz.prog J 184 [.agg (prC x),.agg (prC y)] (.bool (ltP x y)):=by
 refine fE Tryz.func184 fun S w0 hS hJ0=>?_
 clear hJ0
 refine hqs tb hJ [1000,1001] [.ptr (prC x),.ptr (prC y),_] [0,1] U2 rfl ⟨iBs hS hJ,iBs hS hJ,trivial⟩ ?_
 refine qs tb hJ [1019] [_,_,_,_,_,_,_,_,_,_,_,_,_,_,_,_,_,_,_,_] [_] ?_
 exact tRn 0 (hE:=eB (by first | rfl | grind[Zu]))
theorem c_put (l:List Pr) (p:Pr) (b:(l.length+1)*32≤140737488351264):Fn Tryz.prog J 164 [.rd (YV l),.agg (prC p)] (.rd (YV (Zc3 l p))):=by
 refine fE Tryz.func164 fun S w0 hS hJ0=>?_
 refine tw ZR (ln 0 fun hl1=>?_)
 refine ZG tb hJ [0,1000] [.ptr (prC p),_] [0] U2 rfl ⟨iBo hS hJ,trivial⟩ ?_
 refine qso tb hJ [0,1,1000] [_] U3 ?_
 refine Ze (Zc (lpo (ι:=Nat) (fun k=>(k≤l.length)∧(∀ j,j<k→ltP (ge l j) p=true)) (fun _=>[]) (fun k=>[(5,.int (k:Nat))]) (fun k=>l.length-k) [0,1,2] U2 0 (show(0≤l.length)∧(∀ j,j<0→ltP (ge l j) p=true)from by first | trivial | grind) ?_))
 rintro k ⟨f1_1,f1_2⟩
 refine Ze (ZG tb hJ [0,1,2,1011] [_,_,.int (l.length:Nat),_,_,_,_,.ptr (prC (ge l k)),_,_,.bool (ltP (ge l k) p),_] [2,7,10] U4 rfl ⟨Z3 ZL,gIx Zt (hk:=fun(hc':((decide ((k:Int)< (l.length:Int)))==true)=true)=>by(try simp at hc');first | omega | (simp;omega) | grind[Zu]),iFo hS hJ (c_less hJ (ge l k) p) Zss,trivial⟩ ?_)
 refine cj 3 (fun hb1=>?_) fun hb1=>?_
 ·
  try simp at hb1
  refine Zb (nx (Zc (Yo tb hJ [0,1,1002] [_,.int (k+1:Nat),_] [1] U3 rfl ⟨Z7,trivial⟩ ?_)))
  exact YE (k+1) [0,1,2] ⟨oz,ZK f1_2 (by simp_all)⟩
 ·
  try simp at hb1
  refine Zs (nx (Ze (ZG tb hJ [0,1,2,1011] [_,_,.int (l.length:Nat),_,_,_,_,.ptr (prC (ge l k)),_,_,.bool (decide ((ge l k).a=p.a)&&decide ((ge l k).b=p.b)),_] [2,7,10] U4 rfl ⟨Z3 ZL,gIx Zt (hk:=fun(hc':((decide ((k:Int)< (l.length:Int)))==true)=true)=>by(try simp at hc');first | omega | (simp;omega) | grind[Zu]),fun _ _ _ hx hl hc=>Zn0 Zgj rfl (hl.dep 8 28 _ rfl rfl rfl hc) (hl.dep 9 29 _ rfl rfl rfl hc) hx,trivial⟩ ?_)))
  refine cj 3 (fun hb2=>?_) fun hb2=>?_
  ·
   try simp at hb2
   refine qso tb hJ [1001] U2 [_] ?_
   exact tRo 0 (hE:=congrArg (fun z=>AV.rd (YV z)) (show l=(Zc3 l p)from by rw[Zjk l p k f1_1 f1_2 (by grind),if_pos ⟨hb2.1,by simp[ZfF,hb2]⟩]))
  ·
   try simp at hb2
   refine Zb (nx (Ze (fun a w h=>Zbg (id:=6) (t:=57) (e:=104) (size:=2) (bytes:=32) (i0:=0) (fol:=12) (d:=4) (ch:=[(4,((l.take k).map prC)),(7,(([p]).map prC)),(11,((l.drop k).map prC))]) (fun ix'=>([.any,.rd (YV l),.int (k:Nat),.rd (YV (l.take k)),.any,.agg (prC p),.rd (YV ([p])),.any,.rd (YV l),.int (k:Nat),.rd (YV (l.drop k)),.any,.any]:List AV).getD ix' .any) (fun _=>true) [] (((l.take k)++([p])++(l.drop k)).map prC) yz ?r6_1 hJ hJ0 h Yr rfl rfl rfl rfl ⟨?_,?_,?_,?_,?_,?_,?_,?_,?_,?_,?_,?_,?_,trivial⟩ trivial (fun v1=>?n6_1))))
   case r6_1=>
    refine Row.mk' Zch ⟨_,rfl,rfl,rfl,rfl,rfl⟩ ⟨?x6_1_0,?x6_1_1,?x6_1_2,trivial⟩ ⟨_,_,_,_,rfl,rfl,rfl,rfl,rfl,rfl,rfl,rfl,rfl⟩ rfl rfl rfl
    case x6_1_0=>exact⟨_,_,_,_,rfl,rfl,rfl,rfl,rfl,rfl,rfl,rfl,XG (f:=prC) (fun _=>rfl),(by have hm:maxLen=9223372036854775807:=rfl;simp[upto];first | omega | (simp;omega) | grind[Zu]),(by have hm:maxLen=9223372036854775807:=rfl;simp[upto];first | omega | (simp;omega) | grind[Zu]),fun _ _ _ _ _ hl=>(hl.dep 3 36 _ rfl rfl rfl rfl)⟩
    case x6_1_1=>exact⟨_,_,_,_,rfl,rfl,rfl,rfl,rfl,rfl,rfl,rfl,XG (f:=prC) (fun _=>rfl),(by have hm:maxLen=9223372036854775807:=rfl;simp[upto];first | omega | (simp;omega) | grind[Zu]),(by have hm:maxLen=9223372036854775807:=rfl;simp[upto];first | omega | (simp;omega) | grind[Zu]),fun _ _ _ _ _ hl=>(hl.dep 6 39 _ rfl rfl rfl rfl)⟩
    case x6_1_2=>exact⟨_,_,_,_,rfl,rfl,rfl,rfl,rfl,rfl,rfl,rfl,XG (f:=prC) (fun _=>rfl),(by have hm:maxLen=9223372036854775807:=rfl;simp[upto];first | omega | (simp;omega) | grind[Zu]),(by have hm:maxLen=9223372036854775807:=rfl;simp[upto];first | omega | (simp;omega) | grind[Zu]),fun _ _ _ _ _ hl=>(hl.dep 10 43 _ rfl rfl rfl rfl)⟩
   exact fun h=>Zl rfl h
   exact fun _ _=>⟨rfl,fun _ _ _ hx hl _=>Z2 rfl (hl.env 0 0 _ rfl rfl) hx⟩
   exact fun _ _=>⟨rfl,fun _ _ _ hx hl _=>Z2 rfl (hl.env 2 5 _ rfl rfl) hx⟩
   exact fun _ _=>⟨rfl,fun _ _ _ hx hl _=>Yy (ys:=l.take k) (lo:=0) (hi:=k) List.drop_zero Zt (fun _=>rfl) rfl (hl.dep 1 34 _ rfl rfl rfl rfl) rfl (hl.dep 2 35 _ rfl rfl rfl rfl) sfz sfz hx⟩
   exact fun h=>Zl rfl h
   exact fun _ _=>⟨rfl,fun _ _ _ hx hl _=>ZaN YR rfl (hl.env 1 3 _ rfl rfl) nlr hx⟩
   exact fun _ _=>⟨rfl,fun _ _ hk hx hl _=>Xw Zt Zgx dz rfl rfl (hl.dep 5 38 _ rfl rfl rfl rfl) (Zq hS _ hk hx _ nlr) (jo hJ hx)⟩
   exact fun h=>Zl rfl h
   exact fun _ _=>⟨rfl,fun _ _ _ hx hl _=>Z2 rfl (hl.env 0 0 _ rfl rfl) hx⟩
   exact fun _ _=>⟨rfl,fun _ _ _ hx hl _=>Z2 rfl (hl.env 2 5 _ rfl rfl) hx⟩
   exact fun _ _=>⟨rfl,fun _ _ _ hx hl _=>Yy (ys:=l.drop k) (lo:=k) (hi:=l.length) (by rw[List.take_length]) Zt (fun _=>rfl) rfl (hl.dep 8 41 _ rfl rfl rfl rfl) (hl.dep 9 42 _ rfl rfl rfl rfl) rfl sfz sfz hx⟩
   exact fun h=>Zl rfl h
   exact fun h=>Zl rfl h
   clear a w h
   exact nx (tw (fun h=>ZO hS h (m:=0) (s:=4) rfl) (tRo 0 (hE:=congrArg (fun z=>AV.rd (YV z)) (show((l.take k)++([p])++(l.drop k))=(Zc3 l p)from by rw[Zjk l p k f1_1 f1_2 (by grind),if_neg (by simp[ZfF];grind)];simp))))
theorem c_Join (ws zs:List Pr) (b:(ws.length+zs.length+1)*32≤140737488351264):Fn Tryz.prog J 138 [.rd (YV ws),.rd (YV zs)] (.rd (YV (ZfP ws zs))):=by
 refine fE Tryz.func138 fun S w0 hS hJ0=>?_
 refine tw ZR (ln 0 fun hl1=>?_)
 refine ln 1 fun hl2=>?_
 refine qso tb hJ [0,1] [_] U2 ?_
 refine tsq (XF Zt hJ rfl rfl rfl (lb rfl) fun v1=>?_)
 refine snK 1 tb rfl (seK [0,2,3] U3 rfl ?_)
 refine nx (Ze (tw (fun h=>ZO hS h (m:=0) (s:=5) rfl) (qso tb hJ [0,1,2,1000] [_] U4 ?_)))
 refine Zc (lpo (ι:=Nat×(List Pr)) (fun(k,out)=>(k≤ws.length)∧(out=(ws.take k).foldl Zc3 [])∧(out.length≤k)) (fun(_,_)=>[]) (fun(k,out)=>[(6,.int (k:Nat)),(5,.rd (YV out))]) (fun(k,_)=>ws.length-k) [1,2,3,0] U2 (0,[]) ⟨nzl,by simp,by simp⟩ ?_)
 rintro⟨k,out⟩ ⟨f1_1,f1_2,f1_3⟩
 refine Ze (ZG tb hJ [0,1,2,3,1003] [_,_,.int (ws.length:Nat),_] [2] U5 rfl ⟨Z3 ZL,trivial⟩ ?_)
 refine ln 3 fun hl3=>?_
 refine cj 4 (fun hb1=>?_) fun hb1=>?_
 ·
  try simp at hb1
  refine Zb (nx (Ze (Zc (Yo tb hJ [0,1,2,1005,1006] (V3 [.ptr (prC (ge ws k)),_,.rd (YV (Zc3 out (ge ws k))),_]) [3,5] U5 rfl ⟨iIx Zt,iFo hS hJ (c_put hJ out (ge ws k) (by exact Nat.le_trans (Nat.mul_le_mul_right 32 oz) b)) Zlv,trivial⟩ ?_))))
  refine nx (ln 3 fun hl4=>?_)
  refine Yo tb hJ [0,1,4,1002] [_,.int (k+1:Nat),_] [1] U4 rfl ⟨Z7,trivial⟩ ?_
  exact YE (k+1,(Zc3 out (ge ws k))) [0,1,3,2] ⟨oz,by rw[f1_2,ZbN oz],by have:=ZkH out (ge ws k);omega⟩
 ·
  try simp at hb1
  refine Zs (nx (Ze (qso tb hJ [1,3,1000] [_] U3 ?_)))
  refine Zc (lpo (ι:=Nat×(List Pr)) (fun(j,out2)=>(j≤zs.length)∧(out2=(ws++zs.take j).foldl Zc3 [])∧(out2.length≤ws.length+j)) (fun(_,_)=>[]) (fun(j,out2)=>[(7,.int (j:Nat)),(5,.rd (YV out2))]) (fun(j,_)=>zs.length-j) [0,2,1] [_] (0,out) ⟨nzl,by rw[f1_2,ZD oz];simp,oz⟩ ?_)
  rintro⟨j,out2⟩ ⟨f2_1,f2_2,f2_3⟩
  refine Ze (ZG tb hJ [0,1,2,1003] [_,_,.int (zs.length:Nat),_] [2] U4 rfl ⟨Z3 ZL,trivial⟩ ?_)
  refine ln 2 fun hl5=>?_
  refine cj 3 (fun hb2=>?_) fun hb2=>?_
  ·
   try simp at hb2
   refine Zb (nx (Ze (Zc (Yo tb hJ [0,1,1005,1006] (V3 [.ptr (prC (ge zs j)),_,.rd (YV (Zc3 out2 (ge zs j))),_]) [3,5] U4 rfl ⟨iIx Zt,iFo hS hJ (c_put hJ out2 (ge zs j) (by exact Nat.le_trans (Nat.mul_le_mul_right 32 oz) b)) Zlv,trivial⟩ ?_))))
   refine nx (ln 2 fun hl6=>?_)
   refine Yo tb hJ [0,3,1002] [_,.int (j+1:Nat),_] [1] U3 rfl ⟨Z7,trivial⟩ ?_
   exact YE (j+1,(Zc3 out2 (ge zs j))) [0,2,1] ⟨oz,by rw[f2_2,ZZ oz,←List.append_assoc];simp only[List.foldl_append,List.foldl_cons,List.foldl_nil],by have:=ZkH out2 (ge zs j);omega⟩
  ·
   try simp at hb2
   refine Zs (nx (qso tb hJ [1001] U2 [_] ?_))
   exact tRo 0 (hE:=congrArg (fun z=>AV.rd (YV z)) (show out2=(ZfP ws zs)from by rw[f2_2,ZD (xs:=zs) oz];rfl))
end
theorem ZiN {J:WP} (hJ:Stab J) (d:Db) (k:Nat) (y:Hy) (bs:List Hy) (dm:Bool) (hk0:k<d.frames.length) (hf:d.frames.length≤400) (hz:∀ i,i<k+1→(ge d.frames i).hyps.length≤40∧(ge d.frames i).dummies.length≤40) (hb:bs.length≤80):Fn Tryz.prog J 95 [.agg (dbC d),.int (k:Nat),.agg (hyC y),.rd (Y1 bs),.bool dm] (.int (Zc9 d k y bs dm)):=by
 refine fE Tryz.func95 fun S w0 hS hJ0=>?_
 refine tw ZR (ln 3 fun hl1=>?_)
 refine ZG tb hJ [1,3,4,1000,1001] [.ptr (dbC d),.ptr (hyC y),_] [0,1] U5 rfl ⟨iBo hS hJ,iBo hS hJ,trivial⟩ ?_
 refine ZG tb hJ (r5 [1001,1003]) [_,_,.int (y.text.length:Nat),_] [2] U7 rfl ⟨Z3 Zm,trivial⟩ ?_
 refine ln 5 fun hl2=>?_
 refine Ze (ZG tb hJ [0,1,3,4,1032] [_,_,.bool (QK y.label),_,_,_,_,_,_,_,_,_,_,_,_,_,_,_,_,_,_,_,_,_,_,_,_,_,_,_,_,_,_] [2] U5 rfl ⟨iFo hS hJ (Zdk hJ y.label) Zhi,trivial⟩ ?_)
 refine cj 4 (fun hb1=>?_) fun hb1=>?_
 ·
  replace hb1:Zar y dm=true:=hb1
  refine qso tb hJ [1000] [_] [_] ?_
  exact tRo 0 (hE:=eI (by subst_vars;grind[Zc9]))
 ·
  replace hb1:Zar y dm=false:=hb1
  have hy1:=Zix hb1
  refine Zb (nx (ZG tb hJ [0,1,2,3,1009] [_,_,.int (k+1:Nat),_,_,.tup [.bool (frL d (k+1) y.label),.bool (hyL d (k+1) y.label)],_,_,_,_,_] [2,5] U5 rfl ⟨Z7,iFo hS hJ (Zj0 hJ d (k+1) y.label sfz (hz)) ZjQ,trivial⟩ ?_))
  refine Ze (ZG tb hJ [0,1,2,3,1006] (V5 [.bool (Zdv d y.label),_]) [5] U5 rfl ⟨iFo hS hJ (Zhp hJ d y.label) ZjP,trivial⟩ ?_)
  refine cj 4 (fun hb2=>?_) fun hb2=>?_
  ·
   replace hb2:(frL d (k+1) y.label||Zdv d y.label)=true:=hb2
   refine qso tb hJ [1000] [_] [_] ?_
   exact tRo 0 (hE:=eI (by subst_vars;grind[Zc9]))
  ·
   replace hb2:(frL d (k+1) y.label||Zdv d y.label)=false:=hb2
   refine Zb (nx (Ze (qso tb hJ [0,1,2,3,1000] [_] U5 ?_)))
   refine Zc (lpo (ι:=Nat) (fun j=>(j≤bs.length)∧((bs.take j).any (ZjA y)=false)) (fun _=>[]) (fun j=>[(14,.int (j:Nat))]) (fun j=>bs.length-j) (r5 []) U4 0 ⟨nzl,rfl⟩ ?_)
   rintro j ⟨f1_1,f1_2⟩
   refine Ze (ZG tb hJ (r5 [1003]) [_,_,.int (bs.length:Nat),_] [2] U6 rfl ⟨Z3 Zz,trivial⟩ ?_)
   refine cj 5 (fun hb3=>?_) fun hb3=>?_
   ·
    try simp at hb3
    refine Zb (nx (Ze (Zc (ZG tb hJ (r5 [1007]) [_,_,.ptr (hyC (ge bs j)),_,_,_,_,_] [2] U6 rfl ⟨iIx Zo,trivial⟩ ?_))))
    refine cj 5 (fun hb4=>?_) fun hb4=>?_
    ·
     try simp at hb4
     have q4:=ZaR (p:=ZjA y) (xs:=bs) (k:=j) oz (by simpa [ZjA]using hb4)
     refine qso tb hJ [1000] [_] [_] ?_
     exact tRo 0 (hE:=eI (by subst_vars;grind[Zc9]))
    ·
     try simp at hb4
     refine Zb (nx (Yo tb hJ [0,1,2,3,1002] [_,.int (j+1:Nat),_] [1] U5 rfl ⟨Z7,trivial⟩ ?_))
     exact YE (j+1) (r5 []) ⟨oz,QR oz f1_2 (by simpa [ZjA]using hb4)⟩
   ·
    try simp at hb3
    have e3:=QQ (p:=ZjA y) f1_2 oz
    refine Zs (nx (Ze (ZG tb hJ [0,1,2,3,1021] (V7 [.ptr [lS (ge y.text 0)],_,.bool (decide ((ge y.text 0)∈d.consts)),_,_,_,_,_,_,.ptr [lS (ge y.text 1)],_,.bool (decide ((ge y.text 1)∈d.vars)),_,_,_]) [7,9,16,18] U5 rfl ⟨gIx (k:=0) Zd (hk:=fun(hc':(y.floating==true)=true)=>by(try simp at hc');omega),iFo hS hJ (Zcp hJ d.consts (ge y.text 0)) X1,gIx (k:=1) Zd (hk:=fun(hc':((y.floating==true)&& ((!(decide ((ge y.text 0)∈d.consts)))==false))=true)=>by(try simp at hc');have:=Yv hb1 (by simp_all);omega),iFo hS hJ (Zcp hJ d.vars (ge y.text 1)) X1,trivial⟩ ?_)))
    refine cj 4 (fun hb5=>?_) fun hb5=>?_
    ·
     replace hb5:Zfb d y=true:=hb5
     refine qso tb hJ [1000] [_] [_] ?_
     exact tRo 0 (hE:=eI (by subst_vars;grind[Zc9]))
    ·
     replace hb5:Zfb d y=false:=hb5
     refine Zb (nx (Ze (qso tb hJ [0,1,2,3,1002] U3 U5 ?_)))
     refine cj 4 (fun hb6=>?_) fun hb6=>?_
     ·
      try simp at hb6
      refine ZG tb hJ [0,1,2,3,1004] (V3 [.int (Zbu d y.text),_]) [3] U5 rfl ⟨iFo hS hJ (ZiO hJ d y.text sfz) ZpN,trivial⟩ ?_
      refine qso tb hJ (r5 [1001]) U2 U6 ?_
      refine cj 5 (fun hb7=>?_) fun hb7=>?_
      ·
       refine qso tb hJ [1001] U2 [_] ?_
       exact tRo 0 (hE:=eI (by subst_vars;grind[Zc9]))
      ·
       refine Zb (nx (tsq (XF Zo hJ rfl rfl rfl (lb rfl) fun v1=>?_)))
       refine snK 1 tb rfl (seK [0,2,3,4,5] U5 rfl ?_)
       refine nx (Ze (qso tb hJ (r5 [1000]) [_] U6 ?_))
       refine Zc (lpo (ι:=Nat×Value×(List Hy)) (fun(i,_,others)=>(i≤k)∧(others=oth d i)∧(others.length≤80*i)) (fun(_,vo,others)=>[OB.row vo 61 3 (others.map hyC)]) (fun(i,vo,_)=>[(17,.int (i:Nat)),(16,.lit vo)]) (fun(i,_,_)=>k-i) [1,2,3,4,5,0] U4 (0,v1,([]:List Hy)) ⟨nzl,rfl,nzl⟩ ?_)
       rintro⟨i,vo,others⟩ ⟨f2_1,f2_2,f2_3⟩
       refine Ze (qso tb hJ (r6 [1002]) U3 U7 ?_)
       refine cj 6 (fun hb8=>?_) fun hb8=>?_
       ·
        try simp at hb8
        refine Zb (nx (Ze (Zc (ZE (snK 4 tb rfl (sy (.ptr (frC (ge d.frames i))) (fun h=>ZQ (i:=(i:Int)) ZV rfl (h.get 1 rfl) (h.get 0 rfl) nnn (Z0 (xs:=d.frames) (k:=i) sfz) rfl h.x) ?_))))))
        refine snK 1 tb rfl (sy (.rd (Y1 ((ge d.frames i).hyps++(ge d.frames i).dummies))) (fun h=>ZaY (Ztu hJ (ge d.frames i) (by have:=hz i oz;omega)) Zhh rfl (Zq hS _ h.keep h.x) (h.x.1) (Za (h.get 0 rfl) Zg) (jo hJ h.x)) ?_)
        refine ZS (f:=hyC) (m:=6) (s:=126) others ((ge d.frames i).hyps++(ge d.frames i).dummies) (fun _=>rfl) Q1 hJ hJ0 rfl rfl rfl (lb rfl) rfl rfl (fun a w h=>(h.get 0 rfl)) (by first | (have:=hz i oz;simp;omega) | (have:=hz i oz;refine Qb ?_;simp;omega)) (by first | (have:=hz i oz;simp;omega) | (have:=hz i oz;refine Qb ?_;simp;omega)) fun v2=>?_
        refine snK 1 tb rfl (seK [0,2,6,9,10,11,12,13] U8 rfl ?_)
        refine nx (ln 1 fun hl3=>?_)
        refine ln 2 fun hl4=>?_
        refine Yo tb hJ [0,3,4,5,6,1002] [_,.int (i+1:Nat),_] [1] U6 rfl ⟨Z7,trivial⟩ ?_
        exact YE (i+1,v2,others++((ge d.frames i).hyps++(ge d.frames i).dummies)) [1,2,3,4,5,0] ⟨oz,by rw[Zb4 oz,f2_2],by have:=hz i oz;simp;omega⟩
       ·
        try simp at hb8
        have hik:i=k:=by omega
        rw[hik]at f2_2 f2_3
        refine Zs (nx (Ze (tw (fun h=>ZO hS h (m:=5) (s:=16) rfl) (qso tb hJ [0,2,4,1001] U2 U4 ?_))))
        refine ln 0 fun hl5=>?_
        refine cj 3 (fun hb9=>?_) fun hb9=>?_
        ·
         try simp at hb9
         have hy2:=Yv hb1 hb9
         refine Ze (fun a w h=>Zbg (id:=24) (t:=56) (e:=61) (size:=3) (bytes:=48) (i0:=0) (fol:=5) (d:=18) (ch:=[(2,(others.map hyC)),(4,(bs.map hyC))]) (fun ix'=>([.any,.rd (Y1 others),.any,.rd (Y1 bs),.any,.any]:List AV).getD ix' .any) (fun _=>true) [(0,16,.rd (Y1 others)),(1,3,.rd (Y1 bs)),(2,7,.ptr (hyC y))] ((others++bs).map hyC) yz ?r24_1 hJ hJ0 h Yr rfl rfl rfl rfl ⟨?_,?_,?_,?_,?_,?_,trivial⟩ ⟨rfl,rfl,rfl,rfl,rfl,rfl,trivial⟩ (fun v3=>?n24_1))
         case r24_1=>
          refine Row.mk' Q1 ⟨_,rfl,rfl,rfl,rfl,rfl⟩ ⟨?x24_1_0,?x24_1_1,trivial⟩ ⟨_,_,_,_,rfl,rfl,rfl,rfl,rfl,rfl,rfl,rfl,rfl⟩ rfl rfl rfl
          case x24_1_0=>exact⟨_,_,_,_,rfl,rfl,rfl,rfl,rfl,rfl,rfl,rfl,XG (f:=hyC) (fun _=>rfl),(by have hm:maxLen=9223372036854775807:=rfl;simp[upto];first | (have:=hz i oz;simp;omega) | (have:=hz i oz;refine Qb ?_;simp;omega)),(by have hm:maxLen=9223372036854775807:=rfl;simp[upto];first | (have:=hz i oz;simp;omega) | (have:=hz i oz;refine Qb ?_;simp;omega)),fun _ _ _ _ _ hl=>(hl.dep 1 137 _ rfl rfl rfl rfl)⟩
          case x24_1_1=>exact⟨_,_,_,_,rfl,rfl,rfl,rfl,rfl,rfl,rfl,rfl,XG (f:=hyC) (fun _=>rfl),(by have hm:maxLen=9223372036854775807:=rfl;simp[upto];first | (have:=hz i oz;simp;omega) | (have:=hz i oz;refine Qb ?_;simp;omega)),(by have hm:maxLen=9223372036854775807:=rfl;simp[upto];first | (have:=hz i oz;simp;omega) | (have:=hz i oz;refine Qb ?_;simp;omega)),fun _ _ _ _ _ hl=>(hl.dep 3 139 _ rfl rfl rfl rfl)⟩
         exact fun h=>Zl rfl h
         exact fun _ _=>⟨rfl,fun _ _ _ hx hl _=>Z2 rfl (hl.env 0 16 _ rfl rfl) hx⟩
         exact fun h=>Zl rfl h
         exact fun _ _=>⟨rfl,fun _ _ _ hx hl _=>Z2 rfl (hl.env 1 3 _ rfl rfl) hx⟩
         exact fun h=>Zl rfl h
         exact fun h=>Zl rfl h
         clear a w h
         refine nx (Ze (tw (fun h=>ZO hS h (m:=0) (s:=18) rfl) (qso tb hJ [0,1,2,3,1000] [_] U5 ?_)))
         refine ln 0 fun hl6=>?_
         refine Zc (lpo (ι:=Nat) (fun j=>(j≤(others++bs).length)∧(((others++bs).take j).any (Ziw y)=false)) (fun _=>[]) (fun j=>[(19,.int (j:Nat))]) (fun j=>(others++bs).length-j) (r5 []) U4 0 ⟨nzl,rfl⟩ ?_)
         rintro j ⟨f3_1,f3_2⟩
         refine Ze (ZG tb hJ (r5 [1003]) [_,_,.int ((others++bs).length:Nat),_] [2] U6 rfl ⟨Z3 Zz,trivial⟩ ?_)
         refine cj 5 (fun hb10=>?_) fun hb10=>?_
         ·
          try simp at hb10
          refine Zb (nx (Ze (Zc (ZG tb hJ (r5 [1006,1021]) [_,_,.ptr (hyC (ge (others++bs) j)),_,_,_,.rd (Zf (y.text.drop 1)),.bool (ofB (ge (others++bs) j) (y.text.drop 1)),_,_,_,.ptr (hyC (ge (others++bs) j)),_,_,.ptr [lS (ge ((ge (others++bs) j).text) 0)],_,_,_,.ptr [lS (ge y.text 0)],_,_,_] [2,6,7,11,14,18] U7 rfl ⟨iIx Zo,fun _ _ _ hx hl _=>Yy (ys:=y.text.drop 1) (lo:=1) (hi:=y.text.length) (by rw[List.take_length]) Zd (fun _=>rfl) rfl (hl.dep 5 152 _ rfl rfl rfl rfl) (Rel.of_lit (.int .i64 1)) rfl sfz sfz hx,iFo hS hJ (c_of hJ (ge (others++bs) j) (y.text.drop 1)) Zdi,gIx Zo (hk:=fun(hc':((ofB (ge (others++bs) j) (y.text.drop 1))==true)=true)=>by(try simp at hc');first | omega | (simp;omega) | grind[Zu]),gIx (k:=0) Zd (hk:=fun(hc':((ofB (ge (others++bs) j) (y.text.drop 1))==true)=true)=>by(try simp at hc');have:=ZoB hc';omega),gIx (k:=0) Zd (hk:=fun(hc':((ofB (ge (others++bs) j) (y.text.drop 1))==true)=true)=>by(try simp at hc');first | omega | (simp;omega) | grind[Zu]),trivial⟩ ?_))))
          refine ln 5 fun hl7=>?_
          refine cj 6 (fun hb11=>?_) fun hb11=>?_
          ·
           try simp at hb11
           have q11:=ZaR (p:=Ziw y) (xs:=others++bs) (k:=j) (by simp;omega) (by simpa [Ziw]using hb11)
           refine qso tb hJ [1000] [_] [_] ?_
           exact tRo 0 (hE:=eI (by subst_vars;grind[Zc9]))
          ·
           try simp at hb11
           refine Zb (nx (Yo tb hJ [0,1,2,3,1002] [_,.int (j+1:Nat),_] [1] U5 rfl ⟨Z7,trivial⟩ ?_))
           exact YE (j+1) (r5 []) ⟨by simp;omega,QR (by simp;omega) f3_2 (by simp[Ziw];grind)⟩
         ·
          try simp at hb10
          have e10:=QQ (p:=Ziw y) f3_2 (by simp;omega)
          refine Zs (nx (qso tb hJ [1,2,3,1000] [_] U4 ?_))
          refine Zc (lpo (ι:=Nat) (fun j=>(j≤bs.length)∧((bs.take j).any (hOf y)=false)) (fun _=>[]) (fun j=>[(20,.int (j:Nat))]) (fun j=>bs.length-j) [0,1,2,3] U3 0 ⟨nzl,rfl⟩ ?_)
          rintro j ⟨f4_1,f4_2⟩
          refine Ze (ZG tb hJ [0,1,2,3,1003] [_,_,.int (bs.length:Nat),_] [2] U5 rfl ⟨Z3 Zz,trivial⟩ ?_)
          refine cj 4 (fun hb12=>?_) fun hb12=>?_
          ·
           try simp at hb12
           refine Zb (nx (Ze (Zc (ZG tb hJ [0,1,2,3,1006,1007] [_,_,.ptr (hyC (ge bs j)),_,_,_,.rd (Zf (y.text.drop 1)),.bool (ofB (ge bs j) (y.text.drop 1))] [2,6,7] U6 rfl ⟨iIx Zo,fun _ _ _ hx hl _=>Yy (ys:=y.text.drop 1) (lo:=1) (hi:=y.text.length) (by rw[List.take_length]) Zd (fun _=>rfl) rfl (hl.dep 5 180 _ rfl rfl rfl rfl) (Rel.of_lit (.int .i64 1)) rfl sfz sfz hx,iFo hS hJ (c_of hJ (ge bs j) (y.text.drop 1)) Zdi,trivial⟩ ?_))))
           refine ln 4 fun hl8=>?_
           refine cj 5 (fun hb13=>?_) fun hb13=>?_
           ·
            try simp at hb13
            have q13:=ZaR (p:=hOf y) (xs:=bs) (k:=j) oz (by simpa [hOf]using hb13)
            refine qso tb hJ [1000] [_] [_] ?_
            exact tRo 0 (hE:=eI (by subst_vars;grind[Zc9]))
           ·
            try simp at hb13
            refine Zb (nx (Yo tb hJ [0,1,2,1002] [_,.int (j+1:Nat),_] [1] U4 rfl ⟨Z7,trivial⟩ ?_))
            exact YE (j+1) [0,1,2,3] ⟨oz,QR oz f4_2 (by simpa [hOf]using hb13)⟩
          ·
           try simp at hb12
           have e12:=QQ (p:=hOf y) f4_2 oz
           refine Zs (nx (Ze (qso tb hJ [0,2,1000] [_] U3 ?_)))
           refine Zc (lpo (ι:=Nat) (fun j=>(j≤others.length)∧((others.take j).any (ZdH y)=false)) (fun _=>[]) (fun j=>[(21,.int (j:Nat))]) (fun j=>others.length-j) [0,1,2] U2 0 ⟨nzl,rfl⟩ ?_)
           rintro j ⟨f5_1,f5_2⟩
           refine Ze (ZG tb hJ [0,1,2,1003] [_,_,.int (others.length:Nat),_] [2] U4 rfl ⟨Z3 Zz,trivial⟩ ?_)
           refine cj 3 (fun hb14=>?_) fun hb14=>?_
           ·
            try simp at hb14
            refine Zb (nx (Ze (Zc (ZG tb hJ [0,1,2,1016] [_,_,.ptr (hyC (ge others j)),_,_,_,_,_,_,_,_,.ptr (hyC (ge others j)),_,_,.bool (Zmr (ge others j) y),_,_] [2,11,14] U4 rfl ⟨iIx Zo,gIx Zo (hk:=fun(hc':((decide (((ge others j).label)=y.label))==true)=true)=>by(try simp at hc');first | omega | (simp;omega) | grind[Zu]),iFo hS hJ (Zdj hJ (ge others j) y) Zer,trivial⟩ ?_))))
            refine cj 3 (fun hb15=>?_) fun hb15=>?_
            ·
             try simp at hb15
             have q15:=ZaR (p:=ZdH y) (xs:=others) (k:=j) oz (by simpa [ZdH]using hb15)
             refine qso tb hJ [1000] [_] [_] ?_
             exact tRo 0 (hE:=eI (by subst_vars;grind[Zc9]))
            ·
             try simp at hb15
             refine Zb (nx (Yo tb hJ [0,1,1002] [_,.int (j+1:Nat),_] [1] U3 rfl ⟨Z7,trivial⟩ ?_))
             exact YE (j+1) [0,1,2] ⟨oz,QR oz f5_2 (by simp[ZdH];grind)⟩
           ·
            try simp at hb14
            have e14:=QQ (p:=ZdH y) f5_2 oz
            refine Zs (nx (qso tb hJ [1000] [_] [_] ?_))
            exact tRo 0 (hE:=eI (by subst_vars;grind[Zc9]))
        ·
         try simp at hb9
         refine Zb (nx (Ze (qso tb hJ [0,2,1000] [_] U3 ?_)))
         refine Zc (lpo (ι:=Nat) (fun j=>(j≤others.length)∧((others.take j).any (ZdH y)=false)) (fun _=>[]) (fun j=>[(21,.int (j:Nat))]) (fun j=>others.length-j) [0,1,2] U2 0 ⟨nzl,rfl⟩ ?_)
         rintro j ⟨f5_1,f5_2⟩
         refine Ze (ZG tb hJ [0,1,2,1003] [_,_,.int (others.length:Nat),_] [2] U4 rfl ⟨Z3 Zz,trivial⟩ ?_)
         refine cj 3 (fun hb14=>?_) fun hb14=>?_
         ·
          try simp at hb14
          refine Zb (nx (Ze (Zc (ZG tb hJ [0,1,2,1016] [_,_,.ptr (hyC (ge others j)),_,_,_,_,_,_,_,_,.ptr (hyC (ge others j)),_,_,.bool (Zmr (ge others j) y),_,_] [2,11,14] U4 rfl ⟨iIx Zo,gIx Zo (hk:=fun(hc':((decide (((ge others j).label)=y.label))==true)=true)=>by(try simp at hc');first | omega | (simp;omega) | grind[Zu]),iFo hS hJ (Zdj hJ (ge others j) y) Zer,trivial⟩ ?_))))
          refine cj 3 (fun hb15=>?_) fun hb15=>?_
          ·
           try simp at hb15
           have q15:=ZaR (p:=ZdH y) (xs:=others) (k:=j) oz (by simpa [ZdH]using hb15)
           refine qso tb hJ [1000] [_] [_] ?_
           exact tRo 0 (hE:=eI (by subst_vars;grind[Zc9]))
          ·
           try simp at hb15
           refine Zb (nx (Yo tb hJ [0,1,1002] [_,.int (j+1:Nat),_] [1] U3 rfl ⟨Z7,trivial⟩ ?_))
           exact YE (j+1) [0,1,2] ⟨oz,QR oz f5_2 (by simp[ZdH];grind)⟩
         ·
          try simp at hb14
          have e14:=QQ (p:=ZdH y) f5_2 oz
          refine Zs (nx (qso tb hJ [1000] [_] [_] ?_))
          exact tRo 0 (hE:=eI (by subst_vars;grind[Zc9]))
     ·
      try simp at hb6
      refine Zb (nx (tsq (XF Zo hJ rfl rfl rfl (lb rfl) fun v4=>?_)))
      refine snK 1 tb rfl (seK [0,2,3,4,5] U5 rfl ?_)
      refine nx (Ze (qso tb hJ (r5 [1000]) [_] U6 ?_))
      refine Zc (lpo (ι:=Nat×Value×(List Hy)) (fun(i,_,others)=>(i≤k)∧(others=oth d i)∧(others.length≤80*i)) (fun(_,vo,others)=>[OB.row vo 61 3 (others.map hyC)]) (fun(i,vo,_)=>[(17,.int (i:Nat)),(16,.lit vo)]) (fun(i,_,_)=>k-i) [1,2,3,4,5,0] U4 (0,v4,([]:List Hy)) ⟨nzl,rfl,nzl⟩ ?_)
      rintro⟨i,vo,others⟩ ⟨f2_1,f2_2,f2_3⟩
      refine Ze (qso tb hJ (r6 [1002]) U3 U7 ?_)
      refine cj 6 (fun hb8=>?_) fun hb8=>?_
      ·
       try simp at hb8
       refine Zb (nx (Ze (Zc (ZE (snK 4 tb rfl (sy (.ptr (frC (ge d.frames i))) (fun h=>ZQ (i:=(i:Int)) ZV rfl (h.get 1 rfl) (h.get 0 rfl) nnn (Z0 (xs:=d.frames) (k:=i) sfz) rfl h.x) ?_))))))
       refine snK 1 tb rfl (sy (.rd (Y1 ((ge d.frames i).hyps++(ge d.frames i).dummies))) (fun h=>ZaY (Ztu hJ (ge d.frames i) (by have:=hz i oz;omega)) Zhh rfl (Zq hS _ h.keep h.x) (h.x.1) (Za (h.get 0 rfl) Zg) (jo hJ h.x)) ?_)
       refine ZS (f:=hyC) (m:=6) (s:=126) others ((ge d.frames i).hyps++(ge d.frames i).dummies) (fun _=>rfl) Q1 hJ hJ0 rfl rfl rfl (lb rfl) rfl rfl (fun a w h=>(h.get 0 rfl)) (by first | (have:=hz i oz;simp;omega) | (have:=hz i oz;refine Qb ?_;simp;omega)) (by first | (have:=hz i oz;simp;omega) | (have:=hz i oz;refine Qb ?_;simp;omega)) fun v5=>?_
       refine snK 1 tb rfl (seK [0,2,6,9,10,11,12,13] U8 rfl ?_)
       refine nx (ln 1 fun hl9=>?_)
       refine ln 2 fun hl10=>?_
       refine Yo tb hJ [0,3,4,5,6,1002] [_,.int (i+1:Nat),_] [1] U6 rfl ⟨Z7,trivial⟩ ?_
       exact YE (i+1,v5,others++((ge d.frames i).hyps++(ge d.frames i).dummies)) [1,2,3,4,5,0] ⟨oz,by rw[Zb4 oz,f2_2],by have:=hz i oz;simp;omega⟩
      ·
       try simp at hb8
       have hik:i=k:=by omega
       rw[hik]at f2_2 f2_3
       refine Zs (nx (Ze (tw (fun h=>ZO hS h (m:=5) (s:=16) rfl) (qso tb hJ [0,2,4,1001] U2 U4 ?_))))
       refine ln 0 fun hl11=>?_
       refine cj 3 (fun hb9=>?_) fun hb9=>?_
       ·
        try simp at hb9
        have hy2:=Yv hb1 hb9
        refine Ze (fun a w h=>Zbg (id:=24) (t:=56) (e:=61) (size:=3) (bytes:=48) (i0:=0) (fol:=5) (d:=18) (ch:=[(2,(others.map hyC)),(4,(bs.map hyC))]) (fun ix'=>([.any,.rd (Y1 others),.any,.rd (Y1 bs),.any,.any]:List AV).getD ix' .any) (fun _=>true) [(0,16,.rd (Y1 others)),(1,3,.rd (Y1 bs)),(2,7,.ptr (hyC y))] ((others++bs).map hyC) yz ?r24_2 hJ hJ0 h Yr rfl rfl rfl rfl ⟨?_,?_,?_,?_,?_,?_,trivial⟩ ⟨rfl,rfl,rfl,rfl,rfl,rfl,trivial⟩ (fun v6=>?n24_2))
        case r24_2=>
         refine Row.mk' Q1 ⟨_,rfl,rfl,rfl,rfl,rfl⟩ ⟨?x24_2_0,?x24_2_1,trivial⟩ ⟨_,_,_,_,rfl,rfl,rfl,rfl,rfl,rfl,rfl,rfl,rfl⟩ rfl rfl rfl
         case x24_2_0=>exact⟨_,_,_,_,rfl,rfl,rfl,rfl,rfl,rfl,rfl,rfl,XG (f:=hyC) (fun _=>rfl),(by have hm:maxLen=9223372036854775807:=rfl;simp[upto];first | (have:=hz i oz;simp;omega) | (have:=hz i oz;refine Qb ?_;simp;omega)),(by have hm:maxLen=9223372036854775807:=rfl;simp[upto];first | (have:=hz i oz;simp;omega) | (have:=hz i oz;refine Qb ?_;simp;omega)),fun _ _ _ _ _ hl=>(hl.dep 1 137 _ rfl rfl rfl rfl)⟩
         case x24_2_1=>exact⟨_,_,_,_,rfl,rfl,rfl,rfl,rfl,rfl,rfl,rfl,XG (f:=hyC) (fun _=>rfl),(by have hm:maxLen=9223372036854775807:=rfl;simp[upto];first | (have:=hz i oz;simp;omega) | (have:=hz i oz;refine Qb ?_;simp;omega)),(by have hm:maxLen=9223372036854775807:=rfl;simp[upto];first | (have:=hz i oz;simp;omega) | (have:=hz i oz;refine Qb ?_;simp;omega)),fun _ _ _ _ _ hl=>(hl.dep 3 139 _ rfl rfl rfl rfl)⟩
        exact fun h=>Zl rfl h
        exact fun _ _=>⟨rfl,fun _ _ _ hx hl _=>Z2 rfl (hl.env 0 16 _ rfl rfl) hx⟩
        exact fun h=>Zl rfl h
        exact fun _ _=>⟨rfl,fun _ _ _ hx hl _=>Z2 rfl (hl.env 1 3 _ rfl rfl) hx⟩
        exact fun h=>Zl rfl h
        exact fun h=>Zl rfl h
        clear a w h
        refine nx (Ze (tw (fun h=>ZO hS h (m:=0) (s:=18) rfl) (qso tb hJ [0,1,2,3,1000] [_] U5 ?_)))
        refine ln 0 fun hl12=>?_
        refine Zc (lpo (ι:=Nat) (fun j=>(j≤(others++bs).length)∧(((others++bs).take j).any (Ziw y)=false)) (fun _=>[]) (fun j=>[(19,.int (j:Nat))]) (fun j=>(others++bs).length-j) (r5 []) U4 0 ⟨nzl,rfl⟩ ?_)
        rintro j ⟨f3_1,f3_2⟩
        refine Ze (ZG tb hJ (r5 [1003]) [_,_,.int ((others++bs).length:Nat),_] [2] U6 rfl ⟨Z3 Zz,trivial⟩ ?_)
        refine cj 5 (fun hb10=>?_) fun hb10=>?_
        ·
         try simp at hb10
         refine Zb (nx (Ze (Zc (ZG tb hJ (r5 [1006,1021]) [_,_,.ptr (hyC (ge (others++bs) j)),_,_,_,.rd (Zf (y.text.drop 1)),.bool (ofB (ge (others++bs) j) (y.text.drop 1)),_,_,_,.ptr (hyC (ge (others++bs) j)),_,_,.ptr [lS (ge ((ge (others++bs) j).text) 0)],_,_,_,.ptr [lS (ge y.text 0)],_,_,_] [2,6,7,11,14,18] U7 rfl ⟨iIx Zo,fun _ _ _ hx hl _=>Yy (ys:=y.text.drop 1) (lo:=1) (hi:=y.text.length) (by rw[List.take_length]) Zd (fun _=>rfl) rfl (hl.dep 5 152 _ rfl rfl rfl rfl) (Rel.of_lit (.int .i64 1)) rfl sfz sfz hx,iFo hS hJ (c_of hJ (ge (others++bs) j) (y.text.drop 1)) Zdi,gIx Zo (hk:=fun(hc':((ofB (ge (others++bs) j) (y.text.drop 1))==true)=true)=>by(try simp at hc');first | omega | (simp;omega) | grind[Zu]),gIx (k:=0) Zd (hk:=fun(hc':((ofB (ge (others++bs) j) (y.text.drop 1))==true)=true)=>by(try simp at hc');have:=ZoB hc';omega),gIx (k:=0) Zd (hk:=fun(hc':((ofB (ge (others++bs) j) (y.text.drop 1))==true)=true)=>by(try simp at hc');first | omega | (simp;omega) | grind[Zu]),trivial⟩ ?_))))
         refine ln 5 fun hl13=>?_
         refine cj 6 (fun hb11=>?_) fun hb11=>?_
         ·
          try simp at hb11
          have q11:=ZaR (p:=Ziw y) (xs:=others++bs) (k:=j) (by simp;omega) (by simpa [Ziw]using hb11)
          refine qso tb hJ [1000] [_] [_] ?_
          exact tRo 0 (hE:=eI (by subst_vars;grind[Zc9]))
         ·
          try simp at hb11
          refine Zb (nx (Yo tb hJ [0,1,2,3,1002] [_,.int (j+1:Nat),_] [1] U5 rfl ⟨Z7,trivial⟩ ?_))
          exact YE (j+1) (r5 []) ⟨by simp;omega,QR (by simp;omega) f3_2 (by simp[Ziw];grind)⟩
        ·
         try simp at hb10
         have e10:=QQ (p:=Ziw y) f3_2 (by simp;omega)
         refine Zs (nx (qso tb hJ [1,2,3,1000] [_] U4 ?_))
         refine Zc (lpo (ι:=Nat) (fun j=>(j≤bs.length)∧((bs.take j).any (hOf y)=false)) (fun _=>[]) (fun j=>[(20,.int (j:Nat))]) (fun j=>bs.length-j) [0,1,2,3] U3 0 ⟨nzl,rfl⟩ ?_)
         rintro j ⟨f4_1,f4_2⟩
         refine Ze (ZG tb hJ [0,1,2,3,1003] [_,_,.int (bs.length:Nat),_] [2] U5 rfl ⟨Z3 Zz,trivial⟩ ?_)
         refine cj 4 (fun hb12=>?_) fun hb12=>?_
         ·
          try simp at hb12
          refine Zb (nx (Ze (Zc (ZG tb hJ [0,1,2,3,1006,1007] [_,_,.ptr (hyC (ge bs j)),_,_,_,.rd (Zf (y.text.drop 1)),.bool (ofB (ge bs j) (y.text.drop 1))] [2,6,7] U6 rfl ⟨iIx Zo,fun _ _ _ hx hl _=>Yy (ys:=y.text.drop 1) (lo:=1) (hi:=y.text.length) (by rw[List.take_length]) Zd (fun _=>rfl) rfl (hl.dep 5 180 _ rfl rfl rfl rfl) (Rel.of_lit (.int .i64 1)) rfl sfz sfz hx,iFo hS hJ (c_of hJ (ge bs j) (y.text.drop 1)) Zdi,trivial⟩ ?_))))
          refine ln 4 fun hl14=>?_
          refine cj 5 (fun hb13=>?_) fun hb13=>?_
          ·
           try simp at hb13
           have q13:=ZaR (p:=hOf y) (xs:=bs) (k:=j) oz (by simpa [hOf]using hb13)
           refine qso tb hJ [1000] [_] [_] ?_
           exact tRo 0 (hE:=eI (by subst_vars;grind[Zc9]))
          ·
           try simp at hb13
           refine Zb (nx (Yo tb hJ [0,1,2,1002] [_,.int (j+1:Nat),_] [1] U4 rfl ⟨Z7,trivial⟩ ?_))
           exact YE (j+1) [0,1,2,3] ⟨oz,QR oz f4_2 (by simpa [hOf]using hb13)⟩
         ·
          try simp at hb12
          have e12:=QQ (p:=hOf y) f4_2 oz
          refine Zs (nx (Ze (qso tb hJ [0,2,1000] [_] U3 ?_)))
          refine Zc (lpo (ι:=Nat) (fun j=>(j≤others.length)∧((others.take j).any (ZdH y)=false)) (fun _=>[]) (fun j=>[(21,.int (j:Nat))]) (fun j=>others.length-j) [0,1,2] U2 0 ⟨nzl,rfl⟩ ?_)
          rintro j ⟨f5_1,f5_2⟩
          refine Ze (ZG tb hJ [0,1,2,1003] [_,_,.int (others.length:Nat),_] [2] U4 rfl ⟨Z3 Zz,trivial⟩ ?_)
          refine cj 3 (fun hb14=>?_) fun hb14=>?_
          ·
           try simp at hb14
           refine Zb (nx (Ze (Zc (ZG tb hJ [0,1,2,1016] [_,_,.ptr (hyC (ge others j)),_,_,_,_,_,_,_,_,.ptr (hyC (ge others j)),_,_,.bool (Zmr (ge others j) y),_,_] [2,11,14] U4 rfl ⟨iIx Zo,gIx Zo (hk:=fun(hc':((decide (((ge others j).label)=y.label))==true)=true)=>by(try simp at hc');first | omega | (simp;omega) | grind[Zu]),iFo hS hJ (Zdj hJ (ge others j) y) Zer,trivial⟩ ?_))))
           refine cj 3 (fun hb15=>?_) fun hb15=>?_
           ·
            try simp at hb15
            have q15:=ZaR (p:=ZdH y) (xs:=others) (k:=j) oz (by simpa [ZdH]using hb15)
            refine qso tb hJ [1000] [_] [_] ?_
            exact tRo 0 (hE:=eI (by subst_vars;grind[Zc9]))
           ·
            try simp at hb15
            refine Zb (nx (Yo tb hJ [0,1,1002] [_,.int (j+1:Nat),_] [1] U3 rfl ⟨Z7,trivial⟩ ?_))
            exact YE (j+1) [0,1,2] ⟨oz,QR oz f5_2 (by simp[ZdH];grind)⟩
          ·
           try simp at hb14
           have e14:=QQ (p:=ZdH y) f5_2 oz
           refine Zs (nx (qso tb hJ [1000] [_] [_] ?_))
           exact tRo 0 (hE:=eI (by subst_vars;grind[Zc9]))
       ·
        try simp at hb9
        refine Zb (nx (Ze (qso tb hJ [0,2,1000] [_] U3 ?_)))
        refine Zc (lpo (ι:=Nat) (fun j=>(j≤others.length)∧((others.take j).any (ZdH y)=false)) (fun _=>[]) (fun j=>[(21,.int (j:Nat))]) (fun j=>others.length-j) [0,1,2] U2 0 ⟨nzl,rfl⟩ ?_)
        rintro j ⟨f5_1,f5_2⟩
        refine Ze (ZG tb hJ [0,1,2,1003] [_,_,.int (others.length:Nat),_] [2] U4 rfl ⟨Z3 Zz,trivial⟩ ?_)
        refine cj 3 (fun hb14=>?_) fun hb14=>?_
        ·
         try simp at hb14
         refine Zb (nx (Ze (Zc (ZG tb hJ [0,1,2,1016] [_,_,.ptr (hyC (ge others j)),_,_,_,_,_,_,_,_,.ptr (hyC (ge others j)),_,_,.bool (Zmr (ge others j) y),_,_] [2,11,14] U4 rfl ⟨iIx Zo,gIx Zo (hk:=fun(hc':((decide (((ge others j).label)=y.label))==true)=true)=>by(try simp at hc');first | omega | (simp;omega) | grind[Zu]),iFo hS hJ (Zdj hJ (ge others j) y) Zer,trivial⟩ ?_))))
         refine cj 3 (fun hb15=>?_) fun hb15=>?_
         ·
          try simp at hb15
          have q15:=ZaR (p:=ZdH y) (xs:=others) (k:=j) oz (by simpa [ZdH]using hb15)
          refine qso tb hJ [1000] [_] [_] ?_
          exact tRo 0 (hE:=eI (by subst_vars;grind[Zc9]))
         ·
          try simp at hb15
          refine Zb (nx (Yo tb hJ [0,1,1002] [_,.int (j+1:Nat),_] [1] U3 rfl ⟨Z7,trivial⟩ ?_))
          exact YE (j+1) [0,1,2] ⟨oz,QR oz f5_2 (by simp[ZdH];grind)⟩
        ·
         try simp at hb14
         have e14:=QQ (p:=ZdH y) f5_2 oz
         refine Zs (nx (qso tb hJ [1000] [_] [_] ?_))
         exact tRo 0 (hE:=eI (by subst_vars;grind[Zc9]))
theorem ZjX {J:WP} (hJ:Stab J) (d:Db) (f:Fr) (h1:d.vars.length≤8000) (h2:f.hyps.length≤40) (h3:f.wide.length*32≤140737488351232) (h4:∀ h∈f.hyps,h.floating=true→h.text.length=2):Fn Tryz.prog J 97 [.agg (dbC d),.agg (frC f)] (.bool (Zed d f)):=by
 refine fE Tryz.func97 fun S w0 hS hJ0=>?_
 refine tw ZR (ZG tb hJ [1000,1001] [.ptr (dbC d),.ptr (frC f),_] [0,1] U2 rfl ⟨iBo hS hJ,iBo hS hJ,trivial⟩ ?_)
 refine ZG tb hJ [0,1,1001,1003,1004,1006,1007,1008] (V4 [.rd (Ye (f.text::(YZ f.hyps).map Hy.text)),_,_,.rd (Zf (Zab d.vars (f.text::(YZ f.hyps).map Hy.text).flatten)),_]) [4,7] U8 rfl ⟨iFo hS hJ (ZmM hJ f.hyps f.text sfz) Zs0,iFo hS hJ (ZjZ hJ (f.text::(YZ f.hyps).map Hy.text) d.vars sfz) Zs1,trivial⟩ ?_
 refine ln 2 fun hl1=>?_
 refine ln 3 fun hl2=>?_
 refine ln 4 fun hl3=>?_
 refine ln 5 fun hl4=>?_
 refine ln 6 fun hl5=>?_
 refine tsq (XF Zd hJ rfl rfl rfl (lb rfl) fun v1=>?_)
 refine snK 1 tb rfl (seK [0,2,3,9] U4 rfl ?_)
 refine nx (Ze (qso tb hJ [0,1,2,3,1000] [_] U5 ?_))
 refine Zc (lpo (ι:=Nat×Value×(List BA)) (fun(k,_,found)=>(k≤f.hyps.length)∧(found=ZdT (f.hyps.take k))∧(found.length≤k)∧((f.hyps.take k).all (hIn (QW d f))=true)) (fun(_,vo,found)=>[OB.row vo 9 1 (found.map Zax)]) (fun(k,vo,_)=>[(7,.int (k:Nat)),(6,.lit vo)]) (fun(k,_,_)=>f.hyps.length-k) [1,2,3,4,0] U3 (0,v1,([]:List BA)) ⟨nzl,rfl,nzl,rfl⟩ ?_)
 rintro⟨k,vo,found⟩ ⟨f1_1,f1_2,f1_3,f1_4⟩
 refine Ze (ZG tb hJ (r5 [1004]) (V3 [.int (f.hyps.length:Nat),_]) [3] U6 rfl ⟨Z3 Zz,trivial⟩ ?_)
 refine cj 5 (fun hb1=>?_) fun hb1=>?_
 ·
  try simp at hb1
  refine Zb (nx (Ze (Zc (ZG tb hJ (r5 [1005]) (V3 [.ptr (hyC (ge f.hyps k)),_,_]) [3] U6 rfl ⟨iIx Zo,trivial⟩ ?_))))
  refine cj 5 (fun hb2=>?_) fun hb2=>?_
  ·
   try simp at hb2
   refine Ze (ZG tb hJ (r5 [1007]) (V3 [.ptr (hyC (ge f.hyps k)),_,_,.bool (ofB (ge f.hyps k) (Zab d.vars (f.text::(YZ f.hyps).map Hy.text).flatten)),_]) [3,6] U6 rfl ⟨iIx Zo,iFo hS hJ (c_of hJ (ge f.hyps k) (Zab d.vars (f.text::(YZ f.hyps).map Hy.text).flatten)) Zdi,trivial⟩ ?_)
   refine cj 5 (fun hb3=>?_) fun hb3=>?_
   ·
    try simp at hb3
    have q3:f.hyps.all (hIn (QW d f))=false:=QI hb1 (by simp only[hIn,hb2,QW];simpa using hb3)
    refine qso tb hJ [1000] [_] [_] ?_
    exact tRo 0 (hE:=eB (by first | (rw[Zed,q3];rfl) | (rw[Zed,e1,q5];rfl) | (rw[Zed,e1,e4,q7];rfl) | (rw[Zed,e1,e4,e6];rfl)))
   ·
    try simp at hb3
    refine Zb (nx (ZE (snK 4 tb rfl (sy (.ptr (hyC (ge f.hyps k))) (fun h=>ZQ (i:=(k:Int)) Zo rfl (h.get 1 rfl) (h.get 0 rfl) nnn (Z0 (xs:=f.hyps) (k:=k) sfz) rfl h.x) ?_))))
    refine snK 2 tb rfl (sy (.ptr [lS (ge ((ge f.hyps k).text) 1)]) (fun h=>ZQ (i:=((1:Nat):Int)) Zd rfl (h.get 0 rfl) (Rel.of_lit (.int .i64 1)) nnn (Z0 (xs:=(ge f.hyps k).text) (k:=1) (by have:=h4 _ (Zu hb1) hb2;omega)) rfl h.x) ?_)
    refine snK 1 tb rfl (sy (.rd (Zf ([(ge ((ge f.hyps k).text) 1)]))) (fun h=>YC Zd ZaT rfl (h.get 0 rfl) (Zq hS _ h.keep h.x _ nlr) (jo hJ h.x)) ?_)
    refine ZS (f:=Zax) (m:=9) (s:=41) found ([(ge ((ge f.hyps k).text) 1)]) (fun _=>rfl) Xn hJ hJ0 rfl rfl rfl (lb rfl) rfl rfl (fun a w h=>(h.get 0 rfl)) (by first | (simp;omega) | (refine Zi9 ?_;simp;omega)) (by first | (simp;omega) | (refine Zi9 ?_;simp;omega)) fun v2=>?_
    refine snK 1 tb rfl (seK [0,2,5,12,13,14,15] U7 rfl ?_)
    refine nx (ln 1 fun hl6=>?_)
    refine ln 2 fun hl7=>?_
    refine Yo tb hJ [0,3,4,5,1002] [_,.int (k+1:Nat),_] [1] U5 rfl ⟨Z7,trivial⟩ ?_
    exact YE (k+1,v2,found++([(ge ((ge f.hyps k).text) 1)])) [1,2,3,4,0] ⟨oz,by rw[f1_2,ZdT,ZdT,Z4 oz];simp[hb2],by simp;omega,by rw[XX oz,f1_4];simp only[hIn,hb2,QW];simpa using hb3⟩
  ·
   try simp at hb2
   refine Zb (nx (Yo tb hJ [0,1,2,4,1002] [_,.int (k+1:Nat),_] [1] U5 rfl ⟨Z7,trivial⟩ ?_))
   exact YE (k+1,vo,found) [0,1,2,4,3] ⟨oz,by rw[f1_2,ZdT,ZdT,Z4 oz];simp[hb2],oz,by rw[XX oz,f1_4];simp[hIn,hb2]⟩
 ·
  try simp at hb1
  have e1:f.hyps.all (hIn (QW d f))=true:=by rw[←ZD (xs:=f.hyps) oz];exact f1_4
  have f1_2':found=ZdT f.hyps:=by rw[f1_2,ZD oz]
  refine Zs (nx (Ze (tw (fun h=>ZO hS h (m:=4) (s:=6) rfl) (qso tb hJ [0,1,2,3,1000] [_] U5 ?_))))
  refine ln 0 fun hl8=>?_
  refine Zc (lpo (ι:=Nat) (fun k=>(k≤(QW d f).length)∧(((QW d f).take k).all (fun s=>decide (s∈ZdT f.hyps))=true)) (fun _=>[]) (fun k=>[(8,.int (k:Nat))]) (fun k=>(QW d f).length-k) (r5 []) U4 0 ⟨nzl,rfl⟩ ?_)
  rintro k ⟨f2_1,f2_2⟩
  refine Ze (ZG tb hJ (r5 [1003]) [_,_,.int ((Zab d.vars (f.text::(YZ f.hyps).map Hy.text).flatten).length:Nat),_] [2] U6 rfl ⟨Z3 Zm,trivial⟩ ?_)
  refine cj 5 (fun hb4=>?_) fun hb4=>?_
  ·
   try simp at hb4
   have hb4':=hb4
   replace hb4:k< (QW d f).length:=hb4
   refine Zb (nx (Ze (Zc (ZG tb hJ (r5 [1006]) (V3 [.ptr [lS (ge (Zab d.vars (f.text::(YZ f.hyps).map Hy.text).flatten) k)],_,.bool (decide ((ge (Zab d.vars (f.text::(YZ f.hyps).map Hy.text).flatten) k)∈found)),_]) [3,5] U6 rfl ⟨iIx Zd,iFo hS hJ (Zcp hJ found (ge (Zab d.vars (f.text::(YZ f.hyps).map Hy.text).flatten) k)) X1,trivial⟩ ?_))))
   refine cj 5 (fun hb5=>?_) fun hb5=>?_
   ·
    try simp at hb5
    have q5:(QW d f).all (fun s=>decide (s∈ZdT f.hyps))=false:=QI hb4 (decide_eq_false (by rw[←f1_2'];exact hb5))
    refine qso tb hJ [1000] [_] [_] ?_
    exact tRo 0 (hE:=eB (by first | (rw[Zed,q3];rfl) | (rw[Zed,e1,q5];rfl) | (rw[Zed,e1,e4,q7];rfl) | (rw[Zed,e1,e4,e6];rfl)))
   ·
    try simp at hb5
    refine Zb (nx (Yo tb hJ [0,1,2,3,1002] [_,.int (k+1:Nat),_] [1] U5 rfl ⟨Z7,trivial⟩ ?_))
    exact YE (k+1) (r5 []) ⟨oz,by rw[XX hb4,f2_2,Bool.true_and];exact decide_eq_true (by rw[←f1_2'];exact hb5)⟩
  ·
   try simp at hb4
   replace hb4:(QW d f).length≤k:=hb4
   have e4:(QW d f).all (fun s=>decide (s∈ZdT f.hyps))=true:=by rw[←ZD (xs:=QW d f) hb4];exact f2_2
   refine Zs (nx (Ze (qso tb hJ [1,2,3,1000] [_] U4 ?_)))
   refine Zc (lpo (ι:=Nat) (fun k=>(k≤f.wide.length)∧((f.wide.take k).any (Zw5 d)=false)) (fun _=>[]) (fun k=>[(9,.int (k:Nat))]) (fun k=>f.wide.length-k) [0,1,2,3] U3 0 ⟨nzl,rfl⟩ ?_)
   rintro k ⟨f3_1,f3_2⟩
   refine Ze (ZG tb hJ [0,1,2,3,1002,1004] (V3 [.int (f.wide.length:Nat),_]) [3] U6 rfl ⟨Z3 ZL,trivial⟩ ?_)
   refine ln 4 fun hl9=>?_
   refine cj 5 (fun hb6=>?_) fun hb6=>?_
   ·
    try simp at hb6
    refine Zb (nx (Ze (Zc (tsq (snK 3 tb rfl (sy (.ptr (prC (ge f.wide k))) (fun h=>ZQ (i:=(k:Int)) Zt rfl (h.get 1 rfl) (h.get 0 rfl) nnn (Z0 (xs:=f.wide) (k:=k) sfz) rfl h.x) ?_))))))
    refine snK 1 tb rfl (XZ (cs:=prC (ge f.wide k)) ZcO rfl rfl rfl (lb rfl) rfl rfl rfl dz (m:=0) rfl rfl (fun a w h=>Zq hS _ h.keep h.x _ nlr) (fun a w h w' hk'=>YA hJ _ _ hk' h.x) ?_)
    refine seK [0,6,7,8,9] U5 rfl (nx (ZG tb hJ [1,2,3,4,1020] (V10 [.bool (decide (((ge f.wide k).a)∈d.vars)),_,_,_,_,_,_,_,.bool (decide (((ge f.wide k).b)∈d.vars)),_,_]) [10,18] U5 rfl ⟨iFo hS hJ (Zcp hJ d.vars ((ge f.wide k).a)) X1,iFo hS hJ (Zcp hJ d.vars ((ge f.wide k).b)) X1,trivial⟩ ?_))
    refine cj 4 (fun hb7=>?_) fun hb7=>?_
    ·
     have q7:f.wide.any (Zw5 d)=true:=ZaR (by omega:k<f.wide.length) hb7
     refine qso tb hJ [1000] [_] [_] ?_
     exact tRo 0 (hE:=eB (by first | (rw[Zed,q3];rfl) | (rw[Zed,e1,q5];rfl) | (rw[Zed,e1,e4,q7];rfl) | (rw[Zed,e1,e4,e6];rfl)))
    ·
     refine Zb (nx (Yo tb hJ [0,1,2,1002] [_,.int (k+1:Nat),_] [1] U4 rfl ⟨Z7,trivial⟩ ?_))
     exact YE (k+1) [0,1,2,3] ⟨oz,QR oz f3_2 hb7⟩
   ·
    try simp at hb6
    have e6:=QQ (p:=Zw5 d) f3_2 oz
    refine Zs (nx (ZG tb hJ [1004,1015] (V4 [.rd (YV (ZfP f.wide ([]:List Pr))),.bool (decide (f.wide=(ZfP f.wide ([]:List Pr)))),_,_,_,_,_,_,.rd (YV (f.wide.filter (inV (Zab d.vars (f.text::(YZ f.hyps).map Hy.text).flatten)))),.bool (decide (f.apart=(f.wide.filter (inV (Zab d.vars (f.text::(YZ f.hyps).map Hy.text).flatten))))),_,_]) [4,5,12,13] U2 rfl ⟨fun _ _ hk hx hl _=>ZaY (c_Join hJ f.wide ([]:List Pr) (by simp only[List.length_nil];omega)) ZsZ rfl (Zq hS _ hk hx) (hx.1) (Za (hl.dep 3 101 _ rfl rfl rfl rfl) (Za (ZgY (Rel.of_lit (.slice none 0 0))) Zg)) (jo hJ hx),iFo hS hJ (Zfu hJ f.wide (ZfP f.wide ([]:List Pr))) Zlx,fun _ _ hk hx hl hc=>ZaY (Zto hJ f.wide (Zab d.vars (f.text::(YZ f.hyps).map Hy.text).flatten) (by have hc':((decide (f.wide=(ZfP f.wide ([]:List Pr))))==true)=true:=hc;(try simp at hc');(omega))) ZsY rfl (Zq hS _ hk hx) (hx.1) (Za (hl.dep 10 108 _ rfl rfl rfl hc) (Za (hl.dep 11 109 _ rfl rfl rfl hc) Zg)) (jo hJ hx),iFo hS hJ (Zfu hJ f.apart (f.wide.filter (inV (Zab d.vars (f.text::(YZ f.hyps).map Hy.text).flatten)))) Zlx,trivial⟩ ?_))
    refine ln 0 fun hl10=>?_
    exact tRo 1 (hE:=eB (by first | (rw[Zed,q3];rfl) | (rw[Zed,e1,q5];rfl) | (rw[Zed,e1,e4,q7];rfl) | (rw[Zed,e1,e4,e6];rfl)))
theorem Zqb {J:WP} (hJ:Stab J) (d:Db)  :Fn Tryz.prog J 52 [.agg (dbC d)] (.int (Zbr d)):=by
 refine fE Tryz.func52 fun S w0 hS hJ0=>?_
 clear hJ0
 refine hqs tb hJ [1000] [.ptr (dbC d),_] [0] [_] rfl ⟨iBs hS hJ,trivial⟩ ?_
 refine Ze (qs tb hJ [0,1000] [_] U2 ?_)
 refine Zc (lp (ι:=Nat) (fun k=>(k≤d.consts.length)∧(∀ j,j<k→ZfQ d j=0)) (fun k=>[(3,.int (k:Nat))]) (fun k=>d.consts.length-k) [0,1] [_] 0 ⟨nzl,fun j hj=>by omega⟩ ?_)
 rintro k ⟨f1_1,f1_2⟩
 refine Ze (hqs tb hJ [0,1,1002,1004] (V3 [.int (d.consts.length:Nat),_]) [3] U4 rfl ⟨Z3 Zm,trivial⟩ ?_)
 refine ln 2 fun hl1=>?_
 refine cj 3 (fun hb1=>?_) fun hb1=>?_
 ·
  try simp at hb1
  refine Zb (nx (Ze (Zc (Ze (hqs tb hJ [0,1,1006] (V3 [.ptr [lS (ge d.consts k)],_,.bool (ZgH (ge d.consts k)),_]) [3,5] U3 rfl ⟨iIx Zd,iFn hS hJ (Zgm hJ (ge d.consts k)) ZpO,trivial⟩ ?_)))))
  refine cj 2 (fun hb2=>?_) fun hb2=>?_
  ·
   try simp at hb2
   have q2:ZfQ d k=2:=by simp[ZfQ,hb2]
   refine qs tb hJ [1000] [_] [_] ?_
   exact tRn 0 (hE:=eI (by first | (have:=Yp (by omega:k<d.consts.length) f1_2 (by rw[q2];decide);rw[Zbr,this,q2];rfl) | (have:=Yp (by omega:k<d.vars.length) f2_2 (by rw[q5];decide);rw[Zbr,e1,this,q5];rfl) | (rw[Zbr,e1,e4];rfl)))
  ·
   try simp at hb2
   refine Zb (nx (hqs tb hJ [0,1,1003,1009] (V3 [.rd (Zf (d.consts.take k)),_,_,_,.ptr [lS (ge d.consts k)],_,.bool (decide ((ge d.consts k)∈(d.consts.take k)))]) [3,7,9] U4 rfl ⟨fun _ _ _ hx hl _=>Yy (ys:=d.consts.take k) (lo:=0) (hi:=k) List.drop_zero Zd (fun _=>rfl) rfl (hl.dep 1 20 _ rfl rfl rfl rfl) rfl (hl.dep 2 21 _ rfl rfl rfl rfl) sfz sfz hx,iIx Zd,iFn hS hJ (Zcp hJ (d.consts.take k) (ge d.consts k)) X1,trivial⟩ ?_))
   refine ln 2 fun hl2=>?_
   refine cj 3 (fun hb3=>?_) fun hb3=>?_
   ·
    try simp at hb3
    have q2:ZfQ d k=6:=by simp[ZfQ,hb2,hb3]
    refine qs tb hJ [1000] [_] [_] ?_
    exact tRn 0 (hE:=eI (by first | (have:=Yp (by omega:k<d.consts.length) f1_2 (by rw[q2];decide);rw[Zbr,this,q2];rfl) | (have:=Yp (by omega:k<d.vars.length) f2_2 (by rw[q5];decide);rw[Zbr,e1,this,q5];rfl) | (rw[Zbr,e1,e4];rfl)))
   ·
    try simp at hb3
    refine Zb (nx (hqp tb hJ [0,1002] [_,.int (k+1:Nat),_] [1] U2 rfl ⟨Z7,trivial⟩ ?_))
    exact lpE (k+1) [0,1] ⟨oz,ZK f1_2 (by simp_all[ZfQ])⟩
 ·
  try simp at hb1
  have e1:Xz d.consts.length (ZfQ d)=0:=X7 fun j hj=>f1_2 j oz
  refine Zs (nx (Ze (qs tb hJ [0,1000] [_] U2 ?_)))
  refine Zc (lp (ι:=Nat) (fun k=>(k≤d.vars.length)∧(∀ j,j<k→ZgC d j=0)) (fun k=>[(4,.int (k:Nat))]) (fun k=>d.vars.length-k) [0,1] [_] 0 ⟨nzl,fun j hj=>by omega⟩ ?_)
  rintro k ⟨f2_1,f2_2⟩
  refine Ze (hqs tb hJ [0,1,1002,1004] (V3 [.int (d.vars.length:Nat),_]) [3] U4 rfl ⟨Z3 Zm,trivial⟩ ?_)
  refine ln 2 fun hl3=>?_
  refine cj 3 (fun hb4=>?_) fun hb4=>?_
  ·
   try simp at hb4
   refine Zb (nx (Ze (Zc (Ze (hqs tb hJ [0,1,1006] (V3 [.ptr [lS (ge d.vars k)],_,.bool (ZgH (ge d.vars k)),_]) [3,5] U3 rfl ⟨iIx Zd,iFn hS hJ (Zgm hJ (ge d.vars k)) ZpO,trivial⟩ ?_)))))
   refine cj 2 (fun hb5=>?_) fun hb5=>?_
   ·
    try simp at hb5
    have q5:ZgC d k=2:=by simp[ZgC,hb5]
    refine qs tb hJ [1000] [_] [_] ?_
    exact tRn 0 (hE:=eI (by first | (have:=Yp (by omega:k<d.consts.length) f1_2 (by rw[q2];decide);rw[Zbr,this,q2];rfl) | (have:=Yp (by omega:k<d.vars.length) f2_2 (by rw[q5];decide);rw[Zbr,e1,this,q5];rfl) | (rw[Zbr,e1,e4];rfl)))
   ·
    try simp at hb5
    refine Zb (nx (hqs tb hJ [0,1,1019] (V5 [.ptr [lS (ge d.vars k)],_,.bool (decide ((ge d.vars k)∈d.consts)),_,_,_,_,.rd (Zf (d.vars.take k)),_,_,_,.ptr [lS (ge d.vars k)],_,.bool (decide ((ge d.vars k)∈(d.vars.take k))),_]) [5,7,12,16,18] U3 rfl ⟨iIx Zd,iFn hS hJ (Zcp hJ d.consts (ge d.vars k)) X1,fun _ _ _ hx hl hc=>Yy (ys:=d.vars.take k) (lo:=0) (hi:=k) List.drop_zero Zd (fun _=>rfl) rfl (hl.dep 10 53 _ rfl rfl rfl hc) rfl (hl.dep 11 54 _ rfl rfl rfl hc) (by have hc':((decide ((ge d.vars k)∈d.consts))==false)=true:=hc;(try simp at hc');(first | omega | (simp;omega) | grind[Zu])) (by have hc':((decide ((ge d.vars k)∈d.consts))==false)=true:=hc;(try simp at hc');(first | omega | (simp;omega) | grind[Zu])) hx,gIx Zd (hk:=fun(hc':((decide ((ge d.vars k)∈d.consts))==false)=true)=>by(try simp at hc');first | omega | (simp;omega) | grind[Zu]),iFn hS hJ (Zcp hJ (d.vars.take k) (ge d.vars k)) X1,trivial⟩ ?_))
    refine cj 2 (fun hb6=>?_) fun hb6=>?_
    ·
     try simp at hb6
     have q5:ZgC d k=6:=by simp_all[ZgC]
     refine qs tb hJ [1000] [_] [_] ?_
     exact tRn 0 (hE:=eI (by first | (have:=Yp (by omega:k<d.consts.length) f1_2 (by rw[q2];decide);rw[Zbr,this,q2];rfl) | (have:=Yp (by omega:k<d.vars.length) f2_2 (by rw[q5];decide);rw[Zbr,e1,this,q5];rfl) | (rw[Zbr,e1,e4];rfl)))
    ·
     try simp at hb6
     refine Zb (nx (hqp tb hJ [0,1002] [_,.int (k+1:Nat),_] [1] U2 rfl ⟨Z7,trivial⟩ ?_))
     exact lpE (k+1) [0,1] ⟨oz,ZK f2_2 (by simp_all[ZgC])⟩
  ·
   try simp at hb4
   have e4:Xz d.vars.length (ZgC d)=0:=X7 fun j hj=>f2_2 j oz
   refine Zs (nx (qs tb hJ [1000] [_] [_] ?_))
   exact tRn 0 (hE:=eI (by first | (have:=Yp (by omega:k<d.consts.length) f1_2 (by rw[q2];decide);rw[Zbr,this,q2];rfl) | (have:=Yp (by omega:k<d.vars.length) f2_2 (by rw[q5];decide);rw[Zbr,e1,this,q5];rfl) | (rw[Zbr,e1,e4];rfl)))
theorem ZwX {J:WP} (hJ:Stab J) (d:Db) (k:Nat) (hk0:k<d.frames.length) (hf:d.frames.length≤400) (hv:d.vars.length≤8000) (hz:∀ i,i<k→(ge d.frames i).hyps.length≤40∧(ge d.frames i).dummies.length≤40) (hw:(ge d.frames k).wide.length*32≤140737488351232):Fn Tryz.prog J 53 [.agg (dbC d),.int (k:Nat)] (.int (frE d k)):=by
 refine fE Tryz.func53 fun S w0 hS hJ0=>?_
 clear hJ0
 refine hqs tb hJ [1,1000] [.ptr (dbC d),_] [0] U2 rfl ⟨iBs hS hJ,trivial⟩ ?_
 refine tsq (snK 3 tb rfl (sy (.ptr (frC (ge d.frames k))) (fun h=>ZQ (i:=(k:Int)) ZV rfl (h.get 1 rfl) (h.get 0 rfl) nnn (Z0 (xs:=d.frames) (k:=k) sfz) rfl h.x) ?_))
 refine snK 1 tb rfl (XZ (cs:=frC (ge d.frames k)) Zec rfl rfl rfl (lb rfl) rfl rfl rfl dz (m:=0) rfl rfl (fun a w h=>hS _ h.keep.size) (fun a w h w' hk'=>hJ _ _ hk' h.x) ?_)
 refine seK [0,4,6,7] U4 rfl (nx (ln 1 fun hl1=>?_))
 refine Ze (hqs tb hJ [0,2,3,1003] [_,_,.bool (QK ((ge d.frames k).label)),_] [2] U4 rfl ⟨iFn hS hJ (Zdk hJ ((ge d.frames k).label)) Zhi,trivial⟩ ?_)
 refine cj 3 (fun hb1=>?_) fun hb1=>?_
 ·
  try simp at hb1
  refine qs tb hJ [1000] [_] [_] ?_
  exact tRn 0 (hE:=eI (by first | (show Zb7 d k j=_;have q6:Zb7 d k j≠0:=ZgZ hb5;rw[frE,Zda];grind) | (rw[frE,Zda];grind)))
 ·
  try simp at hb1
  refine Zb (nx (Ze (hqs tb hJ [0,1,2,1008,1009] (V4 [.tup [.bool (frL d k ((ge d.frames k).label)),.bool (hyL d k ((ge d.frames k).label))],_,_,_,_,_]) [4] U5 rfl ⟨iFn hS hJ (Zj0 hJ d k ((ge d.frames k).label) sfz (hz)) ZjQ,trivial⟩ ?_)))
  refine hqs tb hJ [0,1,2,1009] (V8 [.bool (Zdv d ((ge d.frames k).label)),_]) [8] U4 rfl ⟨iFn hS hJ (Zhp hJ d ((ge d.frames k).label)) ZjP,trivial⟩ ?_
  refine cj 3 (fun hb2=>?_) fun hb2=>?_
  ·
   refine qs tb hJ [1000] [_] [_] ?_
   exact tRn 0 (hE:=eI (by first | (show Zb7 d k j=_;have q6:Zb7 d k j≠0:=ZgZ hb5;rw[frE,Zda];grind) | (rw[frE,Zda];grind)))
  ·
   refine Zb (nx (Ze (hqs tb hJ [0,1,2,1001,1009] [_,_,.int (((ge d.frames k).hyps).length:Nat),_,_,_,_,.int (((ge d.frames k).dummies).length:Nat),_,_] [2,7] U5 rfl ⟨Z3 Zz,Z3 Zz,trivial⟩ ?_)))
   refine ln 3 fun hl2=>?_
   refine cj 4 (fun hb3=>?_) fun hb3=>?_
   ·
    refine qs tb hJ [1000] [_] [_] ?_
    exact tRn 0 (hE:=eI (by first | (show Zb7 d k j=_;have q6:Zb7 d k j≠0:=ZgZ hb5;rw[frE,Zda];grind) | (rw[frE,Zda];grind)))
   ·
    have e3:(ge d.frames k).hyps.length≤40∧(ge d.frames k).dummies.length≤40:=by simp at hb3;omega
    refine Zb (nx (hqs tb hJ [0,1,2,1001,1002] [_,.rd (Y1 ((ge d.frames k).hyps++(ge d.frames k).dummies)),_] [1] U5 rfl ⟨iFn hS hJ (Ztu hJ (ge d.frames k) sfz) Zhh,trivial⟩ ?_))
    refine ln 3 fun hl3=>?_
    refine Ze (qs tb hJ [0,1,2,4,1000] [_] U5 ?_)
    refine Zc (lp (ι:=Nat) (fun j=>(j≤((ge d.frames k).hyps++(ge d.frames k).dummies).length)∧(∀ i,i<j→Zb7 d k i=0)) (fun j=>[(9,.int (j:Nat))]) (fun j=>((ge d.frames k).hyps++(ge d.frames k).dummies).length-j) (r5 []) U4 0 ⟨nzl,fun j hj=>by omega⟩ ?_)
    rintro j ⟨f1_1,f1_2⟩
    refine Ze (hqs tb hJ (r5 [1003]) [_,_,.int (((ge d.frames k).hyps++(ge d.frames k).dummies).length:Nat),_] [2] U6 rfl ⟨Z3 Zz,trivial⟩ ?_)
    refine cj 5 (fun hb4=>?_) fun hb4=>?_
    ·
     try simp at hb4
     refine Zb (nx (Ze (Zc (hqs tb hJ (r5 [1008,1015]) (V4 [.ptr (hyC (ge ((ge d.frames k).hyps++(ge d.frames k).dummies) j)),_,_,_,.rd (Y1 (((ge d.frames k).hyps++(ge d.frames k).dummies).take j)),_,_,_,.int (((ge d.frames k).hyps).length:Nat),_,.int (Zc9 d k (ge ((ge d.frames k).hyps++(ge d.frames k).dummies) j) (((ge d.frames k).hyps++(ge d.frames k).dummies).take j) (decide (((((ge d.frames k).hyps).length:Nat):Int)≤(j:Int)))),_]) [4,8,12,14] U7 rfl ⟨iIx Zo,fun _ _ _ hx hl _=>Yy (ys:=((ge d.frames k).hyps++(ge d.frames k).dummies).take j) (lo:=0) (hi:=j) List.drop_zero Zo (fun _=>rfl) rfl (hl.dep 6 68 _ rfl rfl rfl rfl) rfl (hl.dep 7 69 _ rfl rfl rfl rfl) sfz sfz hx,Z3 Zz,iFn hS hJ (ZiN hJ d k (ge ((ge d.frames k).hyps++(ge d.frames k).dummies) j) (((ge d.frames k).hyps++(ge d.frames k).dummies).take j) (decide (((((ge d.frames k).hyps).length:Nat):Int)≤(j:Int))) sfz sfz (by intro i hi;by_cases e:i=k;(subst e;exact e3);exact hz i oz) (by have:=List.length_take_le' j ((ge d.frames k).hyps++(ge d.frames k).dummies);simp at this ⊢;omega)) Zwi,trivial⟩ ?_))))
     refine ln 5 fun hl4=>?_
     refine qs tb hJ (r5 [6,1001]) U2 U7 ?_
     refine cj 6 (fun hb5=>?_) fun hb5=>?_
     ·
      have q5:ZmV d k=Zb7 d k j:=Yp (by simp;omega) f1_2 (ZgZ hb5)
      refine qs tb hJ [1001] U2 [_] ?_
      exact tRn 0 (hE:=eI (by first | (show Zb7 d k j=_;have q6:Zb7 d k j≠0:=ZgZ hb5;rw[frE,Zda];grind) | (rw[frE,Zda];grind)))
     ·
      refine Zb (nx (hqp tb hJ [0,1,2,3,1002] [_,.int (j+1:Nat),_] [1] U5 rfl ⟨Z7,trivial⟩ ?_))
      exact lpE (j+1) (r5 []) ⟨by simp;omega,ZK f1_2 (Zt8 hb5)⟩
    ·
     try simp at hb4
     have e4:ZmV d k=0:=X7 fun i hi=>f1_2 i (by simp at hb4 hi;omega)
     refine Zs (nx (Ze (hqs tb hJ [0,1,2,1001,1009] [_,_,.int (((ge d.frames k).text).length:Nat),_,_,_,_,.int (((ge d.frames k).text).length:Nat),_,_] [2,7] U5 rfl ⟨Z3 Zm,Z3 Zm,trivial⟩ ?_)))
     refine ln 3 fun hl5=>?_
     refine cj 4 (fun hb6=>?_) fun hb6=>?_
     ·
      refine qs tb hJ [1000] [_] [_] ?_
      exact tRn 0 (hE:=eI (by first | (show Zb7 d k j=_;have q6:Zb7 d k j≠0:=ZgZ hb5;rw[frE,Zda];grind) | (rw[frE,Zda];grind)))
     ·
      refine Zb (nx (Ze (hqs tb hJ [0,1,2,1004] (V3 [.int (Zbu d ((ge d.frames k).text)),_]) [3] U4 rfl ⟨iFn hS hJ (ZiO hJ d ((ge d.frames k).text) sfz) ZpN,trivial⟩ ?_)))
      refine qs tb hJ [0,1,2,3,1001] U2 U5 ?_
      refine cj 4 (fun hb7=>?_) fun hb7=>?_
      ·
       try simp at hb7
       refine qs tb hJ [1001] U2 [_] ?_
       exact tRn 0 (hE:=eI (by first | (show Zb7 d k j=_;have q6:Zb7 d k j≠0:=ZgZ hb5;rw[frE,Zda];grind) | (rw[frE,Zda];grind)))
      ·
       try simp at hb7
       refine Zb (nx (Ze (hqs tb hJ [0,1,2,1003] [_,_,.bool (Zed d (ge d.frames k)),_] [2] U4 rfl ⟨iFn hS hJ (ZjX hJ d (ge d.frames k) sfz sfz (hw) (fun h hh=>ZrR e4 h (by simp[hh]))) Zwh,trivial⟩ ?_)))
       refine cj 3 (fun hb8=>?_) fun hb8=>?_
       ·
        try simp at hb8
        refine qs tb hJ [1000] [_] [_] ?_
        exact tRn 0 (hE:=eI (by first | (show Zb7 d k j=_;have q6:Zb7 d k j≠0:=ZgZ hb5;rw[frE,Zda];grind) | (rw[frE,Zda];grind)))
       ·
        try simp at hb8
        refine Zb (nx (Ze (hqs tb hJ [0,1,2,1001,1014] [_,_,.int (((ge d.frames k).proof).length:Nat),_,_,_,_,_,_,_,_,_,.int (((ge d.frames k).proof).length:Nat),_,_] [2,12] U5 rfl ⟨Z3 Zm,Z3 Zm,trivial⟩ ?_)))
        refine ln 3 fun hl6=>?_
        refine cj 4 (fun hb9=>?_) fun hb9=>?_
        ·
         refine qs tb hJ [1000] [_] [_] ?_
         exact tRn 0 (hE:=eI (by first | (show Zb7 d k j=_;have q6:Zb7 d k j≠0:=ZgZ hb5;rw[frE,Zda];grind) | (rw[frE,Zda];grind)))
        ·
         refine Zb (nx (Ze (qs tb hJ [0,1,2,1000] [_] U4 ?_)))
         refine Zc (lp (ι:=Nat) (fun j=>(j≤(ge d.frames k).proof.length)∧(((ge d.frames k).proof.take j).all Y6=true)) (fun j=>[(12,.int (j:Nat))]) (fun j=>(ge d.frames k).proof.length-j) [0,1,2,3] U3 0 ⟨nzl,rfl⟩ ?_)
         rintro j ⟨f2_1,f2_2⟩
         refine Ze (hqs tb hJ [0,1,2,3,1004] (V3 [.int (((ge d.frames k).proof).length:Nat),_]) [3] U5 rfl ⟨Z3 Zm,trivial⟩ ?_)
         refine cj 4 (fun hb10=>?_) fun hb10=>?_
         ·
          try simp at hb10
          refine Zb (nx (Ze (Zc (hqs tb hJ [0,1,2,3,1006] (V3 [.ptr [lS (ge ((ge d.frames k).proof) j)],_,.bool (Y6 (ge ((ge d.frames k).proof) j)),_]) [3,5] U5 rfl ⟨iIx Zd,iFn hS hJ (Zqj hJ (ge ((ge d.frames k).proof) j)) Zwg,trivial⟩ ?_))))
          refine cj 4 (fun hb11=>?_) fun hb11=>?_
          ·
           try simp at hb11
           have q11:(ge d.frames k).proof.all Y6=false:=QI hb10 hb11
           refine qs tb hJ [1000] [_] [_] ?_
           exact tRn 0 (hE:=eI (by first | (show Zb7 d k j=_;have q6:Zb7 d k j≠0:=ZgZ hb5;rw[frE,Zda];grind) | (rw[frE,Zda];grind)))
          ·
           try simp at hb11
           refine Zb (nx (hqp tb hJ [0,1,2,1002] [_,.int (j+1:Nat),_] [1] U4 rfl ⟨Z7,trivial⟩ ?_))
           exact lpE (j+1) [0,1,2,3] ⟨oz,by rw[XX oz,f2_2];simpa using hb11⟩
         ·
          try simp at hb10
          have e10:(ge d.frames k).proof.all Y6=true:=by rw[←ZD (xs:=(ge d.frames k).proof) oz];exact f2_2
          refine Zs (nx (hqs tb hJ [1,2,1001,1002] [_,.rd (Zf ((YZ (ge d.frames k).hyps).map Hy.label)),_] [1] U4 rfl ⟨iFn hS hJ (Zd4 hJ (ge d.frames k) sfz) ZpM,trivial⟩ ?_))
          refine ln 2 fun hl7=>?_
          refine Ze (hqs tb hJ [0,1,3,1002,1005] [_,_,.rd (Zf (Zj5 d k)),_,.int (Zen (Zj5 d k) ((YZ (ge d.frames k).hyps).map Hy.label):Nat),_] [2,4] U5 rfl ⟨iFn hS hJ (Zts hJ d k sfz sfz (fun h=>(hz (k-1) oz).1)) Ztm,iFn hS hJ (Ztr hJ (Zj5 d k) ((YZ (ge d.frames k).hyps).map Hy.label)) Ztn,trivial⟩ ?_)
          refine ln 3 fun hl8=>?_
          refine Zc (lp (ι:=Nat) (fun m=>(Zen (Zj5 d k) ((YZ (ge d.frames k).hyps).map Hy.label)≤m)∧(m≤((YZ (ge d.frames k).hyps).map Hy.label).length)∧(∀ i,Zen (Zj5 d k) ((YZ (ge d.frames k).hyps).map Hy.label)≤i→i<m→hyL d k (ge ((YZ (ge d.frames k).hyps).map Hy.label) i)=false)) (fun m=>[(14,.int (m:Nat))]) (fun m=>((YZ (ge d.frames k).hyps).map Hy.label).length-m) [0,1,2,4] U3 (Zen (Zj5 d k) ((YZ (ge d.frames k).hyps).map Hy.label)) ⟨Nat.le_refl _,ZjN _ _,fun i h1 h2=>by omega⟩ ?_)
          rintro m ⟨f3_1,f3_2,f3_3⟩
          refine Ze (hqs tb hJ [0,1,2,3,1003] [_,_,.int (((YZ (ge d.frames k).hyps).map Hy.label).length:Nat),_] [2] U5 rfl ⟨Z3 Zm,trivial⟩ ?_)
          refine cj 4 (fun hb12=>?_) fun hb12=>?_
          ·
           replace hb12:m< ((YZ (ge d.frames k).hyps).map Hy.label).length:=by have:=of_decide_eq_true hb12;omega
           refine Zb (nx (Ze (Zc (hqs tb hJ [0,1,2,3,1011] (V4 [.ptr [lS (ge ((YZ (ge d.frames k).hyps).map Hy.label) m)],_,.tup [.bool (frL d k (ge ((YZ (ge d.frames k).hyps).map Hy.label) m)),.bool (hyL d k (ge ((YZ (ge d.frames k).hyps).map Hy.label) m))],_,_,_,_,_]) [4,6] U5 rfl ⟨iIx Zd,iFn hS hJ (Zj0 hJ d k (ge ((YZ (ge d.frames k).hyps).map Hy.label) m) sfz (hz)) ZjQ,trivial⟩ ?_))))
           refine qs tb hJ [0,1,2,3,1000] [_] U5 ?_
           refine cj 4 (fun hb13=>?_) fun hb13=>?_
           ·
            try simp at hb13
            have q13:ordB d k (ge d.frames k)=true:=Zsf f3_1 hb12 hb13
            refine qs tb hJ [1000] [_] [_] ?_
            exact tRn 0 (hE:=eI (by first | (show Zb7 d k j=_;have q6:Zb7 d k j≠0:=ZgZ hb5;rw[frE,Zda];grind) | (rw[frE,Zda];grind)))
           ·
            try simp at hb13
            refine Zb (nx (hqp tb hJ [0,1,2,1002] [_,.int (m+1:Nat),_] [1] U4 rfl ⟨Z7,trivial⟩ ?_))
            exact lpE (m+1) [0,1,2,3] ⟨oz,oz,fun i h1 h2=>by by_cases e:i=m;(subst e;simpa using hb13);exact f3_3 i h1 oz⟩
          ·
           replace hb12:((YZ (ge d.frames k).hyps).map Hy.label).length≤m:=by have:=of_decide_eq_false hb12;omega
           have e12:ordB d k (ge d.frames k)=false:=Zpu fun i h1 h2=>f3_3 i h1 oz
           refine Zs (nx (qs tb hJ [1000] [_] [_] ?_))
           exact tRn 0 (hE:=eI (by first | (show Zb7 d k j=_;have q6:Zb7 d k j≠0:=ZgZ hb5;rw[frE,Zda];grind) | (rw[frE,Zda];grind)))
theorem Zw0 {J:WP} (hJ:Stab J) (d:Db) (hw:∀ i,i<d.frames.length→(ge d.frames i).wide.length*32≤140737488351232):Fn Tryz.prog J 39 [.agg (dbC d)] (.int (Zaz d)):=by
 refine fE Tryz.func39 fun S w0 hS hJ0=>?_
 clear hJ0
 refine hqs tb hJ [1000] [.ptr (dbC d),_] [0] [_] rfl ⟨iBs hS hJ,trivial⟩ ?_
 refine Ze (hqs tb hJ [0,1001,1015] [_,_,.int (d.frames.length:Nat),_,_,_,_,.int (d.consts.length:Nat),_,_,_,_,_,.int (d.vars.length:Nat),_,_] [2,7,13] U3 rfl ⟨Z3 XS,Z3 Zm,Z3 Zm,trivial⟩ ?_)
 refine ln 1 fun hl1=>?_
 refine cj 2 (fun hb1=>?_) fun hb1=>?_
 ·
  refine qs tb hJ [1000] [_] [_] ?_
  exact tRn 0 (hE:=eI (by rw[Zaz];grind))
 ·
  have e1:(d.frames.length≤400∧d.consts.length≤8000)∧d.vars.length≤8000:=by simp at hb1;omega
  refine Zb (nx (Ze (hqs tb hJ [0,1002] [_,.int (Zbr d),_] [1] U2 rfl ⟨iFn hS hJ (Zqb hJ d) ZwA,trivial⟩ ?_)))
  refine qs tb hJ [0,1,1001] U2 U3 ?_
  refine cj 2 (fun hb2=>?_) fun hb2=>?_
  ·
   try simp at hb2
   refine qs tb hJ [1001] U2 [_] ?_
   exact tRn 0 (hE:=eI (by rw[Zaz];grind))
  ·
   try simp at hb2
   refine Zb (nx (Ze (qs tb hJ [0,1000] [_] U2 ?_)))
   refine Zc (lp (ι:=Nat) (fun k=>(k≤d.frames.length)∧(∀ i,i<k→frE d i=0)) (fun k=>[(4,.int (k:Nat))]) (fun k=>d.frames.length-k) [0,1] [_] 0 ⟨nzl,fun j hj=>by omega⟩ ?_)
   rintro k ⟨f1_1,f1_2⟩
   refine Ze (hqs tb hJ [0,1,1004] (V3 [.int (d.frames.length:Nat),_]) [3] U3 rfl ⟨Z3 XS,trivial⟩ ?_)
   refine cj 2 (fun hb3=>?_) fun hb3=>?_
   ·
    try simp at hb3
    refine Zb (nx (Ze (Zc (hqs tb hJ [0,1,1003] [_,_,.int (frE d k),_] [2] U3 rfl ⟨iFn hS hJ (ZwX hJ d k sfz (e1.1.1) (e1.2) (fun i hi=>Zg9 (f1_2 i hi)) (hw k oz)) Zwz,trivial⟩ ?_))))
    refine qs tb hJ [0,1,2,1001] U2 U4 ?_
    refine cj 3 (fun hb4=>?_) fun hb4=>?_
    ·
     try simp at hb4
     have q4:=Yp oz f1_2 hb4
     refine qs tb hJ [1001] U2 [_] ?_
     exact tRn 0 (hE:=eI (by rw[Zaz];grind))
    ·
     try simp at hb4
     refine Zb (nx (hqp tb hJ [0,1002] [_,.int (k+1:Nat),_] [1] U2 rfl ⟨Z7,trivial⟩ ?_))
     exact lpE (k+1) [0,1] ⟨oz,ZK f1_2 hb4⟩
   ·
    try simp at hb3
    have e3:Xz d.frames.length (frE d)=0:=X7 fun i hi=>f1_2 i oz
    refine Zs (nx (qs tb hJ [1000] [_] [_] ?_))
    exact tRn 0 (hE:=eI (by rw[Zaz];grind))
section
variable {J:WP} (hJ:Stab J)
include hJ
theorem Zb3 (M1 M2:Nat) (M3 M4 M5:Nat) (cs vs:List BA) (s:BA)  :FnR Tryz.prog J 75 [OB.set keyS M1 cs,OB.set keyS M2 vs] [.ptr (mpC [M1,M2,M3,M4,M5]),.str s] (.bool (decide (s∈cs)||decide (s∈vs))):=by
 refine fER Tryz.func75 fun S w0 hS hJ0 hH=>?_
 clear hJ0
 refine qs tb hJ [0,1] [_] U2 ?_
 refine hqs tb hJ [1014] (V5 [.bool (decide (s∈cs)),_,_,_,_,_,_,.bool (decide (s∈vs)),_,_]) [5,12] [_] rfl ⟨fun _ _ hk hx hl _=>YG (Kd:=keyS) (xs:=cs) Yf Yk s rfl (Xf hH hk (mo 0 rfl)) (hl.D 3 8 rfl rfl) (hl.D 4 9 rfl rfl) hx,fun _ _ hk hx hl hc=>YG (Kd:=keyS) (xs:=vs) Yf Yk s rfl (Xf hH hk (mo 1 rfl)) (hl.D 10 15 rfl hc) (hl.D 11 16 rfl hc) hx,trivial⟩ ?_
 exact tRn 0 (hE:=eB (by first | rfl | grind[Zu]))
theorem Zu8 (M1 M2:Nat) (M3 M4 M5:Nat) (cs vs:List BA) (s:BA)  :FnR Tryz.prog J 125 [OB.set keyS M1 cs,OB.set keyS M2 vs] [.str s,.ptr [.ptr (mpC [M1,M2,M3,M4,M5])]] (.bool (!(decide (s∈cs)||decide (s∈vs)))):=by
 refine fER Tryz.func125 fun S w0 hS hJ0 hH=>?_
 clear hJ0
 refine qs tb hJ [0,1] [_] U2 ?_
 refine hqs tb hJ [1004] [_,_,.bool (decide (s∈cs)||decide (s∈vs)),_,_] [2] [_] rfl ⟨fun _ _ hk hx hl _=>Y5 (Zb3 hJ M1 M2 M3 M4 M5 cs vs s) Zhk rfl (nm hS hk) (hx) (ZP (Xf hH hk (mo 0 rfl)) (ZP (Xf hH hk (mo 1 rfl)) Zv)) (Za (hl.D 0 4 rfl rfl) (Za (hl.D 1 5 rfl rfl) Zg)) (js hJ hx),trivial⟩ ?_
 exact tRn 0 (hE:=rfl)
theorem Zh6 (xs:List BA) (f:FuncId) (caps:List AV) (Os:List OB) (p:BA→Bool) (hf:∀ q',FnR Tryz.prog J f Os ([.str (q')]++caps) (.bool (p q'))) (hk0:Zk Tryz.prog f):FnR Tryz.prog J 31 Os [.rd (Zf xs),.fn f caps] (.int (Yn p xs)):=by
 refine fER Tryz.func31 fun S w0 hS hJ0 hH=>?_
 clear hJ0
 refine ln 0 fun hl1=>?_
 refine qs tb hJ [0,1] [_] U2 ?_
 refine Ze (hqs tb hJ [0,1,1001,1002] [_,.int (xs.length:Nat),_] [1] U4 rfl ⟨Z3 Zm,trivial⟩ ?_)
 refine Zc (lp (ι:=Nat) (fun k=>(k≤xs.length)∧(∀ j,j<k→p (ge xs j)=false)) (fun k=>[(8,.int (k:Nat))]) (fun k=>xs.length-k) [0,1,2,3] U3 0 ⟨nzl,fun j hj=>by omega⟩ ?_)
 rintro k ⟨f1_1,f1_2⟩
 refine qs tb hJ [0,1,2,3,1000] [_] U5 ?_
 refine cjS 4 (fun hb1=>?_) fun hb1=>?_
 ·
  try simp at hb1
  refine Zb (nx (Ze (Zc (qs tb hJ [0,1,2,3,1001] U2 U5 ?_))))
  refine hqs tb hJ (r5 [1005]) (V3 [.ptr [lS (ge xs k)],_,.bool (p (ge xs k))]) [3,5] U6 rfl ⟨iIx Zd,fun _ _ hk hx hl _=>ZaX (hf (ge xs k)) hk0 rfl (hl.D 0 11 rfl rfl) (nm hS hk) (hx) (fun _ ho=>Xf hH hk ho) (Za (hl.D 4 15 rfl rfl) Zg) (js hJ hx),trivial⟩ ?_
  refine cj 5 (fun hb2=>?_) fun hb2=>?_
  ·
   try simp at hb2
   refine qs tb hJ [1001] U2 [_] ?_
   exact tRn 0 (hE:=eI (by first | exact(Xk hb1 hb2 f1_2).symm | exact(YU fun j hj=>f1_2 j oz).symm))
  ·
   try simp at hb2
   refine Zb (nx (hqp tb hJ [0,1,2,1001] [.int (k+1:Nat),_] [0] U4 rfl ⟨Z7,trivial⟩ ?_))
   exact lpE (k+1) [0,1,2,3] ⟨oz,ZK f1_2 hb2⟩
 ·
  try simp at hb1
  refine Zs (nx (qs tb hJ [1000] [_] [_] ?_))
  exact tRn 0 (hE:=eI (by first | exact(Xk hb1 hb2 f1_2).symm | exact(YU fun j hj=>f1_2 j oz).symm))
end
end Go.Proofs.YtneapgbkkkjagaaGreatDoor
set_option maxHeartbeats 8000000
set_option maxRecDepth 100000
namespace Go.Proofs.YtneapgbkkkjagaaGreatDoor
open Go.Proofs.Tryz (prog)
open Go.RowKit
section
variable {J:WP} (hJ:Stab J)
include hJ
theorem YD (xs:List BA) (f:FuncId) (caps:List AV) (Os:List OB) (p:BA→Bool) (hf:∀ q',FnR prog J f Os ([.str (q')]++caps) (.bool (p q'))) (hk0:Zk prog f):FnR prog J 7 Os [.rd (Zf xs),.fn f caps] (.bool (xs.any p)):=by
 refine fER Tryz.func7 fun S w0 hS hJ0 hH=>?_
 clear hJ0
 refine ln 0 fun hl1=>?_
 refine qs tb hJ [0,1] [_] U2 ?_
 refine hqs tb hJ [1004] [_,_,.int (Yn p xs),_,_] [2] [_] rfl ⟨fun _ _ hk hx hl _=>Y5 (Zh6 hJ xs f caps Os p (hf) (hk0)) ZwO rfl (nm hS hk) (hx) (fun _ ho=>Xf hH hk ho) (Za (hl.D 0 5 rfl rfl) (Za (hl.D 1 6 rfl rfl) Zg)) (js hJ hx),trivial⟩ ?_
 exact tRn 0 (hE:=eB (by rw[←Zb8]))
theorem ZdY (xs:List Hy) (f:FuncId) (caps:List AV) (Os:List OB) (p:Hy→Bool) (hf:∀ q',FnR prog J f Os ([.agg (hyC (q'))]++caps) (.bool (p q'))) (hk0:Zk prog f):FnR prog J 48 Os [.rd (Y1 xs),.fn f caps] (.int (Yn p xs)):=by
 refine fER Tryz.func48 fun S w0 hS hJ0 hH=>?_
 clear hJ0
 refine ln 0 fun hl1=>?_
 refine qs tb hJ [0,1] [_] U2 ?_
 refine Ze (hqs tb hJ [0,1,1001,1002] [_,.int (xs.length:Nat),_] [1] U4 rfl ⟨Z3 Zz,trivial⟩ ?_)
 refine Zc (lp (ι:=Nat) (fun k=>(k≤xs.length)∧(∀ j,j<k→p (ge xs j)=false)) (fun k=>[(8,.int (k:Nat))]) (fun k=>xs.length-k) [0,1,2,3] U3 0 ⟨nzl,fun j hj=>by omega⟩ ?_)
 rintro k ⟨f1_1,f1_2⟩
 refine qs tb hJ [0,1,2,3,1000] [_] U5 ?_
 refine cjS 4 (fun hb1=>?_) fun hb1=>?_
 ·
  try simp at hb1
  refine Zb (nx (Ze (Zc (qs tb hJ [0,1,2,3,1001] U2 U5 ?_))))
  refine hqs tb hJ (r5 [1005]) (V3 [.ptr (hyC (ge xs k)),_,.bool (p (ge xs k))]) [3,5] U6 rfl ⟨iIx Zo,fun _ _ hk hx hl _=>ZaX (hf (ge xs k)) hk0 rfl (hl.D 0 11 rfl rfl) (nm hS hk) (hx) (fun _ ho=>Xf hH hk ho) (Za (hl.D 4 15 rfl rfl) Zg) (js hJ hx),trivial⟩ ?_
  refine cj 5 (fun hb2=>?_) fun hb2=>?_
  ·
   try simp at hb2
   refine qs tb hJ [1001] U2 [_] ?_
   exact tRn 0 (hE:=eI (by first | exact(Xk hb1 hb2 f1_2).symm | exact(YU fun j hj=>f1_2 j oz).symm))
  ·
   try simp at hb2
   refine Zb (nx (hqp tb hJ [0,1,2,1001] [.int (k+1:Nat),_] [0] U4 rfl ⟨Z7,trivial⟩ ?_))
   exact lpE (k+1) [0,1,2,3] ⟨oz,ZK f1_2 hb2⟩
 ·
  try simp at hb1
  refine Zs (nx (qs tb hJ [1000] [_] [_] ?_))
  exact tRn 0 (hE:=eI (by first | exact(Xk hb1 hb2 f1_2).symm | exact(YU fun j hj=>f1_2 j oz).symm))
theorem Qt (xs:List Hy) (f:FuncId) (caps:List AV) (Os:List OB) (p:Hy→Bool) (hf:∀ q',FnR prog J f Os ([.agg (hyC (q'))]++caps) (.bool (p q'))) (hk0:Zk prog f):FnR prog J 29 Os [.rd (Y1 xs),.fn f caps] (.bool (xs.any p)):=by
 refine fER Tryz.func29 fun S w0 hS hJ0 hH=>?_
 clear hJ0
 refine ln 0 fun hl1=>?_
 refine qs tb hJ [0,1] [_] U2 ?_
 refine hqs tb hJ [1004] [_,_,.int (Yn p xs),_,_] [2] [_] rfl ⟨fun _ _ hk hx hl _=>Y5 (ZdY hJ xs f caps Os p (hf) (hk0)) ZpZ rfl (nm hS hk) (hx) (fun _ ho=>Xf hH hk ho) (Za (hl.D 0 5 rfl rfl) (Za (hl.D 1 6 rfl rfl) Zg)) (js hJ hx),trivial⟩ ?_
 exact tRn 0 (hE:=eB (by rw[←Zb8]))
theorem Zh7 (xs:List Pr) (f:FuncId) (caps:List AV) (Os:List OB) (p:Pr→Bool) (hf:∀ q',FnR prog J f Os ([.agg (prC (q'))]++caps) (.bool (p q'))) (hk0:Zk prog f):FnR prog J 179 Os [.rd (YV xs),.fn f caps] (.int (Yn p xs)):=by
 refine fER Tryz.func179 fun S w0 hS hJ0 hH=>?_
 clear hJ0
 refine ln 0 fun hl1=>?_
 refine qs tb hJ [0,1] [_] U2 ?_
 refine Ze (hqs tb hJ [0,1,1001,1002] [_,.int (xs.length:Nat),_] [1] U4 rfl ⟨Z3 ZL,trivial⟩ ?_)
 refine Zc (lp (ι:=Nat) (fun k=>(k≤xs.length)∧(∀ j,j<k→p (ge xs j)=false)) (fun k=>[(8,.int (k:Nat))]) (fun k=>xs.length-k) [0,1,2,3] U3 0 ⟨nzl,fun j hj=>by omega⟩ ?_)
 rintro k ⟨f1_1,f1_2⟩
 refine qs tb hJ [0,1,2,3,1000] [_] U5 ?_
 refine cjS 4 (fun hb1=>?_) fun hb1=>?_
 ·
  try simp at hb1
  refine Zb (nx (Ze (Zc (qs tb hJ [0,1,2,3,1001] U2 U5 ?_))))
  refine hqs tb hJ (r5 [1005]) (V3 [.ptr (prC (ge xs k)),_,.bool (p (ge xs k))]) [3,5] U6 rfl ⟨iIx Zt,fun _ _ hk hx hl _=>ZaX (hf (ge xs k)) hk0 rfl (hl.D 0 11 rfl rfl) (nm hS hk) (hx) (fun _ ho=>Xf hH hk ho) (Za (hl.D 4 15 rfl rfl) Zg) (js hJ hx),trivial⟩ ?_
  refine cj 5 (fun hb2=>?_) fun hb2=>?_
  ·
   try simp at hb2
   refine qs tb hJ [1001] U2 [_] ?_
   exact tRn 0 (hE:=eI (by first | exact(Xk hb1 hb2 f1_2).symm | exact(YU fun j hj=>f1_2 j oz).symm))
  ·
   try simp at hb2
   refine Zb (nx (hqp tb hJ [0,1,2,1001] [.int (k+1:Nat),_] [0] U4 rfl ⟨Z7,trivial⟩ ?_))
   exact lpE (k+1) [0,1,2,3] ⟨oz,ZK f1_2 hb2⟩
 ·
  try simp at hb1
  refine Zs (nx (qs tb hJ [1000] [_] [_] ?_))
  exact tRn 0 (hE:=eI (by first | exact(Xk hb1 hb2 f1_2).symm | exact(YU fun j hj=>f1_2 j oz).symm))
theorem Zh8 (xs:List Fr) (f:FuncId) (caps:List AV) (Os:List OB) (p:Fr→Bool) (hf:∀ q',FnR prog J f Os ([.agg (frC (q'))]++caps) (.bool (p q'))) (hk0:Zk prog f):FnR prog J 47 Os [.rd (Zb9 xs),.fn f caps] (.int (Yn p xs)):=by
 refine fER Tryz.func47 fun S w0 hS hJ0 hH=>?_
 clear hJ0
 refine ln 0 fun hl1=>?_
 refine qs tb hJ [0,1] [_] U2 ?_
 refine Ze (hqs tb hJ [0,1,1001,1002] [_,.int (xs.length:Nat),_] [1] U4 rfl ⟨Z3 XS,trivial⟩ ?_)
 refine Zc (lp (ι:=Nat) (fun k=>(k≤xs.length)∧(∀ j,j<k→p (ge xs j)=false)) (fun k=>[(8,.int (k:Nat))]) (fun k=>xs.length-k) [0,1,2,3] U3 0 ⟨nzl,fun j hj=>by omega⟩ ?_)
 rintro k ⟨f1_1,f1_2⟩
 refine qs tb hJ [0,1,2,3,1000] [_] U5 ?_
 refine cjS 4 (fun hb1=>?_) fun hb1=>?_
 ·
  try simp at hb1
  refine Zb (nx (Ze (Zc (qs tb hJ [0,1,2,3,1001] U2 U5 ?_))))
  refine hqs tb hJ (r5 [1005]) (V3 [.ptr (frC (ge xs k)),_,.bool (p (ge xs k))]) [3,5] U6 rfl ⟨iIx ZV,fun _ _ hk hx hl _=>ZaX (hf (ge xs k)) hk0 rfl (hl.D 0 11 rfl rfl) (nm hS hk) (hx) (fun _ ho=>Xf hH hk ho) (Za (hl.D 4 15 rfl rfl) Zg) (js hJ hx),trivial⟩ ?_
  refine cj 5 (fun hb2=>?_) fun hb2=>?_
  ·
   try simp at hb2
   refine qs tb hJ [1001] U2 [_] ?_
   exact tRn 0 (hE:=eI (by first | exact(Xk hb1 hb2 f1_2).symm | exact(YU fun j hj=>f1_2 j oz).symm))
  ·
   try simp at hb2
   refine Zb (nx (hqp tb hJ [0,1,2,1001] [.int (k+1:Nat),_] [0] U4 rfl ⟨Z7,trivial⟩ ?_))
   exact lpE (k+1) [0,1,2,3] ⟨oz,ZK f1_2 hb2⟩
 ·
  try simp at hb1
  refine Zs (nx (qs tb hJ [1000] [_] [_] ?_))
  exact tRn 0 (hE:=eI (by first | exact(Xk hb1 hb2 f1_2).symm | exact(YU fun j hj=>f1_2 j oz).symm))
theorem ZeW (xs:List Fr) (f:FuncId) (caps:List AV) (Os:List OB) (p:Fr→Bool) (hf:∀ q',FnR prog J f Os ([.agg (frC (q'))]++caps) (.bool (p q'))) (hk0:Zk prog f):FnR prog J 26 Os [.rd (Zb9 xs),.fn f caps] (.bool (xs.any p)):=by
 refine fER Tryz.func26 fun S w0 hS hJ0 hH=>?_
 clear hJ0
 refine ln 0 fun hl1=>?_
 refine qs tb hJ [0,1] [_] U2 ?_
 refine hqs tb hJ [1004] [_,_,.int (Yn p xs),_,_] [2] [_] rfl ⟨fun _ _ hk hx hl _=>Y5 (Zh8 hJ xs f caps Os p (hf) (hk0)) ZwD rfl (nm hS hk) (hx) (fun _ ho=>Xf hH hk ho) (Za (hl.D 0 5 rfl rfl) (Za (hl.D 1 6 rfl rfl) Zg)) (js hJ hx),trivial⟩ ?_
 exact tRn 0 (hE:=eB (by rw[←Zb8]))
theorem ZgU (xs ys:List BA)  :Fn prog J 24 [.rd (Zf xs),.rd (Zf ys)] (.bool (decide (xs=ys))):=by
 refine fE Tryz.func24 fun S w0 hS hJ0=>?_
 clear hJ0
 refine ln 0 fun hl1=>?_
 refine ln 1 fun hl2=>?_
 refine qs tb hJ [0,1] [_] U2 ?_
 refine Ze (hqs tb hJ [0,1,1004] [_,.int (xs.length:Nat),_,.int (ys.length:Nat),_] [1,3] U3 rfl ⟨Z3 Zm,Z3 Zm,trivial⟩ ?_)
 refine cj 2 (fun hb1=>?_) fun hb1=>?_
 ·
  try simp at hb1
  refine qs tb hJ [1000] [_] [_] ?_
  exact tRn 0 (hE:=eB (by first | (have:=Za7 (xs:=xs) (ys:=ys) oz (fun j hj=>f1_2 j oz);simp[this];done) | (symm;rw[decide_eq_false_iff_not];intro e;subst e;simp_all;done)))
 ·
  try simp at hb1
  refine Zb (nx (Ze (hqs tb hJ [0,1,1001,1002] [_,.int (xs.length:Nat),_] [1] U4 rfl ⟨Z3 Zm,trivial⟩ ?_)))
  refine Zc (lp (ι:=Nat) (fun k=>(k≤xs.length)∧(∀ j,j<k→ge xs j=ge ys j)) (fun k=>[(13,.int (k:Nat))]) (fun k=>xs.length-k) [0,1,2,3] U3 0 ⟨nzl,fun j hj=>by omega⟩ ?_)
  rintro k ⟨f1_1,f1_2⟩
  refine qs tb hJ [0,1,2,3,1000] [_] U5 ?_
  refine cjS 4 (fun hb2=>?_) fun hb2=>?_
  ·
   try simp at hb2
   refine Zb (nx (Ze (Zc (qs tb hJ [0,1,2,3,1001] U2 U5 ?_))))
   refine hqs tb hJ [0,1,2,3,1008] [_,_,.ptr [lS (ge xs k)],_,_,_,.ptr [lS (ge ys k)],_,_] [2,6] U5 rfl ⟨iIx Zd,iIx Zd,trivial⟩ ?_
   refine cj 4 (fun hb3=>?_) fun hb3=>?_
   ·
    try simp at hb3
    refine qs tb hJ [1000] [_] [_] ?_
    exact tRn 0 (hE:=eB (by first | (have:=Za7 (xs:=xs) (ys:=ys) oz (fun j hj=>f1_2 j oz);simp[this];done) | (symm;rw[decide_eq_false_iff_not];intro e;subst e;simp_all;done)))
   ·
    try simp at hb3
    refine Zb (nx (hqp tb hJ [0,1,2,1001] [.int (k+1:Nat),_] [0] U4 rfl ⟨Z7,trivial⟩ ?_))
    exact lpE (k+1) [0,1,2,3] ⟨oz,ZK f1_2 hb3⟩
  ·
   try simp at hb2
   refine Zs (nx (qs tb hJ [1000] [_] [_] ?_))
   exact tRn 0 (hE:=eB (by first | (have:=Za7 (xs:=xs) (ys:=ys) oz (fun j hj=>f1_2 j oz);simp[this];done) | (symm;rw[decide_eq_false_iff_not];intro e;subst e;simp_all;done)))
theorem Zel (xs:List BA) (b:xs.length*16≤140737488351232):FnM (ι:=Value) prog J 42 [] [.rd (Zf xs)] [] (fun i'=>.lit (i')) (fun i'=>[OB.row i' 9 1 (xs.map Zax)]):=by
 refine fEM Tryz.func42 fun S w0 R hS hJ0 hH=>?_
 refine Yq (B:=So J S w0 8 (R) [(0,.rd (Zf xs))]) ?_ fun a w h=>h
 refine ln 0 fun hl1=>?_
 refine qso tb hJ [0] [_] [_] ?_
 refine Ze (tsq (snK 1 tb rfl (ZgK (f:=Zax) (xs:=xs) Zm rfl rfl rfl (lb rfl) (fun a w h=>(h.get 0 rfl)) fun g1 hg1=>?_)))
 refine seK [0,2] U2 rfl (nx (cj 0 (fun hb1=>?_) fun hb1=>?_))
 ·
  try simp at hb1
  refine qso tb hJ [1000] [_] [_] ?_
  refine tw (YS 9 1 hJ) (tw (ob0 (congrArg (fun z'=>OB.row (.slice none 0 0) 9 1 ((z').map Zax)) (show([]:List BA)=xs from by first | exact(hg1 (by assumption)).symm | simp))) ?_)
  exact ZA (fun a w h=>Yg  (m:=0) (.slice none 0 0) rfl h rfl rfl)
 ·
  try simp at hb1
  refine Zb (nx (Ze (fun a w h=>Zbg (id:=3) (t:=22) (e:=9) (size:=1) (bytes:=16) (i0:=0) (fol:=3) (d:=2) (ch:=[(2,(xs.map Zax))]) (fun ix'=>([.any,.rd (Zf xs),.any,.any]:List AV).getD ix' .any) (fun _=>true) [] (xs.map Zax) yz ?r3_1 hJ hJ0 h Yr rfl rfl rfl rfl ⟨?_,?_,?_,?_,trivial⟩ trivial (fun v2=>?n3_1))))
  case r3_1=>
   refine Row.mk' Xn ⟨_,rfl,rfl,rfl,rfl,rfl⟩ ⟨?x3_1_0,trivial⟩ ⟨_,_,_,_,rfl,rfl,rfl,rfl,rfl,rfl,rfl,rfl,rfl⟩ rfl rfl rfl
   case x3_1_0=>exact⟨_,_,_,_,rfl,rfl,rfl,rfl,rfl,rfl,rfl,rfl,XG (f:=Zax) (fun _=>rfl),(by have hm:maxLen=9223372036854775807:=rfl;simp[upto];first | omega | (simp;omega)),(by have hm:maxLen=9223372036854775807:=rfl;simp[upto];first | omega | (simp;omega)),fun _ _ _ _ _ hl=>(hl.D 1 6 rfl rfl)⟩
  exact fun h=>Zl rfl h
  exact fun _ _=>⟨rfl,fun _ _ _ hx hl _=>Z2 rfl (hl.env 1 0 _ rfl rfl) hx⟩
  exact fun h=>Zl rfl h
  exact fun h=>Zl rfl h
  clear a w h
  exact nx (ZA (fun a w h=>Yg  (m:=0) v2 rfl h rfl rfl))
theorem ZkM (xs:List Hy) (b:xs.length*48≤140737488351232):FnM (ι:=Value) prog J 61 [] [.rd (Y1 xs)] [] (fun i'=>.lit (i')) (fun i'=>[OB.row i' 61 3 (xs.map hyC)]):=by
 refine fEM Tryz.func61 fun S w0 R hS hJ0 hH=>?_
 refine Yq (B:=So J S w0 8 (R) [(0,.rd (Y1 xs))]) ?_ fun a w h=>h
 refine ln 0 fun hl1=>?_
 refine qso tb hJ [0] [_] [_] ?_
 refine Ze (tsq (snK 1 tb rfl (ZgK (f:=hyC) (xs:=xs) Zz rfl rfl rfl (lb rfl) (fun a w h=>(h.get 0 rfl)) fun g1 hg1=>?_)))
 refine seK [0,2] U2 rfl (nx (cj 0 (fun hb1=>?_) fun hb1=>?_))
 ·
  try simp at hb1
  refine qso tb hJ [1000] [_] [_] ?_
  refine tw (YS 61 3 hJ) (tw (ob0 (congrArg (fun z'=>OB.row (.slice none 0 0) 61 3 ((z').map hyC)) (show([]:List Hy)=xs from by first | exact(hg1 (by assumption)).symm | simp))) ?_)
  exact ZA (fun a w h=>Yg  (m:=0) (.slice none 0 0) rfl h rfl rfl)
 ·
  try simp at hb1
  refine Zb (nx (Ze (fun a w h=>Zbg (id:=3) (t:=56) (e:=61) (size:=3) (bytes:=48) (i0:=0) (fol:=3) (d:=2) (ch:=[(2,(xs.map hyC))]) (fun ix'=>([.any,.rd (Y1 xs),.any,.any]:List AV).getD ix' .any) (fun _=>true) [] (xs.map hyC) yz ?r3_1 hJ hJ0 h Yr rfl rfl rfl rfl ⟨?_,?_,?_,?_,trivial⟩ trivial (fun v2=>?n3_1))))
  case r3_1=>
   refine Row.mk' Q1 ⟨_,rfl,rfl,rfl,rfl,rfl⟩ ⟨?x3_1_0,trivial⟩ ⟨_,_,_,_,rfl,rfl,rfl,rfl,rfl,rfl,rfl,rfl,rfl⟩ rfl rfl rfl
   case x3_1_0=>exact⟨_,_,_,_,rfl,rfl,rfl,rfl,rfl,rfl,rfl,rfl,XG (f:=hyC) (fun _=>rfl),(by have hm:maxLen=9223372036854775807:=rfl;simp[upto];first | omega | (simp;omega)),(by have hm:maxLen=9223372036854775807:=rfl;simp[upto];first | omega | (simp;omega)),fun _ _ _ _ _ hl=>(hl.D 1 6 rfl rfl)⟩
  exact fun h=>Zl rfl h
  exact fun _ _=>⟨rfl,fun _ _ _ hx hl _=>Z2 rfl (hl.env 1 0 _ rfl rfl) hx⟩
  exact fun h=>Zl rfl h
  exact fun h=>Zl rfl h
  clear a w h
  exact nx (ZA (fun a w h=>Yg  (m:=0) v2 rfl h rfl rfl))
theorem ZkL (xs:List Pr) (b:xs.length*32≤140737488351232):FnM (ι:=Value) prog J 62 [] [.rd (YV xs)] [] (fun i'=>.lit (i')) (fun i'=>[OB.row i' 104 2 (xs.map prC)]):=by
 refine fEM Tryz.func62 fun S w0 R hS hJ0 hH=>?_
 refine Yq (B:=So J S w0 8 (R) [(0,.rd (YV xs))]) ?_ fun a w h=>h
 refine ln 0 fun hl1=>?_
 refine qso tb hJ [0] [_] [_] ?_
 refine Ze (tsq (snK 1 tb rfl (ZgK (f:=prC) (xs:=xs) ZL rfl rfl rfl (lb rfl) (fun a w h=>(h.get 0 rfl)) fun g1 hg1=>?_)))
 refine seK [0,2] U2 rfl (nx (cj 0 (fun hb1=>?_) fun hb1=>?_))
 ·
  try simp at hb1
  refine qso tb hJ [1000] [_] [_] ?_
  refine tw (YS 104 2 hJ) (tw (ob0 (congrArg (fun z'=>OB.row (.slice none 0 0) 104 2 ((z').map prC)) (show([]:List Pr)=xs from by first | exact(hg1 (by assumption)).symm | simp))) ?_)
  exact ZA (fun a w h=>Yg  (m:=0) (.slice none 0 0) rfl h rfl rfl)
 ·
  try simp at hb1
  refine Zb (nx (Ze (fun a w h=>Zbg (id:=3) (t:=57) (e:=104) (size:=2) (bytes:=32) (i0:=0) (fol:=3) (d:=2) (ch:=[(2,(xs.map prC))]) (fun ix'=>([.any,.rd (YV xs),.any,.any]:List AV).getD ix' .any) (fun _=>true) [] (xs.map prC) yz ?r3_1 hJ hJ0 h Yr rfl rfl rfl rfl ⟨?_,?_,?_,?_,trivial⟩ trivial (fun v2=>?n3_1))))
  case r3_1=>
   refine Row.mk' Zch ⟨_,rfl,rfl,rfl,rfl,rfl⟩ ⟨?x3_1_0,trivial⟩ ⟨_,_,_,_,rfl,rfl,rfl,rfl,rfl,rfl,rfl,rfl,rfl⟩ rfl rfl rfl
   case x3_1_0=>exact⟨_,_,_,_,rfl,rfl,rfl,rfl,rfl,rfl,rfl,rfl,XG (f:=prC) (fun _=>rfl),(by have hm:maxLen=9223372036854775807:=rfl;simp[upto];first | omega | (simp;omega)),(by have hm:maxLen=9223372036854775807:=rfl;simp[upto];first | omega | (simp;omega)),fun _ _ _ _ _ hl=>(hl.D 1 6 rfl rfl)⟩
  exact fun h=>Zl rfl h
  exact fun _ _=>⟨rfl,fun _ _ _ hx hl _=>Z2 rfl (hl.env 1 0 _ rfl rfl) hx⟩
  exact fun h=>Zl rfl h
  exact fun h=>Zl rfl h
  clear a w h
  exact nx (ZA (fun a w h=>Yg  (m:=0) v2 rfl h rfl rfl))
end
theorem ZgX {J:WP} (hJ:Stab J) (v:Value) (xs:List Hy) (f:FuncId) (caps:List AV) (Os Hs:List OB) (p:Hy→Bool) (hf:∀ q',FnR prog J f (Os++Hs) ([.agg (hyC (q'))]++caps) (.bool (p q'))) (hk0:Zk prog f) (hn:xs.length≤9223372036854775807):FnM (ι:=Unit) prog J 87 Hs [.lit v,.fn f caps] (OB.row v 61 3 (xs.map hyC)::Os) (fun _=>.rd (Y1 (xs.filter fun x'=>!p x'))) (fun _=>(Os)):=by
 refine fEM Tryz.func87 fun S w0 R hS hJ0 hH=>?_
 refine Yq (B:=So J S w0 42 (OB.row v 61 3 (xs.map hyC)::(Os++R)) [(0,.lit v),(1,.fn f caps)]) ?_ fun a w h=>h
 refine qso tb hJ [0,1] [_] U2 ?_
 refine ZmW tb hJ [0,1,1003] [_,_,.int (Yn p xs),_] [2] U3 rfl ⟨fun _ _ hk hx hl _=>Y5 (ZdY hJ xs f caps (Os++Hs) p (hf) (hk0)) ZpZ rfl (nm hS hk) (hx.1) (Zg7 (fun _ ho=>Zem hx (List.mem_cons_of_mem _ (List.mem_append_left _ ho))) (fun _ ho=>Zk3 hH hk hx ho)) (Za (Qa hS hx (mo 0 rfl) (hl.D 0 8 rfl rfl)) (Za (hl.D 1 9 rfl rfl) Zg)) (jo hJ hx),trivial⟩ ?_
 refine Ze (qso tb hJ [0,1,2,1001] U2 U4 ?_)
 refine cj 3 (fun hb1=>?_) fun hb1=>?_
 ·
  have e1:=of_decide_eq_true hb1
  refine qso tb hJ [1001] U2 [_] ?_
  exact tw (fun h=>ZO hS h (m:=0) (s:=4) rfl) (ZA (fun a w h=>Yg  (m:=0) () rfl h rfl (congrArg (fun z=>AV.rd (Y1 z)) (show xs=(xs.filter fun x'=>!p x')from by first | exact DelF.none e1 | exact f1_1.fin (by have:=f1_1.len;omega)))))
 ·
  have e1:=of_decide_eq_false hb1
  refine Zb (nx (Ze (tw (sa 2 rfl (congrArg AV.int (show Yn p xs=(((Yn p xs).toNat:Nat):Int)from by have:=Zaq e1;omega))) (ZG tb hJ [0,1,2,1002] [_,.int ((Yn p xs).toNat+1:Nat),_] [1] U4 rfl ⟨Z7 (h0:=by have:=(Zaq e1).2.1;omega),trivial⟩ ?_))))
  refine Zc (lpo (ι:=Nat×Nat×(List Hy)×Value) (fun(i,j,ys,_)=>(DelF p xs ys i j)) (fun(_,_,ys,vo)=>(OB.row vo 61 3 (ys.map hyC)::(Os++R))) (fun(i,j,_,vo)=>[(5,.int (i:Nat)),(6,.int (j:Nat)),(0,.lit vo)]) (fun(_,j,_,_)=>xs.length-j) [1,2,3,0] [_] ((Yn p xs).toNat,(Yn p xs).toNat+1,xs,v) (show(DelF p xs xs ((Yn p xs).toNat) ((Yn p xs).toNat+1))from DelF.init e1) ?_)
  rintro⟨i,j,ys,vo⟩ hF
  have f1_1:DelF p xs ys i j:=hF
  refine Ze (ZmW tb hJ [0,1,2,3,1003] [_,_,.int (ys.length:Nat),_] [2] U5 rfl ⟨fun _ _ _ hx hl _=>Zai Zz rfl (Qa hS hx (mo 0 rfl) (hl.D 1 17 rfl rfl)) hx,trivial⟩ ?_)
  refine cj 4 (fun hb2=>?_) fun hb2=>?_
  ·
   try simp at hb2
   refine Zb (nx (Ze (Zc (tsq (snK 2 tb rfl (sy (.lit (Y8 vo (j*3))) (fun h=>YP (i:=(j:Int)) Zo rfl (Zh h.x (mo 0 rfl)) (h.get 1 rfl) (h.get 0 rfl) nnn (by rw[List.length_map];exact Int.ofNat_lt.2 oz) h.x) ?_))))))
   refine sy (.agg (hyC (ge ys j))) (fun h=>QH (i:=j) XY rfl (Zh h.x (mo 0 rfl)) (h.get 0 rfl) (Qq (xs:=ys) (k:=j) oz) rfl h.x) ?_
   refine XZ (cs:=hyC (ge ys j)) ZbW rfl rfl rfl (lb rfl) rfl rfl rfl dz (m:=0) rfl rfl (fun a w h=>Zq hS _ h.keep h.x _ nlr) (fun a w h w' hk'=>YA hJ _ _ hk' h.x) ?_
   refine seK [0,5,6,7,8] U5 rfl (nx (ZG tb hJ (r5 [1003]) [_,_,.bool (p (ge ys j)),_] [2] U6 rfl ⟨fun _ _ hk hx hl _=>ZaX (hf (ge ys j)) hk0 rfl (hl.D 0 26 rfl rfl) (Zq hS _ hk hx) (hx.1) (Zg7 (fun _ ho=>Zh hx (List.mem_cons_of_mem _ (List.mem_append_left _ ho))) (fun _ ho=>Yc hH hk hx ho)) (Za (hl.D 1 27 rfl rfl) Zg) (jo hJ hx),trivial⟩ ?_))
   refine cj 5 (fun hb3=>?_) fun hb3=>?_
   ·
    try simp at hb3
    refine tsq (snK 3 tb rfl (sy (.lit (Y8 vo (i*3))) (fun h=>YP (i:=(i:Int)) Zo rfl (Zh h.x (mo 0 rfl)) (h.get 2 rfl) (h.get 1 rfl) nnn (by rw[List.length_map];exact Int.ofNat_lt.2 (by have:=f1_1.le;omega)) h.x) ?_))
    refine ZaB (i:=i) hJ hJ0 YN rfl rfl rfl (by rw[List.length_map];exact(by have:=f1_1.le;omega)) rfl (fun a w h=>⟨(h.get 0 rfl),(h.get 1 rfl)⟩) ?_
    rw[show(ys.map hyC).set i (hyC (ge ys j))=(ys.set i (ge ys j)).map hyC from List.map_set.symm]
    refine seK [5,6,7,8] U4 rfl (nx (Yo tb hJ [0,2,3,1002] [_,.int (i+1:Nat),_] [1] U4 rfl ⟨Z7 (h0:=by have:=f1_1.le;have:=f1_1.len;omega),trivial⟩ ?_))
    refine nx (Yo tb hJ [0,2,3,1002] [_,.int (j+1:Nat),_] [1] U4 rfl ⟨Z7 (h0:=by have:=f1_1.lt;have:=f1_1.len;omega),trivial⟩ ?_)
    exact YE (i+1,j+1,ys.set i (ge ys j),vo) [0,2,3,1] (show(DelF p xs (ys.set i (ge ys j)) (i+1) (j+1))from f1_1.keep (by have:=f1_1.len;omega) (by simpa using hb3)) (hm:=(show xs.length-(j+1)<xs.length-j from by have:=f1_1.lt;have:=f1_1.len;omega))
   ·
    try simp at hb3
    refine Zb (nx (Yo tb hJ [1,2,4,1002] [_,.int (j+1:Nat),_] [1] U4 rfl ⟨Z7 (h0:=by have:=f1_1.lt;have:=f1_1.len;omega),trivial⟩ ?_))
    exact YE (i,j+1,ys,vo) [0,1,3,2] (show(DelF p xs ys i (j+1))from f1_1.skip (by have:=f1_1.len;omega) (by simpa using hb3)) (hm:=(show xs.length-(j+1)<xs.length-j from by have:=f1_1.lt;have:=f1_1.len;omega))
  ·
   try simp at hb2
   refine Zs (nx (tsq (snK 2 tb rfl (sy (.lit (ZfY vo i 3)) (fun h=>ZhP (lo:=i) Zo rfl (Zh h.x (mo 0 rfl)) (h.get 1 rfl) (h.get 0 rfl) (by rw[List.length_map];exact(by have:=f1_1.le;have:=f1_1.lt;have:=f1_1.len;omega)) h.x) ?_))))
   refine ZgL (lo:=i) ZlD Zz dz hJ hJ0 rfl rfl rfl (by rw[List.length_map];exact(by have:=f1_1.le;have:=f1_1.lt;have:=f1_1.len;omega)) (fun a w h=>(h.get 0 rfl)) ?_
   rw[←List.map_take]
   refine seK [4,6] U2 rfl (nx (ZG tb hJ [1003] [_,_,.lit (Zcw vo i),_] [2] [_] rfl ⟨fun _ _ _ hx hl _=>ZhS (m:=i) Zo rfl (Zh hx (mo 0 rfl)) (by first | rfl | (rw[List.length_map];exact(by have:=f1_1.le;have:=f1_1.lt;have:=f1_1.len;simp;omega))) (hl.D 0 39 rfl rfl) (hl.D 1 40 rfl rfl) hx,trivial⟩ ?_))
   exact tw (fun h=>ZO hS h (m:=0) (s:=4) rfl) (ZA (fun a w h=>Yg  (m:=0) () rfl h rfl (congrArg (fun z=>AV.rd (Y1 z)) (show(ys.take i)=(xs.filter fun x'=>!p x')from by first | exact DelF.none e1 | exact f1_1.fin (by have:=f1_1.len;omega)))))
theorem ZgW {J:WP} (hJ:Stab J) (v:Value) (xs:List Pr) (f:FuncId) (caps:List AV) (Os Hs:List OB) (p:Pr→Bool) (hf:∀ q',FnR prog J f (Os++Hs) ([.agg (prC (q'))]++caps) (.bool (p q'))) (hk0:Zk prog f) (hn:xs.length≤9223372036854775807):FnM (ι:=Unit) prog J 156 Hs [.lit v,.fn f caps] (OB.row v 104 2 (xs.map prC)::Os) (fun _=>.rd (YV (xs.filter fun x'=>!p x'))) (fun _=>(Os)):=by
 refine fEM Tryz.func156 fun S w0 R hS hJ0 hH=>?_
 refine Yq (B:=So J S w0 42 (OB.row v 104 2 (xs.map prC)::(Os++R)) [(0,.lit v),(1,.fn f caps)]) ?_ fun a w h=>h
 refine qso tb hJ [0,1] [_] U2 ?_
 refine ZmW tb hJ [0,1,1003] [_,_,.int (Yn p xs),_] [2] U3 rfl ⟨fun _ _ hk hx hl _=>Y5 (Zh7 hJ xs f caps (Os++Hs) p (hf) (hk0)) Zsv rfl (nm hS hk) (hx.1) (Zg7 (fun _ ho=>Zem hx (List.mem_cons_of_mem _ (List.mem_append_left _ ho))) (fun _ ho=>Zk3 hH hk hx ho)) (Za (Qa hS hx (mo 0 rfl) (hl.D 0 8 rfl rfl)) (Za (hl.D 1 9 rfl rfl) Zg)) (jo hJ hx),trivial⟩ ?_
 refine Ze (qso tb hJ [0,1,2,1001] U2 U4 ?_)
 refine cj 3 (fun hb1=>?_) fun hb1=>?_
 ·
  have e1:=of_decide_eq_true hb1
  refine qso tb hJ [1001] U2 [_] ?_
  exact tw (fun h=>ZO hS h (m:=0) (s:=4) rfl) (ZA (fun a w h=>Yg  (m:=0) () rfl h rfl (congrArg (fun z=>AV.rd (YV z)) (show xs=(xs.filter fun x'=>!p x')from by first | exact DelF.none e1 | exact f1_1.fin (by have:=f1_1.len;omega)))))
 ·
  have e1:=of_decide_eq_false hb1
  refine Zb (nx (Ze (tw (sa 2 rfl (congrArg AV.int (show Yn p xs=(((Yn p xs).toNat:Nat):Int)from by have:=Zaq e1;omega))) (ZG tb hJ [0,1,2,1002] [_,.int ((Yn p xs).toNat+1:Nat),_] [1] U4 rfl ⟨Z7 (h0:=by have:=(Zaq e1).2.1;omega),trivial⟩ ?_))))
  refine Zc (lpo (ι:=Nat×Nat×(List Pr)×Value) (fun(i,j,ys,_)=>(DelF p xs ys i j)) (fun(_,_,ys,vo)=>(OB.row vo 104 2 (ys.map prC)::(Os++R))) (fun(i,j,_,vo)=>[(5,.int (i:Nat)),(6,.int (j:Nat)),(0,.lit vo)]) (fun(_,j,_,_)=>xs.length-j) [1,2,3,0] [_] ((Yn p xs).toNat,(Yn p xs).toNat+1,xs,v) (show(DelF p xs xs ((Yn p xs).toNat) ((Yn p xs).toNat+1))from DelF.init e1) ?_)
  rintro⟨i,j,ys,vo⟩ hF
  have f1_1:DelF p xs ys i j:=hF
  refine Ze (ZmW tb hJ [0,1,2,3,1003] [_,_,.int (ys.length:Nat),_] [2] U5 rfl ⟨fun _ _ _ hx hl _=>Zai ZL rfl (Qa hS hx (mo 0 rfl) (hl.D 1 17 rfl rfl)) hx,trivial⟩ ?_)
  refine cj 4 (fun hb2=>?_) fun hb2=>?_
  ·
   try simp at hb2
   refine Zb (nx (Ze (Zc (tsq (snK 2 tb rfl (sy (.lit (Y8 vo (j*2))) (fun h=>YP (i:=(j:Int)) Zt rfl (Zh h.x (mo 0 rfl)) (h.get 1 rfl) (h.get 0 rfl) nnn (by rw[List.length_map];exact Int.ofNat_lt.2 oz) h.x) ?_))))))
   refine sy (.agg (prC (ge ys j))) (fun h=>QH (i:=j) YR rfl (Zh h.x (mo 0 rfl)) (h.get 0 rfl) (Qq (xs:=ys) (k:=j) oz) rfl h.x) ?_
   refine XZ (cs:=prC (ge ys j)) ZcO rfl rfl rfl (lb rfl) rfl rfl rfl dz (m:=0) rfl rfl (fun a w h=>Zq hS _ h.keep h.x _ nlr) (fun a w h w' hk'=>YA hJ _ _ hk' h.x) ?_
   refine seK [0,5,6,7,8] U5 rfl (nx (ZG tb hJ (r5 [1003]) [_,_,.bool (p (ge ys j)),_] [2] U6 rfl ⟨fun _ _ hk hx hl _=>ZaX (hf (ge ys j)) hk0 rfl (hl.D 0 26 rfl rfl) (Zq hS _ hk hx) (hx.1) (Zg7 (fun _ ho=>Zh hx (List.mem_cons_of_mem _ (List.mem_append_left _ ho))) (fun _ ho=>Yc hH hk hx ho)) (Za (hl.D 1 27 rfl rfl) Zg) (jo hJ hx),trivial⟩ ?_))
   refine cj 5 (fun hb3=>?_) fun hb3=>?_
   ·
    try simp at hb3
    refine tsq (snK 3 tb rfl (sy (.lit (Y8 vo (i*2))) (fun h=>YP (i:=(i:Int)) Zt rfl (Zh h.x (mo 0 rfl)) (h.get 2 rfl) (h.get 1 rfl) nnn (by rw[List.length_map];exact Int.ofNat_lt.2 (by have:=f1_1.le;omega)) h.x) ?_))
    refine ZaB (i:=i) hJ hJ0 YK rfl rfl rfl (by rw[List.length_map];exact(by have:=f1_1.le;omega)) rfl (fun a w h=>⟨(h.get 0 rfl),(h.get 1 rfl)⟩) ?_
    rw[show(ys.map prC).set i (prC (ge ys j))=(ys.set i (ge ys j)).map prC from List.map_set.symm]
    refine seK [5,6,7,8] U4 rfl (nx (Yo tb hJ [0,2,3,1002] [_,.int (i+1:Nat),_] [1] U4 rfl ⟨Z7 (h0:=by have:=f1_1.le;have:=f1_1.len;omega),trivial⟩ ?_))
    refine nx (Yo tb hJ [0,2,3,1002] [_,.int (j+1:Nat),_] [1] U4 rfl ⟨Z7 (h0:=by have:=f1_1.lt;have:=f1_1.len;omega),trivial⟩ ?_)
    exact YE (i+1,j+1,ys.set i (ge ys j),vo) [0,2,3,1] (show(DelF p xs (ys.set i (ge ys j)) (i+1) (j+1))from f1_1.keep (by have:=f1_1.len;omega) (by simpa using hb3)) (hm:=(show xs.length-(j+1)<xs.length-j from by have:=f1_1.lt;have:=f1_1.len;omega))
   ·
    try simp at hb3
    refine Zb (nx (Yo tb hJ [1,2,4,1002] [_,.int (j+1:Nat),_] [1] U4 rfl ⟨Z7 (h0:=by have:=f1_1.lt;have:=f1_1.len;omega),trivial⟩ ?_))
    exact YE (i,j+1,ys,vo) [0,1,3,2] (show(DelF p xs ys i (j+1))from f1_1.skip (by have:=f1_1.len;omega) (by simpa using hb3)) (hm:=(show xs.length-(j+1)<xs.length-j from by have:=f1_1.lt;have:=f1_1.len;omega))
  ·
   try simp at hb2
   refine Zs (nx (tsq (snK 2 tb rfl (sy (.lit (ZfY vo i 2)) (fun h=>ZhP (lo:=i) Zt rfl (Zh h.x (mo 0 rfl)) (h.get 1 rfl) (h.get 0 rfl) (by rw[List.length_map];exact(by have:=f1_1.le;have:=f1_1.lt;have:=f1_1.len;omega)) h.x) ?_))))
   refine ZgL (lo:=i) Zex ZL dz hJ hJ0 rfl rfl rfl (by rw[List.length_map];exact(by have:=f1_1.le;have:=f1_1.lt;have:=f1_1.len;omega)) (fun a w h=>(h.get 0 rfl)) ?_
   rw[←List.map_take]
   refine seK [4,6] U2 rfl (nx (ZG tb hJ [1003] [_,_,.lit (Zcw vo i),_] [2] [_] rfl ⟨fun _ _ _ hx hl _=>ZhS (m:=i) Zt rfl (Zh hx (mo 0 rfl)) (by first | rfl | (rw[List.length_map];exact(by have:=f1_1.le;have:=f1_1.lt;have:=f1_1.len;simp;omega))) (hl.D 0 39 rfl rfl) (hl.D 1 40 rfl rfl) hx,trivial⟩ ?_))
   exact tw (fun h=>ZO hS h (m:=0) (s:=4) rfl) (ZA (fun a w h=>Yg  (m:=0) () rfl h rfl (congrArg (fun z=>AV.rd (YV z)) (show(ys.take i)=(xs.filter fun x'=>!p x')from by first | exact DelF.none e1 | exact f1_1.fin (by have:=f1_1.len;omega)))))
end Go.Proofs.YtneapgbkkkjagaaGreatDoor
