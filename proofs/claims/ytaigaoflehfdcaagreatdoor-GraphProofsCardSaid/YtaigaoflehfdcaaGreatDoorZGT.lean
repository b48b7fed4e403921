/-
  FACTS of the program's types and functions.
  CONTRACTS: small functions of the references that only read.
  CONTRACTS: functions of the references on hypotheses and frames.
  CONTRACTS: labels, pairs and hypotheses of the references.
  CONTRACTS: hypotheses of the references.
  CONTRACTS: the check of a database by the reference.
  CONTRACTS: the check of a database by the reference, whole.
  CONTRACTS of the program: look-ups, functions that take functions.
  CONTRACTS of the library: slices' functions.
  CONTRACTS of the library: slices.DeleteFunc.
-/
import Derived.Test.YtaigaoflehfdcaaGreatDoorZGS
import Derived.Laws.StructEq
import Derived.Test.YtaigaoflehfdcaaGreatDoorZGN
set_option maxHeartbeats 8000000
set_option maxRecDepth 100000
namespace Go.Proofs.YtaigaoflehfdcaaGreatDoor
open Go.Proofs.Tryz (prog)
open Go.RowKit
theorem YZ:prog.follows .mixedOrders=true:=by kernel_rfl
theorem ZmR:(prog.fieldsOf 173).toList=[{ name:= "A",type:=9,offset:=0,embedded:=false,tag:= "",pkgPath:= "",byteOffset:=0 }, { name:= "B",type:=9,offset:=1,embedded:=false,tag:= "",pkgPath:= "",byteOffset:=16 }]:=by kernel_rfl
theorem ZmP:prog.underlying 173=some (.struct (prog.fieldsOf 173)):=by kernel_rfl
theorem Zr9:prog.underlying 9=some .string:=by kernel_rfl
theorem Zhl (c:Array Value) (i:Nat) (v:Value) (h:c[i]?=some v) (w:World):(part 9 c i).run prog w= .ok v w:=by
 simp[part,Tryz.isAgg9,h]
theorem ZfX:ZoN prog 173:=by
 intro a b c d w x y
 refine⟨by simp[eqGuard],by simp[eqGuard],?_⟩
 unfold Op.equal Op.maxDepth
 rw[run_equalIn_struct w 9999 173 _ _ ZmP (by kernel_rfl),ZmR]
 have e1:=fun(c:Array Value) (v:Value) (i:Nat) (h:c[i]?=some v)=>Zhl c i v h
 have q1:=run_equalIn_string (P:=prog) w 9998 9 a c Zr9
 have q2:=run_equalIn_string (P:=prog) w 9998 9 b d Zr9
 rw[Zar]at q1 q2
 simp only[Op.eqFields]
 rw[if_pos dz,if_pos dz]
 simp only[Sem.run_bind]
 rw[e1 _ (.string a) 0 rfl w,Result.andThen_ok,e1 _ (.string c) 0 rfl w,Result.andThen_ok,q1,Result.andThen_ok]
 by_cases h1:a=c
 · simp only[h1,decide_true,Bool.not_true,Bool.false_eq_true,if_false,Sem.run_bind]
   rw[e1 _ (.string b) 1 rfl w,Result.andThen_ok,e1 _ (.string d) 1 rfl w,Result.andThen_ok,q2,Result.andThen_ok]
   by_cases h2:b=d
   · simp[h2,Sem.run_pure]
   · simp[h2,Sem.run_pure]
 · simp[h1,Sem.run_pure]
theorem Zs:prog.underlying 22=some (.slice 9):=by kernel_rfl
theorem Zf:YE prog 22 9 1:=⟨by kernel_rfl,fun w=>by kernel_rfl⟩
theorem QN:QA prog 9:=fun w=>by kernel_rfl
theorem ZH:prog.underlying 51=some (.slice 173):=by kernel_rfl
theorem Zo:YE prog 51 173 2:=⟨by kernel_rfl,fun w=>by kernel_rfl⟩
theorem YI:XZ prog 173 2:=⟨fun w=>by kernel_rfl,fun w=>by kernel_rfl⟩
theorem Yj:prog.underlying 9=some .string:=by kernel_rfl
theorem Zq4:Zl prog 196:=Zt Tryz.func196 rfl rfl
theorem Zrp:Zl prog 148:=Zt Tryz.func148 rfl rfl
theorem Zc8:Yz prog 53 2 2:=fun b off w=>by kernel_rfl
theorem ZhD:QA prog 50:=fun w=>by kernel_rfl
theorem ZlB:Yz prog 53 5 5:=fun b off w=>by kernel_rfl
theorem Qq:Zjs prog 50 60 3 48:=ZuR (.agg #[.string ⟨#[]⟩,.bool false,.slice none 0 0]) (by kernel_rfl) (by kernel_rfl) rfl dz (fun w=>by kernel_rfl)
theorem Zi9:Zl prog 96:=Zt Tryz.func96 rfl rfl
theorem one_4:QA prog 4:=fun w=>by kernel_rfl
theorem QF:Yz prog 60 2 2:=fun b off w=>by kernel_rfl
theorem Qu:QA prog 22:=fun w=>by kernel_rfl
theorem XC:Zl prog 95:=Zt Tryz.func95 rfl rfl
theorem Zbw:Yz prog 60 0 0:=fun b off w=>by kernel_rfl
theorem Zr8:prog.underlying 4=some .bool:=by kernel_rfl
theorem Zq3:Zl prog 197:=Zt Tryz.func197 rfl rfl
theorem ZfT:Yz prog 25 1 1:=fun b off w=>by kernel_rfl
theorem Zr5:XZ prog 25 3:=⟨fun w=>by kernel_rfl,fun w=>by kernel_rfl⟩
theorem Zi7:Zl prog 98:=Zt Tryz.func98 rfl rfl
theorem QT:Yz prog 173 0 0:=fun b off w=>by kernel_rfl
theorem QS:Yz prog 173 1 1:=fun b off w=>by kernel_rfl
theorem Zf5:ZdI prog 173:=⟨.agg #[.string ⟨#[]⟩,.string ⟨#[]⟩],fun w=>by kernel_rfl⟩
theorem ZbC:Zjs prog 51 173 2 32:=ZuR (.agg #[.string ⟨#[]⟩,.string ⟨#[]⟩]) (by kernel_rfl) (by kernel_rfl) rfl dz (fun w=>by kernel_rfl)
theorem Qf:prog.underlying 36=some (.slice 22):=by kernel_rfl
theorem ZO:YE prog 36 22 1:=⟨by kernel_rfl,fun w=>by kernel_rfl⟩
theorem QI:ZdI prog 9:=⟨.string ⟨#[]⟩,fun w=>by kernel_rfl⟩
theorem Y3:Zjs prog 22 9 1 16:=ZuR (.string ⟨#[]⟩) (by kernel_rfl) (by kernel_rfl) rfl dz (fun w=>by kernel_rfl)
theorem Zx:prog.underlying 50=some (.slice 60):=by kernel_rfl
theorem Zq:YE prog 50 60 3:=⟨by kernel_rfl,fun w=>by kernel_rfl⟩
theorem ZbP:ZdI prog 22:=⟨.slice none 0 0,fun w=>by kernel_rfl⟩
theorem Zbi:Zjs prog 36 22 1 24:=ZuR (.slice none 0 0) (by kernel_rfl) (by kernel_rfl) rfl dz (fun w=>by kernel_rfl)
theorem QG:Yz prog 25 2 2:=fun b off w=>by kernel_rfl
theorem ZfI:QA prog 23:=fun w=>by kernel_rfl
theorem Z5:YE prog 23 53 8:=⟨by kernel_rfl,fun w=>by kernel_rfl⟩
theorem ZkO:XZ prog 53 8:=⟨fun w=>by kernel_rfl,fun w=>by kernel_rfl⟩
theorem ZkJ:Zl prog 104:=Zt Tryz.func104 rfl rfl
theorem ZfS:Yz prog 53 0 0:=fun b off w=>by kernel_rfl
theorem ZgF:Zl prog 99:=Zt Tryz.func99 rfl rfl
theorem ZqP:Zl prog 223:=Zt Tryz.func223 rfl rfl
theorem ZkC:Zl prog 198:=Zt Tryz.func198 rfl rfl
theorem Zi8:Zl prog 97:=Zt Tryz.func97 rfl rfl
theorem ZkK:Zl prog 101:=Zt Tryz.func101 rfl rfl
theorem Qz:XZ prog 60 3:=⟨fun w=>by kernel_rfl,fun w=>by kernel_rfl⟩
theorem ZcG:Zl prog 149:=Zt Tryz.func149 rfl rfl
theorem Zd0:Zl prog 150:=Zt Tryz.func150 rfl rfl
theorem ZlC:Yz prog 53 4 4:=fun b off w=>by kernel_rfl
theorem Zrn:Zl prog 152:=Zt Tryz.func152 rfl rfl
theorem Zro:Zl prog 151:=Zt Tryz.func151 rfl rfl
theorem ZfQ:Yz prog 53 6 6:=fun b off w=>by kernel_rfl
theorem Zj1:QA prog 51:=fun w=>by kernel_rfl
theorem Zca:ZsJ prog 173 2:=⟨(#[.string ⟨#[]⟩,.string ⟨#[]⟩]),rfl,by kernel_rfl⟩
theorem Zrm:Zl prog 154:=Zt Tryz.func154 rfl rfl
theorem ZkF:Zl prog 153:=Zt Tryz.func153 rfl rfl
theorem ZfR:Yz prog 53 3 3:=fun b off w=>by kernel_rfl
theorem Zrl:Zl prog 155:=Zt Tryz.func155 rfl rfl
theorem Zoj:Zl prog 94:=Zt Tryz.func94 rfl rfl
theorem Zf7:ZsJ prog 53 8:=⟨(#[.string ⟨#[]⟩,.bool false,.slice none 0 0,.slice none 0 0,.slice none 0 0,.slice none 0 0,.slice none 0 0,.slice none 0 0]),rfl,by kernel_rfl⟩
theorem ZrL:Zl prog 100:=Zt Tryz.func100 rfl rfl
theorem ZrK:Zl prog 102:=Zt Tryz.func102 rfl rfl
theorem ZrJ:Zl prog 103:=Zt Tryz.func103 rfl rfl
theorem ZrH:Zl prog 106:=Zt Tryz.func106 rfl rfl
theorem ZrI:Zl prog 105:=Zt Tryz.func105 rfl rfl
theorem XS:prog.underlying 23=some (.slice 53):=by kernel_rfl
theorem Zue:Zl prog 65:=Zt Tryz.func65 rfl rfl
theorem Zud:Zl prog 66:=Zt Tryz.func66 rfl rfl
theorem Zm7:QA prog 147:=fun w=>by kernel_rfl
theorem ZY:ZlW prog 147 9 4 keyS.kind:=⟨by kernel_rfl,by kernel_rfl⟩
theorem Yi:Zjo prog 4 (.bool false):=⟨(.bool false),fun w=>by kernel_rfl,fun S w=>Rel.of_lit _⟩
theorem ZiX:Yz prog 151 1 1:=fun b off w=>by kernel_rfl
theorem Zeu:QA prog 145:=fun w=>by kernel_rfl
theorem Zd1:Zl prog 134:=Zt Tryz.func134 rfl rfl
theorem Zuk:Zl prog 59:=Zt Tryz.func59 rfl rfl
theorem Zop:Zl prog 58:=Zt Tryz.func58 rfl rfl
theorem YV:prog.underlying 67=some (.slice 3):=by kernel_rfl
theorem ZP:YE prog 67 3 1:=⟨by kernel_rfl,fun w=>by kernel_rfl⟩
theorem ZiF:QA prog 3:=fun w=>by kernel_rfl
theorem Zt5:Zl prog 93:=Zt Tryz.func93 rfl rfl
theorem Zoq:Zl prog 57:=Zt Tryz.func57 rfl rfl
theorem Zb9:ZsJ prog 60 3:=⟨(#[.string ⟨#[]⟩,.bool false,.slice none 0 0]),rfl,by kernel_rfl⟩
theorem YO:Qd prog 60 3:=fun w=>by kernel_rfl
theorem ZkR:ZgW prog 60 3:=⟨(.agg #[.string ⟨#[]⟩,.bool false,.slice none 0 0]),fun w=>by kernel_rfl,rfl,by simp[Value.cells,Value.oneCell']⟩
theorem ZqN:Zl prog 233:=Zt Tryz.func233 rfl rfl
theorem YF:Qd prog 173 2:=fun w=>by kernel_rfl
theorem Zd6:ZgW prog 173 2:=⟨(.agg #[.string ⟨#[]⟩,.string ⟨#[]⟩]),fun w=>by kernel_rfl,rfl,by simp[Value.cells,Value.oneCell']⟩
theorem Zkw:Zl prog 215:=Zt Tryz.func215 rfl rfl
theorem ZgH:Zl prog 15:=Zt Tryz.func15 rfl rfl
theorem ZqU:Zl prog 218:=Zt Tryz.func218 rfl rfl
theorem ZqV:Zl prog 217:=Zt Tryz.func217 rfl rfl
theorem ZqW:Zl prog 216:=Zt Tryz.func216 rfl rfl
theorem Zrq:Zl prog 147:=Zt Tryz.func147 rfl rfl
theorem Zrr:Zl prog 146:=Zt Tryz.func146 rfl rfl
theorem Zrs:Zl prog 145:=Zt Tryz.func145 rfl rfl
theorem YM:Zjp prog 60 [.lit (.string ⟨#[]⟩),.lit (.bool false),.sl []]:=⟨(.agg #[.string ⟨#[]⟩,.bool false,.slice none 0 0]),fun w=>by kernel_rfl,fun S w=>(show RdL S w [.lit (.string ⟨#[]⟩),.lit (.bool false),.sl []] [.string ⟨#[]⟩,.bool false,.slice none 0 0]from⟨.lit _ nzl,.lit _ True.intro,.nil _ _ nzl,trivial⟩)⟩
theorem Zom:Zl prog 71:=Zt Tryz.func71 rfl rfl
theorem Zmz:Qd prog 22 1:=fun w=>by kernel_rfl
theorem Zrb:Zl prog 189:=Zt Tryz.func189 rfl rfl
theorem Ze0:Zl prog 28:=Zt Tryz.func28 rfl rfl
theorem Zcc:Zjp prog 274 ((List.replicate 256 (0:UInt8)).map u8D):=Zo1 (.agg (Array.replicate 256 (.int .u8 0))) (fun w=>by kernel_rfl) (by simp[Value.cells])
theorem Zbl:prog.underlying 3=some (.int .i64):=by kernel_rfl
theorem Zmd:prog.underlying 5=some (.int .u8):=by kernel_rfl
theorem XK:ArrT prog 274 5 256:=⟨by kernel_rfl,fun w=>by kernel_rfl,by decide⟩
theorem ZdN:Qd prog 5 1:=fun w=>by kernel_rfl
theorem Ze9:XZ prog 274 256:=⟨fun w=>by kernel_rfl,fun w=>by kernel_rfl⟩
theorem Zdk:Qd prog 274 256:=fun w=>by kernel_rfl
theorem ZkW:prog.underlying 237=some (.slice 5):=by kernel_rfl
theorem Zbe:YE prog 237 5 1:=⟨by kernel_rfl,fun w=>by kernel_rfl⟩
theorem one_5:QA prog 5:=fun w=>by kernel_rfl
theorem ZqO:Zl prog 231:=Zt Tryz.func231 rfl rfl
theorem ZqY:Zl prog 213:=Zt Tryz.func213 rfl rfl
theorem ZqX:Zl prog 214:=Zt Tryz.func214 rfl rfl
theorem zero_5:ZdI prog 5:=⟨.int .u8 0,fun w=>by kernel_rfl⟩
theorem ZkE:Zl prog 186:=Zt Tryz.func186 rfl rfl
theorem ZlZ:ZgW prog 5 1:=⟨(.int .u8 0),fun w=>by kernel_rfl,rfl,by simp[Value.cells,Value.oneCell']⟩
theorem Zks:Zl prog 236:=Zt Tryz.func236 rfl rfl
theorem ZgJ:Zl prog 133:=Zt Tryz.func133 rfl rfl
theorem ZqL:Zl prog 237:=Zt Tryz.func237 rfl rfl
theorem Zkt:Zl prog 235:=Zt Tryz.func235 rfl rfl
theorem ZaY:prog.underlying 292=some (.array 10 291):=by kernel_rfl
theorem Zbn:Qd prog 291 4:=fun w=>by kernel_rfl
theorem Zii:XZ prog 291 4:=⟨fun w=>by kernel_rfl,fun w=>by kernel_rfl⟩
theorem Zcb:Zjp prog 291 [.lit (.string ⟨#[]⟩),.lit (.bool false),.lit (.int .i64 0),.lit (.int .i64 0)]:=⟨(.agg #[.string ⟨#[]⟩,.bool false,.int .i64 0,.int .i64 0]),fun w=>by kernel_rfl,fun S w=>(show RdL S w [.lit (.string ⟨#[]⟩),.lit (.bool false),.lit (.int .i64 0),.lit (.int .i64 0)] [.string ⟨#[]⟩,.bool false,.int .i64 0,.int .i64 0]from⟨.lit _ nzl,.lit _ True.intro,.lit _ True.intro,.lit _ True.intro,trivial⟩)⟩
theorem ZgI:Zl prog 135:=Zt Tryz.func135 rfl rfl
theorem ZiU:Yz prog 255 2 2:=fun b off w=>by kernel_rfl
theorem ZiT:Yz prog 255 3 3:=fun b off w=>by kernel_rfl
theorem ZqR:Zl prog 221:=Zt Tryz.func221 rfl rfl
theorem ZaX:prog.underlying 256=some (.slice 255):=by kernel_rfl
theorem Zah:YE prog 256 255 4:=⟨by kernel_rfl,fun w=>by kernel_rfl⟩
theorem ZqM:Zl prog 234:=Zt Tryz.func234 rfl rfl
theorem ZiS:Yz prog 291 0 0:=fun b off w=>by kernel_rfl
theorem ZqS:Zl prog 220:=Zt Tryz.func220 rfl rfl
theorem ZqT:Zl prog 219:=Zt Tryz.func219 rfl rfl
theorem Zl9:ZsJ prog 255 4:=⟨(#[.int .i64 0,.string ⟨#[]⟩,.slice none 0 0,.slice none 0 0]),rfl,by kernel_rfl⟩
theorem ZqQ:Zl prog 222:=Zt Tryz.func222 rfl rfl
theorem Zjh:ZbO prog 255 4:=⟨#[.int .i64 0,.string ⟨#[]⟩,.slice none 0 0,.slice none 0 0],rfl,fun i=>(#[(0,1),(1,1),(2,1),(3,1)]:Array (Nat×Nat))[i]?,fun j hj=>by rcases j with _ | _ | _ | _ | j<;>first | rfl | omega,fun parts=>by kernel_rfl⟩
theorem ZoW:ZdI prog 255:=⟨.agg #[.int .i64 0,.string ⟨#[]⟩,.slice none 0 0,.slice none 0 0],fun w=>by kernel_rfl⟩
theorem Zq5:Zl prog 195:=Zt Tryz.func195 rfl rfl
theorem ZiW:Yz prog 151 2 2:=fun b off w=>by kernel_rfl
theorem ZeL:Yz prog 198 1 1:=fun b off w=>by kernel_rfl
theorem ZiG:QA prog 149:=fun w=>by kernel_rfl
theorem Q7:ZlW prog 149 9 9 keyS.kind:=⟨by kernel_rfl,by kernel_rfl⟩
theorem Zd7:Zjo prog 9 (.str default):=⟨(.string ⟨#[]⟩),fun w=>by kernel_rfl,fun S w=>(show Rel S w (.str ⟨#[]⟩) _ from Rel.of_lit _ nzl)⟩
theorem ZiV:Yz prog 151 4 4:=fun b off w=>by kernel_rfl
theorem QU:Yz prog 151 3 3:=fun b off w=>by kernel_rfl
theorem Zet:QA prog 148:=fun w=>by kernel_rfl
theorem X4:ZlW prog 148 9 60 keyS.kind:=⟨by kernel_rfl,by kernel_rfl⟩
theorem Zat:Zjo prog 60 (.agg (hyC default)):=⟨(.agg #[.string ⟨#[]⟩,.bool false,.slice none 0 0]),fun w=>by kernel_rfl,fun S w=>(show Rel S w (.agg [.lit (.string ⟨#[]⟩),.lit (.bool false),.sl []]) _ from(by simp only[Rel];exact⟨[.string ⟨#[]⟩,.bool false,.slice none 0 0],rfl,.lit _ nzl,.lit _ True.intro,.nil _ _ nzl,trivial⟩))⟩
theorem ZkD:Zl prog 188:=Zt Tryz.func188 rfl rfl
theorem ZkG:Zl prog 138:=Zt Tryz.func138 rfl rfl
theorem Zq9:Zl prog 191:=Zt Tryz.func191 rfl rfl
theorem Zra:Zl prog 190:=Zt Tryz.func190 rfl rfl
theorem Zg6:prog.underlying 147=some (.map 9 4):=by kernel_rfl
theorem Xo:Zjp prog 173 [.lit (.string ⟨#[]⟩),.lit (.string ⟨#[]⟩)]:=⟨(.agg #[.string ⟨#[]⟩,.string ⟨#[]⟩]),fun w=>by kernel_rfl,fun S w=>(show RdL S w [.lit (.string ⟨#[]⟩),.lit (.string ⟨#[]⟩)] [.string ⟨#[]⟩,.string ⟨#[]⟩]from⟨.lit _ nzl,.lit _ nzl,trivial⟩)⟩
theorem Zq8:Zl prog 192:=Zt Tryz.func192 rfl rfl
theorem Zq6:Zl prog 194:=Zt Tryz.func194 rfl rfl
theorem Zq7:Zl prog 193:=Zt Tryz.func193 rfl rfl
theorem Zrw:Zl prog 141:=Zt Tryz.func141 rfl rfl
theorem Zea:prog.underlying 249=some (.slice 50):=by kernel_rfl
theorem Qy:YE prog 249 50 1:=⟨by kernel_rfl,fun w=>by kernel_rfl⟩
theorem Zrc:Zl prog 187:=Zt Tryz.func187 rfl rfl
theorem Zg5:prog.underlying 149=some (.map 9 9):=by kernel_rfl
theorem Zrx:Zl prog 140:=Zt Tryz.func140 rfl rfl
theorem Zru:Zl prog 143:=Zt Tryz.func143 rfl rfl
theorem Zji:ZbO prog 198 2:=⟨#[.map none,.map none],rfl,fun i=>(#[(0,1),(1,1)]:Array (Nat×Nat))[i]?,fun j hj=>by rcases j with _ | _ | j<;>first | rfl | omega,fun parts=>by kernel_rfl⟩
theorem Zil:Zjp prog 198 [.lit (.map none),.lit (.map none)]:=⟨(.agg #[.map none,.map none]),fun w=>by kernel_rfl,fun S w=>(show RdL S w [.lit (.map none),.lit (.map none)] [.map none,.map none]from⟨.lit _ True.intro,.lit _ True.intro,trivial⟩)⟩
theorem Zk3:Qd prog 198 2:=fun w=>by kernel_rfl
theorem Zfw:ZgW prog 50 1:=⟨(.slice none 0 0),fun w=>by kernel_rfl,rfl,by simp[Value.cells,Value.oneCell']⟩
theorem ZkH:Zl prog 136:=Zt Tryz.func136 rfl rfl
theorem Zrz:Zl prog 137:=Zt Tryz.func137 rfl rfl
theorem Zry:Zl prog 139:=Zt Tryz.func139 rfl rfl
theorem Zok:Zl prog 92:=Zt Tryz.func92 rfl rfl
theorem Zrv:Zl prog 142:=Zt Tryz.func142 rfl rfl
theorem Zja:Zl prog 27:=Zt Tryz.func27 rfl rfl
theorem ZkI:Zl prog 107:=Zt Tryz.func107 rfl rfl
theorem Zrt:Zl prog 144:=Zt Tryz.func144 rfl rfl
theorem Zjj:ZbO prog 151 5:=⟨#[.map none,.map none,.map none,.map none,.map none],rfl,fun i=>(#[(0,1),(1,1),(2,1),(3,1),(4,1)]:Array (Nat×Nat))[i]?,fun j hj=>by rcases j with _ | _ | _ | _ | _ | j<;>first | rfl | omega,fun parts=>by kernel_rfl⟩
theorem Zt7:Zl prog 90:=Zt Tryz.func90 rfl rfl
theorem Zt6:Zl prog 91:=Zt Tryz.func91 rfl rfl
theorem Zdf:prog.underlying 167=some (.slice 169):=by kernel_rfl
theorem Xi:YE prog 167 169 2:=⟨by kernel_rfl,fun w=>by kernel_rfl⟩
theorem Zma:ZsJ prog 169 2:=⟨(#[.string ⟨#[]⟩,.slice none 0 0]),rfl,by kernel_rfl⟩
theorem ZaF:ZlW prog 215 9 22 keyS.kind:=⟨by kernel_rfl,by kernel_rfl⟩
theorem Zb7:Zjo prog 22 (.rd (Zi default)):=⟨(.slice none 0 0),fun w=>by kernel_rfl,fun S w=>(show Rel S w (.rd (.sl [])) _ from(by simp only[Rel];exact .nil _ _ nzl))⟩
theorem ZcF:Zl prog 157:=Zt Tryz.func157 rfl rfl
theorem Q8:ZlW prog 146 9 4 keyS.kind:=⟨by kernel_rfl,by kernel_rfl⟩
theorem ZgG:Zl prog 156:=Zt Tryz.func156 rfl rfl
theorem Zrk:Zl prog 158:=Zt Tryz.func158 rfl rfl
theorem ZjF:Qd prog 9 1:=fun w=>by kernel_rfl
theorem Zes:QA prog 36:=fun w=>by kernel_rfl
theorem Zmx:Qd prog 36 1:=fun w=>by kernel_rfl
theorem ZbA:ZbO prog 38 2:=⟨#[.int .i64 0,.int .i64 0],rfl,fun i=>(#[(0,1),(1,1)]:Array (Nat×Nat))[i]?,fun j hj=>by rcases j with _ | _ | j<;>first | rfl | omega,fun parts=>by kernel_rfl⟩
theorem ZjG:Qd prog 4 1:=fun w=>by kernel_rfl
theorem XF:Qd prog 38 2:=fun w=>by kernel_rfl
theorem Zkv:Zl prog 226:=Zt Tryz.func226 rfl rfl
theorem ZdZ:Zl prog 206:=Zt Tryz.func206 rfl rfl
theorem Zg2:ZgW prog 3 1:=⟨(.int .i64 0),fun w=>by kernel_rfl,rfl,by simp[Value.cells,Value.oneCell']⟩
theorem Zkz:Zl prog 205:=Zt Tryz.func205 rfl rfl
theorem Zdg:prog.underlying 265=some (.int .u64):=by kernel_rfl
theorem ZqZ:Zl prog 203:=Zt Tryz.func203 rfl rfl
theorem ZkA:Zl prog 204:=Zt Tryz.func204 rfl rfl
theorem Zb3:ZbO prog 173 2:=⟨#[.string ⟨#[]⟩,.string ⟨#[]⟩],rfl,fun i=>(#[(0,1),(1,1)]:Array (Nat×Nat))[i]?,fun j hj=>by rcases j with _ | _ | j<;>first | rfl | omega,fun parts=>by kernel_rfl⟩
theorem ZkB:Zl prog 199:=Zt Tryz.func199 rfl rfl
theorem Zq2:Zl prog 200:=Zt Tryz.func200 rfl rfl
theorem Zq1:Zl prog 201:=Zt Tryz.func201 rfl rfl
theorem Zrg:Zl prog 162:=Zt Tryz.func162 rfl rfl
theorem Zo2:Zjp prog 4 [.lit (.bool false)]:=⟨(.bool false),fun w=>by kernel_rfl,fun S w=>(show RdL S w [.lit (.bool false)] [.bool false]from⟨.lit _ True.intro,trivial⟩)⟩
theorem Zrj:Zl prog 159:=Zt Tryz.func159 rfl rfl
theorem Zmb:Zjp prog 51 [.sl []]:=⟨(.slice none 0 0),fun w=>by kernel_rfl,fun S w=>(show RdL S w [.sl []] [.slice none 0 0]from⟨.nil _ _ nzl,trivial⟩)⟩
theorem Zmv:Qd prog 51 1:=fun w=>by kernel_rfl
theorem Zri:Zl prog 160:=Zt Tryz.func160 rfl rfl
theorem Zq0:Zl prog 202:=Zt Tryz.func202 rfl rfl
theorem Zrh:Zl prog 161:=Zt Tryz.func161 rfl rfl
theorem Ze4:ZbO prog 169 2:=⟨#[.string ⟨#[]⟩,.slice none 0 0],rfl,fun i=>(#[(0,1),(1,1)]:Array (Nat×Nat))[i]?,fun j hj=>by rcases j with _ | _ | j<;>first | rfl | omega,fun parts=>by kernel_rfl⟩
theorem Zjt:ZdI prog 169:=⟨.agg #[.string ⟨#[]⟩,.slice none 0 0],fun w=>by kernel_rfl⟩
theorem Ze7:Zjs prog 167 169 2 40:=ZuR (.agg #[.string ⟨#[]⟩,.slice none 0 0]) (by kernel_rfl) (by kernel_rfl) rfl dz (fun w=>by kernel_rfl)
theorem ZrF:Zl prog 109:=Zt Tryz.func109 rfl rfl
theorem ZrE:Zl prog 110:=Zt Tryz.func110 rfl rfl
theorem ZrD:Zl prog 111:=Zt Tryz.func111 rfl rfl
theorem Zge:Qd prog 3 1:=fun w=>by kernel_rfl
theorem Zf9:prog.underlying 165=some (.array 2 50):=by kernel_rfl
theorem Zmw:Qd prog 50 1:=fun w=>by kernel_rfl
theorem Zub:Zl prog 70:=Zt Tryz.func70 rfl rfl
theorem Zuh:Zl prog 62:=Zt Tryz.func62 rfl rfl
theorem Zo3:Zjp prog 3 [.lit (.int .i64 0)]:=⟨(.int .i64 0),fun w=>by kernel_rfl,fun S w=>(show RdL S w [.lit (.int .i64 0)] [.int .i64 0]from⟨.lit _ True.intro,trivial⟩)⟩
theorem Zbk:Zjp prog 38 [.lit (.int .i64 0),.lit (.int .i64 0)]:=⟨(.agg #[.int .i64 0,.int .i64 0]),fun w=>by kernel_rfl,fun S w=>(show RdL S w [.lit (.int .i64 0),.lit (.int .i64 0)] [.int .i64 0,.int .i64 0]from⟨.lit _ True.intro,.lit _ True.intro,trivial⟩)⟩
theorem Zad:XZ prog 38 2:=⟨fun w=>by kernel_rfl,fun w=>by kernel_rfl⟩
theorem Zot:Zl prog 26:=Zt Tryz.func26 rfl rfl
theorem Zuw:Zl prog 29:=Zt Tryz.func29 rfl rfl
theorem Zux:Zl prog 25:=Zt Tryz.func25 rfl rfl
theorem Zuy:Zl prog 24:=Zt Tryz.func24 rfl rfl
theorem ZcE:Zl prog 163:=Zt Tryz.func163 rfl rfl
theorem Zrf:Zl prog 164:=Zt Tryz.func164 rfl rfl
theorem Zor:Zl prog 43:=Zt Tryz.func43 rfl rfl
theorem Zku:Zl prog 227:=Zt Tryz.func227 rfl rfl
theorem Zky:Zl prog 207:=Zt Tryz.func207 rfl rfl
theorem Zkx:Zl prog 208:=Zt Tryz.func208 rfl rfl
theorem Zre:Zl prog 165:=Zt Tryz.func165 rfl rfl
theorem Zrd:Zl prog 166:=Zt Tryz.func166 rfl rfl
theorem ZrC:Zl prog 112:=Zt Tryz.func112 rfl rfl
theorem ZrB:Zl prog 113:=Zt Tryz.func113 rfl rfl
theorem ZrA:Zl prog 114:=Zt Tryz.func114 rfl rfl
theorem Zum:Zl prog 48:=Zt Tryz.func48 rfl rfl
theorem Zul:Zl prog 49:=Zt Tryz.func49 rfl rfl
theorem Zt8:Zl prog 74:=Zt Tryz.func74 rfl rfl
theorem ZlY:ZdI prog 3:=⟨.int .i64 0,fun w=>by kernel_rfl⟩
theorem ZgT:Zjs prog 67 3 1 8:=ZuR (.int .i64 0) (by kernel_rfl) (by kernel_rfl) rfl dz (fun w=>by kernel_rfl)
theorem Zur:Zl prog 37:=Zt Tryz.func37 rfl rfl
set_option maxRecDepth 100000 in
theorem tb_one:∀ t∈[3,4,5,9,22,23,26,32,36,50,51,64,67,139,141,142,145,147,148,149,167,215,270,272],QA prog t:=by
 intro t h
 simp only[List.mem_cons,List.not_mem_nil,or_false]at h
 rcases h with rfl | rfl | rfl | rfl | rfl | rfl | rfl | rfl | rfl | rfl | rfl | rfl | rfl | rfl | rfl | rfl | rfl | rfl | rfl | rfl | rfl | rfl | rfl | rfl<;>exact fun w=>by kernel_rfl
set_option maxRecDepth 100000 in
theorem tb_agg:∀ q∈[(25,3),(28,1),(38,2),(53,8),(60,3),(69,2),(121,2),(132,2),(169,2),(173,2),(193,4),(198,2),(255,4),(291,4)],XZ prog q.1 q.2:=by
 intro q h
 simp only[List.mem_cons,List.not_mem_nil,or_false]at h
 rcases h with rfl | rfl | rfl | rfl | rfl | rfl | rfl | rfl | rfl | rfl | rfl | rfl | rfl | rfl<;>exact⟨fun w=>by kernel_rfl,fun w=>by kernel_rfl⟩
set_option maxRecDepth 100000 in
theorem tb_fld:∀ q∈[(25,0,0),(25,1,1),(25,2,2),(28,0,0),(38,0,0),(38,1,1),(53,0,0),(53,1,1),(53,2,2),(53,3,3),(53,4,4),(53,5,5),(53,6,6),(53,7,7),(60,0,0),(60,1,1),(60,2,2),(69,0,0),(69,1,1),(80,0,0),(80,1,3),(80,2,4),(121,0,0),(121,1,1),(132,0,0),(132,1,1),(144,0,0),(144,1,3),(144,2,11),(144,3,12),(144,4,13),(144,5,14),(144,6,15),(144,7,16),(144,8,17),(151,0,0),(151,1,1),(151,2,2),(151,3,3),(151,4,4),(169,0,0),(169,1,1),(173,0,0),(173,1,1),(193,0,0),(193,1,1),(193,2,2),(193,3,3),(198,0,0),(198,1,1),(255,0,0),(255,1,1),(255,2,2),(255,3,3),(291,0,0),(291,1,1),(291,2,2),(291,3,3)],Yz prog q.1 q.2.1 q.2.2:=by
 intro q h
 simp only[List.mem_cons,List.not_mem_nil,or_false]at h
 rcases h with rfl | rfl | rfl | rfl | rfl | rfl | rfl | rfl | rfl | rfl | rfl | rfl | rfl | rfl | rfl | rfl | rfl | rfl | rfl | rfl | rfl | rfl | rfl | rfl | rfl | rfl | rfl | rfl | rfl | rfl | rfl | rfl | rfl | rfl | rfl | rfl | rfl | rfl | rfl | rfl | rfl | rfl | rfl | rfl | rfl | rfl | rfl | rfl | rfl | rfl | rfl | rfl | rfl | rfl | rfl | rfl | rfl | rfl<;>exact fun b off w=>by kernel_rfl
def tb:Tbl prog where
 one:=ZtI [3,4,5,9,22,23,26,32,36,50,51,64,67,139,141,142,145,147,148,149,167,215,270,272]
 agg:=lk1 [(25,3),(28,1),(38,2),(53,8),(60,3),(69,2),(121,2),(132,2),(169,2),(173,2),(193,4),(198,2),(255,4),(291,4)]
 fld:=lk2 [(25,0,0),(25,1,1),(25,2,2),(28,0,0),(38,0,0),(38,1,1),(53,0,0),(53,1,1),(53,2,2),(53,3,3),(53,4,4),(53,5,5),(53,6,6),(53,7,7),(60,0,0),(60,1,1),(60,2,2),(69,0,0),(69,1,1),(80,0,0),(80,1,3),(80,2,4),(121,0,0),(121,1,1),(132,0,0),(132,1,1),(144,0,0),(144,1,3),(144,2,11),(144,3,12),(144,4,13),(144,5,14),(144,6,15),(144,7,16),(144,8,17),(151,0,0),(151,1,1),(151,2,2),(151,3,3),(151,4,4),(169,0,0),(169,1,1),(173,0,0),(173,1,1),(193,0,0),(193,1,1),(193,2,2),(193,3,3),(198,0,0),(198,1,1),(255,0,0),(255,1,1),(255,2,2),(255,3,3),(291,0,0),(291,1,1),(291,2,2),(291,3,3)]
 h1:=fun t h=>tb_one t (Zkd h)
 h2:=fun t k h=>tb_agg (t,k+1) (Znm h)
 h3:=fun s f d h=>tb_fld (s,f,d) (Znl h)
 mix:=YZ
section
variable {J:WP} (hJ:Stab J)
include hJ
theorem ZbF (xs:List BA) (s:BA)  :Fn prog J 95 [.rd (Zi xs),.str s] (.bool (decide (s∈xs))):=by
 refine fE Tryz.func95 fun S w0 hS hJ0=>?_
 clear hJ0
 refine ln 0 fun hl1=>?_
 refine qs tb hJ [0,1] [_] U2 ?_
 refine Zd (qs tb hJ [0,1,1000] [_] U3 ?_)
 refine Zc (lp (ι:=Nat) (fun k=>(k≤xs.length)∧(∀ j,j<k→ge xs j≠s)) (fun k=>[(5,.int (k:Nat))]) (fun k=>xs.length-k) [0,1,2] U2 0 (show(0≤xs.length)∧(∀ j,j<0→ge xs j≠s)from by first | trivial | grind) ?_)
 rintro k ⟨f1_1,f1_2⟩
 refine Zd (hqs tb hJ [0,1,2,1003] [_,_,.int (xs.length:Nat),_] [2] U4 rfl ⟨ZX Zs,trivial⟩ ?_)
 refine cj 3 (fun hb1=>?_) fun hb1=>?_
 ·
  try simp at hb1
  refine Za (nx (Zd (Zc (hqs tb hJ [0,1,2,1005] [_,_,.ptr [lS (ge xs k)],_,_,_] [2] U4 rfl ⟨iIx Zf,trivial⟩ ?_))))
  refine cj 3 (fun hb2=>?_) fun hb2=>?_
  ·
   try simp at hb2
   refine qs tb hJ [1000] [_] [_] ?_
   exact tRn 0 (hE:=eB (by grind[Zj]))
  ·
   try simp at hb2
   refine Za (nx (hqp tb hJ [0,1,1002] [_,.int (k+1:Nat),_] [1] U3 rfl ⟨Yf,trivial⟩ ?_))
   exact lpE (k+1) [0,1,2] ⟨by first | omega | (simp;omega) | grind[Zj],by first | omega | (simp;omega) | grind[Zj]⟩
 ·
  try simp at hb1
  refine Zp (nx (qs tb hJ [1000] [_] [_] ?_))
  exact tRn 0 (hE:=eB (by grind[Y5]))
theorem Zjd (xs ys:List BA)  :Fn prog J 197 [.rd (Zi xs),.rd (Zi ys)] (.bool (decide (xs=ys))):=by
 refine fE Tryz.func197 fun S w0 hS hJ0=>?_
 clear hJ0
 refine ln 0 fun hl1=>?_
 refine ln 1 fun hl2=>?_
 refine qs tb hJ [0,1] [_] U2 ?_
 refine Zd (hqs tb hJ [0,1,1004] [_,.int (xs.length:Nat),_,.int (ys.length:Nat),_] [1,3] U3 rfl ⟨ZX Zs,ZX Zs,trivial⟩ ?_)
 refine cj 2 (fun hb1=>?_) fun hb1=>?_
 ·
  try simp at hb1
  refine qs tb hJ [1000] [_] [_] ?_
  exact tRn 0 (hE:=eB (by first | rfl | grind[Zj]))
 ·
  try simp at hb1
  refine Za (nx (Zd (qs tb hJ [0,1,1000] [_] U3 ?_)))
  refine Zc (lp (ι:=Nat) (fun k=>(k≤xs.length)∧(∀ j,j<k→ge xs j=ge ys j)) (fun k=>[(5,.int (k:Nat))]) (fun k=>xs.length-k) [0,1,2] U2 0 (show(0≤xs.length)∧(∀ j,j<0→ge xs j=ge ys j)from by first | trivial | grind) ?_)
  rintro k ⟨f1_1,f1_2⟩
  refine Zd (hqs tb hJ [0,1,2,1003] [_,_,.int (xs.length:Nat),_] [2] U4 rfl ⟨ZX Zs,trivial⟩ ?_)
  refine cj 3 (fun hb2=>?_) fun hb2=>?_
  ·
   try simp at hb2
   refine Za (nx (Zd (Zc (hqs tb hJ [0,1,2,1008] [_,_,.ptr [lS (ge xs k)],_,_,_,.ptr [lS (ge ys k)],_,_] [2,6] U4 rfl ⟨iIx Zf,iIx Zf,trivial⟩ ?_))))
   refine cj 3 (fun hb3=>?_) fun hb3=>?_
   ·
    try simp at hb3
    refine qs tb hJ [1000] [_] [_] ?_
    exact tRn 0 (hE:=eB (by first | rfl | grind[Zj]))
   ·
    try simp at hb3
    refine Za (nx (hqp tb hJ [0,1,1002] [_,.int (k+1:Nat),_] [1] U3 rfl ⟨Yf,trivial⟩ ?_))
    exact lpE (k+1) [0,1,2] ⟨by first | omega | (simp;omega) | grind[Zj],by first | omega | (simp;omega) | grind[Zj]⟩
  ·
   try simp at hb2
   refine Zp (nx (qs tb hJ [1000] [_] [_] ?_))
   exact tRn 0 (hE:=eB (by have:=Zap (xs:=xs) (ys:=ys) oz (fun j hj=>f1_2 j oz);simp[this]))
theorem Ze1 (xs ys:List Pr)  :Fn prog J 153 [.rd (Xa xs),.rd (Xa ys)] (.bool (decide (xs=ys))):=by
 refine fE Tryz.func153 fun S w0 hS hJ0=>?_
 clear hJ0
 refine ln 0 fun hl1=>?_
 refine ln 1 fun hl2=>?_
 refine qs tb hJ [0,1] [_] U2 ?_
 refine Zd (hqs tb hJ [0,1,1004] [_,.int (xs.length:Nat),_,.int (ys.length:Nat),_] [1,3] U3 rfl ⟨ZX ZH,ZX ZH,trivial⟩ ?_)
 refine cj 2 (fun hb1=>?_) fun hb1=>?_
 ·
  try simp at hb1
  refine qs tb hJ [1000] [_] [_] ?_
  exact tRn 0 (hE:=eB (by first | rfl | grind[Zj]))
 ·
  try simp at hb1
  refine Za (nx (Zd (qs tb hJ [0,1,1000] [_] U3 ?_)))
  refine Zc (lp (ι:=Nat) (fun k=>(k≤xs.length)∧(∀ j,j<k→Zfe (ge xs j) (ge ys j)=true)) (fun k=>[(5,.int (k:Nat))]) (fun k=>xs.length-k) [0,1,2] U2 0 (show(0≤xs.length)∧(∀ j,j<0→Zfe (ge xs j) (ge ys j)=true)from by first | trivial | grind) ?_)
  rintro k ⟨f1_1,f1_2⟩
  refine Zd (hqs tb hJ [0,1,2,1003] [_,_,.int (xs.length:Nat),_] [2] U4 rfl ⟨ZX ZH,trivial⟩ ?_)
  refine cj 3 (fun hb2=>?_) fun hb2=>?_
  ·
   try simp at hb2
   refine Za (nx (Zd (Zc (hqs tb hJ [0,1,2,1008] [_,_,.ptr (prC (ge xs k)),_,_,_,.ptr (prC (ge ys k)),_,.bool (!(decide ((ge xs k).a=(ge ys k).a)&&decide ((ge xs k).b=(ge ys k).b)))] [2,6,8] U4 rfl ⟨iIx Zo,iIx Zo,fun _ _ _ hx hl _=>ZmF ZfX rfl (hl.dep 3 20 _ rfl rfl rfl rfl) (hl.dep 7 24 _ rfl rfl rfl rfl) hx,trivial⟩ ?_))))
   refine cj 3 (fun hb3=>?_) fun hb3=>?_
   ·
    try simp at hb3
    refine qs tb hJ [1000] [_] [_] ?_
    exact tRn 0 (hE:=eB (by symm;rw[decide_eq_false_iff_not];intro e;subst e;simp at hb3))
   ·
    try simp at hb3
    refine Za (nx (hqp tb hJ [0,1,1002] [_,.int (k+1:Nat),_] [1] U3 rfl ⟨Yf,trivial⟩ ?_))
    exact lpE (k+1) [0,1,2] ⟨by first | omega | (intro j hj;by_cases e:j=k;(subst e;simp[Zfe,hb3]);exact f1_2 j oz),by first | omega | (intro j hj;by_cases e:j=k;(subst e;simp[Zfe,hb3]);exact f1_2 j oz)⟩
  ·
   try simp at hb2
   refine Zp (nx (qs tb hJ [1000] [_] [_] ?_))
   exact tRn 0 (hE:=eB (by have:=Zap (xs:=xs) (ys:=ys) oz (fun j hj=>prEq_iff.1 (f1_2 j oz));simp[this]))
theorem Zjg (c:UInt8)  :Fn prog J 196 [.rd (.lit (.int .u8 (c.toNat:Int)))] (.bool (ZaO c)):=by
 refine fE Tryz.func196 fun S w0 hS hJ0=>?_
 clear hJ0
 refine qs tb hJ [0] [_] [_] ?_
 refine qs tb hJ [1006] U7 [_] ?_
 exact tRn 0 (hE:=eB (by first | rfl | grind[Zj]))
theorem ZrT (s:BA)  :Fn prog J 148 [.str s] (.bool (Zf6 s)):=by
 refine fE Tryz.func148 fun S w0 hS hJ0=>?_
 clear hJ0
 refine lnS 0 fun hl1=>?_
 refine qs tb hJ [0] [_] [_] ?_
 refine Zd (qs tb hJ [0,1000] [_] U2 ?_)
 refine Zc (lp (ι:=Nat) (fun k=>(k≤s.size)∧(∀ j,j<k→ZaO (bt s j)=true)) (fun k=>[(3,.int (k:Nat))]) (fun k=>s.size-k) [0,1] [_] 0 (show(0≤s.size)∧(∀ j,j<0→ZaO (bt s j)=true)from by first | trivial | grind) ?_)
 rintro k ⟨f1_1,f1_2⟩
 refine Zd (hqs tb hJ [0,1,1003] [_,_,.int (s.size:Nat),_] [2] U3 rfl ⟨Zqj Yj,trivial⟩ ?_)
 refine cj 2 (fun hb1=>?_) fun hb1=>?_
 ·
  try simp at hb1
  refine Za (nx (Zd (Zc (hqs tb hJ [0,1,1004] [_,_,.rd (.lit (.int .u8 ((ge s.data.toList k).toNat:Int))),.bool (ZaO (ge s.data.toList k)),_] [2,3] U3 rfl ⟨fun _ _ _ hx hl _=>Zht (i:=(k:Int)) Yj rfl (hl.dep 0 10 _ rfl rfl rfl rfl) (hl.dep 1 11 _ rfl rfl rfl rfl) nnn (ZcJ (s:=s) (k:=k) sfz) hx,iFn hS hJ (Zjg hJ (ge s.data.toList k)) Zq4,trivial⟩ ?_))))
  refine cj 2 (fun hb2=>?_) fun hb2=>?_
  ·
   try simp at hb2
   refine qs tb hJ [1000] [_] [_] ?_
   exact tRn 0 (hE:=eB ((ZoY hb1 hb2).symm))
  ·
   try simp at hb2
   refine Za (nx (hqp tb hJ [0,1002] [_,.int (k+1:Nat),_] [1] U2 rfl ⟨Yf,trivial⟩ ?_))
   exact lpE (k+1) [0,1] ⟨oz,ZG f1_2 hb2⟩
 ·
  try simp at hb1
  refine Zp (nx (qs tb hJ [1002] U3 [_] ?_))
  exact tRn 0 (hE:=eB ((Zl4 fun j hj=>f1_2 j oz).symm))
theorem Zf1 (s:BA)  :Fn prog J 94 [.str s] (.bool (Zga s)):=by
 refine fE Tryz.func94 fun S w0 hS hJ0=>?_
 clear hJ0
 refine lnS 0 fun hl1=>?_
 refine qs tb hJ [0] [_] [_] ?_
 refine Zd (qs tb hJ [0,1000] [_] U2 ?_)
 refine Zc (lp (ι:=Nat) (fun k=>(k≤s.size)∧(∀ j,j<k→¬ ((bt s j).toNat:Int)=36)) (fun k=>[(3,.int (k:Nat))]) (fun k=>s.size-k) [0,1] [_] 0 (show(0≤s.size)∧(∀ j,j<0→¬ ((bt s j).toNat:Int)=36)from by first | trivial | grind) ?_)
 rintro k ⟨f1_1,f1_2⟩
 refine Zd (hqs tb hJ [0,1,1003] [_,_,.int (s.size:Nat),_] [2] U3 rfl ⟨Zqj Yj,trivial⟩ ?_)
 refine cj 2 (fun hb1=>?_) fun hb1=>?_
 ·
  try simp at hb1
  refine Za (nx (Zd (Zc (hqs tb hJ [0,1,1003] [_,_,.rd (.lit (.int .u8 ((ge s.data.toList k).toNat:Int))),_] [2] U3 rfl ⟨fun _ _ _ hx hl _=>Zht (i:=(k:Int)) Yj rfl (hl.dep 0 10 _ rfl rfl rfl rfl) (hl.dep 1 11 _ rfl rfl rfl rfl) nnn (ZcJ (s:=s) (k:=k) sfz) hx,trivial⟩ ?_))))
  refine cj 2 (fun hb2=>?_) fun hb2=>?_
  ·
   try simp at hb2
   refine qs tb hJ [1000] [_] [_] ?_
   exact tRn 0 (hE:=eB ((ZsY hb1 hb2).symm))
  ·
   try simp at hb2
   refine Za (nx (hqp tb hJ [0,1002] [_,.int (k+1:Nat),_] [1] U2 rfl ⟨Yf,trivial⟩ ?_))
   exact lpE (k+1) [0,1] ⟨oz,ZG f1_2 hb2⟩
 ·
  try simp at hb1
  refine Zp (nx (hqs tb hJ [1007] [_,.bool (Zf6 s),_,_,.int (s.size:Nat),_,_,_] [1,4] [_] rfl ⟨iFn hS hJ (ZrT hJ s) Zrp,Zqj Yj,trivial⟩ ?_))
  exact tRn 0 (hE:=eB ((Zpd fun j hj=>f1_2 j oz).symm))
theorem Ze2 (s:BA)  :Fn prog J 96 [.str s] (.bool (ZdF s)):=by
 refine fE Tryz.func96 fun S w0 hS hJ0=>?_
 clear hJ0
 refine lnS 0 fun hl1=>?_
 refine qs tb hJ [0] [_] [_] ?_
 refine Zd (qs tb hJ [0,1000] [_] U2 ?_)
 refine Zc (lp (ι:=Nat) (fun k=>(k≤s.size)∧(∀ j,j<k→ZlU (bt s j)=false)) (fun k=>[(3,.int (k:Nat))]) (fun k=>s.size-k) [0,1] [_] 0 (show(0≤s.size)∧(∀ j,j<0→ZlU (bt s j)=false)from by first | trivial | grind) ?_)
 rintro k ⟨f1_1,f1_2⟩
 refine Zd (hqs tb hJ [0,1,1003] [_,_,.int (s.size:Nat),_] [2] U3 rfl ⟨Zqj Yj,trivial⟩ ?_)
 refine cj 2 (fun hb1=>?_) fun hb1=>?_
 ·
  try simp at hb1
  refine Za (nx (Zd (Zc (hqs tb hJ [0,1,1003] [_,_,.rd (.lit (.int .u8 ((ge s.data.toList k).toNat:Int))),_] [2] U3 rfl ⟨fun _ _ _ hx hl _=>Zht (i:=(k:Int)) Yj rfl (hl.dep 0 12 _ rfl rfl rfl rfl) (hl.dep 1 13 _ rfl rfl rfl rfl) nnn (ZcJ (s:=s) (k:=k) sfz) hx,trivial⟩ ?_))))
  refine qs tb hJ [0,1,2,1014] U15 U4 ?_
  refine qs tb hJ [0,1,1021] [_,_,_,_,_,_,_,_,_,_,_,_,_,_,_,_,_,_,_,_,_,_] U3 ?_
  refine cj 2 (fun hb2=>?_) fun hb2=>?_
  ·
   refine qs tb hJ [1000] [_] [_] ?_
   exact tRn 0 (hE:=eB ((ZtC hb1 hb2).symm))
  ·
   refine Za (nx (hqp tb hJ [0,1002] [_,.int (k+1:Nat),_] [1] U2 rfl ⟨Yf,trivial⟩ ?_))
   exact lpE (k+1) [0,1] ⟨oz,ZG f1_2 hb2⟩
 ·
  try simp at hb1
  refine Zp (nx (hqs tb hJ [1007] (V4 [.int (s.size:Nat),_,_,_]) [4] [_] rfl ⟨Zqj Yj,trivial⟩ ?_))
  exact tRn 0 (hE:=eB ((Zqf fun j hj=>f1_2 j oz).symm))
end
section
variable {J:WP} (hJ:Stab J)
include hJ
theorem ZrU (f:Fr) (b:(f.hyps.length+f.dummies.length)*48≤140737488351232):Fn prog J 99 [.agg (frC f)] (.rd (Xl (f.hyps++f.dummies))):=by
 refine fE Tryz.func99 fun S w0 hS hJ0=>?_
 refine tw Z6 (ZE tb hJ [1000] [.ptr (frC f),_] [0] [_] rfl ⟨iBo hS hJ,trivial⟩ ?_)
 refine Zd (fun a w h=>ZaA (id:=1) (t:=50) (e:=60) (size:=3) (bytes:=48) (i0:=0) (fol:=7) (d:=2) (ch:=[(3,(f.hyps.map hyC)),(6,(f.dummies.map hyC))]) (fun ix'=>([.any,.ptr [Xl f.hyps,Xa f.apart,Zi f.text,Xl f.dummies,Xa f.wide,Zi f.proof],.rd (Xl f.hyps),.any,.ptr [Xl f.dummies,Xa f.wide,Zi f.proof],.rd (Xl f.dummies),.any,.any]:List AV).getD ix' .any) (fun _=>true) [] ((f.hyps++f.dummies).map hyC) yz ?r1_1 hJ hJ0 h YZ rfl rfl rfl rfl ⟨?_,?_,?_,?_,?_,?_,?_,?_,trivial⟩ trivial (fun v1=>?n1_1))
 case r1_1=>
  refine Row.mk' Qq ⟨_,rfl,rfl,rfl,rfl,rfl⟩ ⟨?x1_1_0,?x1_1_1,trivial⟩ ⟨_,_,_,_,rfl,rfl,rfl,rfl,rfl,rfl,rfl,rfl,rfl⟩ rfl rfl rfl
  case x1_1_0=>exact⟨_,_,_,_,rfl,rfl,rfl,rfl,rfl,rfl,rfl,rfl,XB (f:=hyC) (fun _=>rfl),(by have hm:maxLen=9223372036854775807:=rfl;simp[upto];first | omega | (simp;omega) | grind[Zj]),(by have hm:maxLen=9223372036854775807:=rfl;simp[upto];first | omega | (simp;omega) | grind[Zj]),fun _ _ _ _ _ hl=>(hl.dep 2 5 _ rfl rfl rfl rfl)⟩
  case x1_1_1=>exact⟨_,_,_,_,rfl,rfl,rfl,rfl,rfl,rfl,rfl,rfl,XB (f:=hyC) (fun _=>rfl),(by have hm:maxLen=9223372036854775807:=rfl;simp[upto];first | omega | (simp;omega) | grind[Zj]),(by have hm:maxLen=9223372036854775807:=rfl;simp[upto];first | omega | (simp;omega) | grind[Zj]),fun _ _ _ _ _ hl=>(hl.dep 5 8 _ rfl rfl rfl rfl)⟩
 exact fun h=>Zr rfl h
 exact fun _ _=>⟨rfl,fun _ _ _ hx hl _=>Z4 Zc8 rfl (hl.env 0 1 _ rfl rfl) hx⟩
 exact fun _ _=>⟨rfl,fun _ _ _ hx hl _=>ZN ZhD rfl (hl.dep 1 4 _ rfl rfl rfl rfl) hx⟩
 exact fun h=>Zr rfl h
 exact fun _ _=>⟨rfl,fun _ _ _ hx hl _=>Z4 ZlB rfl (hl.env 0 1 _ rfl rfl) hx⟩
 exact fun _ _=>⟨rfl,fun _ _ _ hx hl _=>ZN ZhD rfl (hl.dep 4 7 _ rfl rfl rfl rfl) hx⟩
 exact fun h=>Zr rfl h
 exact fun h=>Zr rfl h
 clear a w h
 exact nx (tw (fun h=>ZF hS h (m:=0) (s:=2) rfl) (tRo 0 (hE:=rfl)))
theorem Zoz (s:BA)  :Fn prog J 103 [.str s] (.bool (YY s)):=by
 refine fE Tryz.func103 fun S w0 hS hJ0=>?_
 clear hJ0
 refine lnS 0 fun hl1=>?_
 refine qs tb hJ [0] [_] [_] ?_
 refine Zd (qs tb hJ [0,1005] U6 U2 ?_)
 refine cj 1 (fun hb1=>?_) fun hb1=>?_
 ·
  try simp at hb1
  refine qs tb hJ [1000] [_] [_] ?_
  exact tRn 0 (hE:=eB ((Zle hb1).symm))
 ·
  try simp at hb1
  refine Za (nx (Zd (qs tb hJ [0,1000] [_] U2 ?_)))
  refine Zc (lp (ι:=Nat) (fun k=>(k≤s.size)∧(∀ j,j<k→ZoU s j=false)) (fun k=>[(3,.int (k:Nat))]) (fun k=>s.size-k) [0,1] [_] 0 (show(0≤s.size)∧(∀ j,j<0→ZoU s j=false)from by first | trivial | grind) ?_)
  rintro k ⟨f1_1,f1_2⟩
  refine Zd (hqs tb hJ [0,1,1003] [_,_,.int (s.size:Nat),_] [2] U3 rfl ⟨Zqj Yj,trivial⟩ ?_)
  refine cj 2 (fun hb2=>?_) fun hb2=>?_
  ·
   try simp at hb2
   refine Za (nx (Zd (Zc (hqs tb hJ [0,1,1012] [_,_,.rd (.lit (.int .u8 ((ge s.data.toList k).toNat:Int))),_,_,_,_,_,.int (k+1:Nat),.str (s.extract k (k+1)),.bool (ZdF (s.extract k (k+1))),_,_] [2,8,9,10] U3 rfl ⟨fun _ _ _ hx hl _=>Zht (i:=(k:Int)) Yj rfl (hl.dep 0 16 _ rfl rfl rfl rfl) (hl.dep 1 17 _ rfl rfl rfl rfl) nnn (ZcJ (s:=s) (k:=k) sfz) hx,fun _ _ _ hx hl hc=>ZpD (i:=(k:Int)) (j:=(1:Int)) rfl (hl.dep 7 23 _ rfl rfl rfl hc) (Rel.of_lit (.int .i64 1)) (by have hc':((!decide (((ge s.data.toList k).toNat:Int)=(63:Int)))==true)=true:=hc;(try simp at hc');(first | omega | (simp;omega) | grind[Zj])) (by have hc':((!decide (((ge s.data.toList k).toNat:Int)=(63:Int)))==true)=true:=hc;(try simp at hc');(first | omega | (simp;omega) | grind[Zj])) hx,fun _ _ _ hx hl hc=>Zpu (lo:=k) (hi:=k+1) Yj rfl (hl.dep 5 21 _ rfl rfl rfl hc) (hl.dep 6 22 _ rfl rfl rfl hc) (hl.dep 8 24 _ rfl rfl rfl hc) (by have hc':((!decide (((ge s.data.toList k).toNat:Int)=(63:Int)))==true)=true:=hc;(try simp at hc');(first | omega | (simp;omega) | grind[Zj])) (by have hc':((!decide (((ge s.data.toList k).toNat:Int)=(63:Int)))==true)=true:=hc;(try simp at hc');(first | omega | (simp;omega) | grind[Zj])) hx,iFn hS hJ (Ze2 hJ (s.extract k (k+1))) Zi9,trivial⟩ ?_))))
   refine cj 2 (fun hb3=>?_) fun hb3=>?_
   ·
    refine qs tb hJ [1000] [_] [_] ?_
    exact tRn 0 (hE:=eB ((ZmO hb1 hb2 hb3).symm))
   ·
    refine Za (nx (hqp tb hJ [0,1002] [_,.int (k+1:Nat),_] [1] U2 rfl ⟨Yf,trivial⟩ ?_))
    exact lpE (k+1) [0,1] ⟨oz,ZG f1_2 hb3⟩
  ·
   try simp at hb2
   refine Zp (nx (qs tb hJ [1002] U3 [_] ?_))
   exact tRn 0 (hE:=eB ((Zlf hb1 fun j hj=>f1_2 j oz).symm))
theorem c_of (y:Hy) (vs:List BA)  :Fn prog J 149 [.agg (hyC y),.rd (Zi vs)] (.bool (ofB y vs)):=by
 refine fE Tryz.func149 fun S w0 hS hJ0=>?_
 clear hJ0
 refine ln 1 fun hl1=>?_
 refine hqs tb hJ [1,1000] [.ptr (hyC y),_] [0] U2 rfl ⟨iBs hS hJ,trivial⟩ ?_
 refine hqs tb hJ [1016] (V5 [.int (y.text.length:Nat),_,_,_,_,_,_,.ptr [lS (ge y.text 1)],_,.bool (decide ((ge y.text 1)∈vs)),_,_]) [5,12,14] [_] rfl ⟨ZX Zs,gIx (k:=1) Zf (hk:=fun(hc':((y.floating&& (decide ((y.text.length:Int)=(2:Int))))==true)=true)=>by(try simp at hc');first | omega | (simp;omega) | grind[Zj]),iFn hS hJ (ZbF hJ vs (ge y.text 1)) XC,trivial⟩ ?_
 exact tRn 0 (hE:=eB (by first | rfl | grind[Zj]))
theorem ZcH (x y:Hy)  :Fn prog J 150 [.agg (hyC x),.agg (hyC y)] (.bool (Zlv x y)):=by
 refine fE Tryz.func150 fun S w0 hS hJ0=>?_
 clear hJ0
 refine hqs tb hJ [1000,1001] [.ptr (hyC x),.ptr (hyC y),_] [0,1] U2 rfl ⟨iBs hS hJ,iBs hS hJ,trivial⟩ ?_
 refine hqs tb hJ [1019] (V10 [.bool (x.floating==y.floating),_,_,_,_,_,_,.bool (decide (x.text=y.text)),_,_]) [10,17] [_] rfl ⟨fun _ _ _ hx hl hc=>Zsm Zr8 rfl (hl.dep 7 12 _ rfl rfl rfl hc) (hl.dep 9 14 _ rfl rfl rfl hc) hx,iFn hS hJ (Zjd hJ x.text y.text) Zq3,trivial⟩ ?_
 exact tRn 0 (hE:=eB (by first | rfl | grind[Zj]))
theorem ZgK (d:Db) (s:BA)  :Fn prog J 98 [.agg (dbC d),.str s] (.bool (ZcS d s)):=by
 refine fE Tryz.func98 fun S w0 hS hJ0=>?_
 clear hJ0
 refine hqs tb hJ [1,1000] [.ptr (dbC d),_] [0] U2 rfl ⟨iBs hS hJ,trivial⟩ ?_
 refine hqs tb hJ [1001,1010] (V3 [.bool (decide (s∈d.consts)),_,_,_,_,.bool (decide (s∈d.vars)),_,_]) [3,8] U2 rfl ⟨iFn hS hJ (ZbF hJ d.consts s) XC,iFn hS hJ (ZbF hJ d.vars s) XC,trivial⟩ ?_
 refine ln 0 fun hl1=>?_
 exact tRn 1 (hE:=eB (by first | rfl | grind[Zj]))
theorem Zh8 (d:Db) (l:List BA) (h0:0<l.length):Fn prog J 101 [.agg (dbC d),.rd (Zi l)] (.int (ZaS d l)):=by
 refine fE Tryz.func101 fun S w0 hS hJ0=>?_
 clear hJ0
 refine ln 1 fun hl1=>?_
 refine hqs tb hJ [1,1000] [.ptr (dbC d),_] [0] U2 rfl ⟨iBs hS hJ,trivial⟩ ?_
 refine Zd (hqs tb hJ [0,1,1001,1006] (V3 [.ptr [lS (ge l 0)],_,.bool (decide ((ge l 0)∈d.consts)),_]) [3,5] U4 rfl ⟨iIx (k:=0) Zf,iFn hS hJ (ZbF hJ d.consts (ge l 0)) XC,trivial⟩ ?_)
 refine ln 2 fun hl2=>?_
 refine cj 3 (fun hb1=>?_) fun hb1=>?_
 ·
  try simp at hb1
  refine qs tb hJ [1000] [_] [_] ?_
  exact tRn 0 (hE:=eI ((ZnQ hb1).symm))
 ·
  try simp at hb1
  refine Za (nx (Zd (qs tb hJ [0,1,1000] [_] U3 ?_)))
  refine Zc (lp (ι:=Nat) (fun k=>(1≤k)∧(k≤l.length)∧(∀ j,0<j→j<k→ZcS d (ge l j)=true)) (fun k=>[(5,.int (k:Nat))]) (fun k=>l.length-k) [0,1,2] U2 1 (show(1≤1)∧(1≤l.length)∧(∀ j,0<j→j<1→ZcS d (ge l j)=true)from by first | trivial | grind) ?_)
  rintro k ⟨f1_1,f1_2,f1_3⟩
  refine Zd (hqs tb hJ [0,1,2,1003] [_,_,.int (l.length:Nat),_] [2] U4 rfl ⟨ZX Zs,trivial⟩ ?_)
  refine cj 3 (fun hb2=>?_) fun hb2=>?_
  ·
   try simp at hb2
   refine Za (nx (Zd (Zc (hqs tb hJ [0,1,2,1006] (V3 [.ptr [lS (ge l k)],_,.bool (ZcS d (ge l k)),_]) [3,5] U4 rfl ⟨iIx Zf,iFn hS hJ (ZgK hJ d (ge l k)) Zi7,trivial⟩ ?_))))
   refine cj 3 (fun hb3=>?_) fun hb3=>?_
   ·
    try simp at hb3
    refine qs tb hJ [1000] [_] [_] ?_
    exact tRn 0 (hE:=eI ((Zkh oz oz hb3).symm))
   ·
    try simp at hb3
    refine Za (nx (hqp tb hJ [0,1,1002] [_,.int (k+1:Nat),_] [1] U3 rfl ⟨Yf,trivial⟩ ?_))
    exact lpE (k+1) [0,1,2] ⟨by first | omega | (simp;omega) | grind[Zj],by first | omega | (simp;omega) | grind[Zj],by first | omega | (simp;omega) | grind[Zj]⟩
  ·
   try simp at hb2
   refine Zp (nx (qs tb hJ [1000] [_] [_] ?_))
   exact tRn 0 (hE:=eI ((Zkg hb1 fun j h1 h2=>f1_3 j h1 oz).symm))
theorem ZrQ (xs ys:List BA)  :Fn prog J 105 [.rd (Zi xs),.rd (Zi ys)] (.int (ZdW xs ys:Nat)):=by
 refine fE Tryz.func105 fun S w0 hS hJ0=>?_
 clear hJ0
 refine ln 0 fun hl1=>?_
 refine ln 1 fun hl2=>?_
 refine qs tb hJ [0,1] [_] U2 ?_
 refine qs tb hJ [0,1,1000] [_] U3 ?_
 refine Zd (Zc (lp (ι:=Nat) (fun k=>(k≤xs.length)∧(k≤ys.length)∧(∀ j,j<k→ge xs j=ge ys j)) (fun k=>[(5,.int (k:Nat))]) (fun k=>xs.length-k) [0,1,2] U2 0 (show(0≤xs.length)∧(0≤ys.length)∧(∀ j,j<0→ge xs j=ge ys j)from by first | trivial | grind) ?_))
 rintro k ⟨f1_1,f1_2,f1_3⟩
 refine Zd (hqs tb hJ [0,1,2,1020] [_,_,.int (xs.length:Nat),_,_,_,_,.int (ys.length:Nat),_,_,_,_,_,.ptr [lS (ge xs k)],_,_,_,.ptr [lS (ge ys k)],_,_,_] [2,7,13,17] U4 rfl ⟨ZX Zs,ZX Zs,gIx Zf (hk:=fun(hc':(((decide ((k:Int)< (xs.length:Int)))&& (decide ((k:Int)< (ys.length:Int))))==true)=true)=>by(try simp at hc');first | omega | (simp;omega) | grind[Zj]),gIx Zf (hk:=fun(hc':(((decide ((k:Int)< (xs.length:Int)))&& (decide ((k:Int)< (ys.length:Int))))==true)=true)=>by(try simp at hc');first | omega | (simp;omega) | grind[Zj]),trivial⟩ ?_)
 refine cj 3 (fun hb1=>?_) fun hb1=>?_
 ·
  try simp at hb1
  refine Za (nx (Zc (hqp tb hJ [0,1,1002] [_,.int (k+1:Nat),_] [1] U3 rfl ⟨Yf,trivial⟩ ?_)))
  exact lpE (k+1) [0,1,2] ⟨by first | omega | (simp;omega) | grind[Zj],by first | omega | (simp;omega) | grind[Zj],by first | omega | (simp;omega) | grind[Zj]⟩
 ·
  try simp at hb1
  refine Zp (nx (qs tb hJ [1001] U2 [_] ?_))
  exact tRn 0 (hE:=eI (by rw[Zi5 xs ys k f1_1 f1_2 f1_3 (by grind)]))
theorem ZrM (l:List Pr) (vs:List BA) (b:l.length*32≤140737488351232):Fn prog J 155 [.rd (Xa l),.rd (Zi vs)] (.rd (Xa (l.filter (inV vs)))):=by
 refine fE Tryz.func155 fun S w0 hS hJ0=>?_
 refine tw Z6 (ln 0 fun hl1=>?_)
 refine ln 1 fun hl2=>?_
 refine qso tb hJ [0,1] [_] U2 ?_
 refine tsq (XA Zo hJ rfl rfl rfl (lb rfl) fun v1=>?_)
 refine snK 1 tb rfl (seK [0,2,3] U3 rfl ?_)
 refine nx (Zd (qso tb hJ [0,1,2,1000] [_] U4 ?_))
 refine Zc (lpo (ι:=Nat×Value×(List Pr)) (fun(k,_,out)=>(k≤l.length)∧(out=(l.take k).filter (inV vs))∧(out.length≤k)) (fun(_,v,out)=>[OB.row v 173 2 (out.map prC)]) (fun(k,v,_)=>[(6,.int (k:Nat)),(5,.lit v)]) (fun(k,_,_)=>l.length-k) [1,2,3,0] U2 (0,v1,([]:List Pr)) ⟨nzl,by simp,by simp⟩ ?_)
 rintro⟨k,v,out⟩ ⟨f1_1,f1_2,f1_3⟩
 refine Zd (ZE tb hJ [0,1,2,3,1003] [_,_,.int (l.length:Nat),_] [2] U5 rfl ⟨ZX ZH,trivial⟩ ?_)
 refine cj 4 (fun hb1=>?_) fun hb1=>?_
 ·
  try simp at hb1
  refine Za (nx (Zd (Zc (ZE tb hJ [0,1,2,3,1015] (V3 [.ptr (prC (ge l k)),_,_,.bool (decide (((ge l k).a)∈vs)),_,_,_,_,.ptr (prC (ge l k)),_,_,.bool (decide (((ge l k).b)∈vs)),_]) [3,6,11,14] U5 rfl ⟨iIx Zo,iFo hS hJ (ZbF hJ vs ((ge l k).a)) XC,gIx Zo (hk:=fun(hc':((decide (((ge l k).a)∈vs))==true)=true)=>by(try simp at hc');first | omega | (simp;omega) | grind[Zj]),iFo hS hJ (ZbF hJ vs ((ge l k).b)) XC,trivial⟩ ?_))))
  refine cj 4 (fun hb2=>?_) fun hb2=>?_
  ·
   try simp at hb2
   refine Ya (snK 3 tb rfl (sy (.ptr (prC (ge l k))) (fun h=>ZK (i:=(k:Int)) Zo rfl (h.get 1 rfl) (h.get 0 rfl) nnn (ZR (xs:=l) (k:=k) sfz) rfl h.x) ?_))
   refine snK 1 tb rfl (sy (.rd (Xa ([(ge l k)]))) (fun h=>QL Zo Zf5 dz rfl rfl (h.get 0 rfl) (Zy hS _ h.keep h.x _ nlr) (jo hJ h.x)) ?_)
   refine Z2 (f:=prC) (m:=5) (s:=30) out ([(ge l k)]) (fun _=>rfl) ZbC hJ hJ0 rfl rfl rfl (lb rfl) rfl rfl (fun a w h=>(h.get 0 rfl)) sfz sfz fun v2=>?_
   refine snK 1 tb rfl (seK [0,2,8,9,10] U5 rfl ?_)
   refine nx (ln 1 fun hl3=>?_)
   refine YA tb hJ [0,2,3,1002] [_,.int (k+1:Nat),_] [1] U4 rfl ⟨Yf,trivial⟩ ?_
   exact YK (k+1,v2,out++([(ge l k)])) [1,2,3,0] ⟨oz,by rw[Z3 oz,f1_2];simp[inV,hb2],by simp;omega⟩
  ·
   try simp at hb2
   refine Za (nx (YA tb hJ [0,1,3,1002] [_,.int (k+1:Nat),_] [1] U4 rfl ⟨Yf,trivial⟩ ?_))
   exact YK (k+1,v,out) [0,1,3,2] ⟨oz,by rw[Z3 oz,f1_2];simp[inV];grind,oz⟩
 ·
  try simp at hb1
  refine Zp (nx (qso tb hJ [1001] U2 [_] ?_))
  exact tw (fun h=>ZF hS h (m:=0) (s:=4) rfl) (tRo 0 (hE:=congrArg (fun z=>AV.rd (Xa z)) (show out=(l.filter (inV vs))from by rw[f1_2,Zz oz])))
theorem Zje (l:List (List BA)) (vs:List BA) (b:vs.length≤8000):Fn prog J 151 [.rd (YT l),.rd (Zi vs)] (.rd (Zi (QB vs l.flatten))):=by
 refine fE Tryz.func151 fun S w0 hS hJ0=>?_
 refine tw Z6 (ln 0 fun hl1=>?_)
 refine ln 1 fun hl2=>?_
 refine qso tb hJ [0,1] [_] U2 ?_
 refine tsq (XA Zf hJ rfl rfl rfl (lb rfl) fun v1=>?_)
 refine snK 1 tb rfl (seK [0,2,3] U3 rfl ?_)
 refine nx (Zd (qso tb hJ [0,1,2,1000] [_] U4 ?_))
 refine Zc (lpo (ι:=Nat×Value×(List BA)) (fun(k,_,out)=>(k≤l.length)∧(out=QB vs (l.take k).flatten)) (fun(_,v,out)=>[OB.row v 9 1 (out.map Q3)]) (fun(k,v,_)=>[(6,.int (k:Nat)),(5,.lit v)]) (fun(k,_,_)=>l.length-k) [1,2,3,0] U2 (0,v1,([]:List BA)) ⟨nzl,by simp[QB]⟩ ?_)
 rintro⟨k,v,out⟩ ⟨f1_1,f1_2⟩
 refine Zd (ZE tb hJ [0,1,2,3,1003] [_,_,.int (l.length:Nat),_] [2] U5 rfl ⟨ZX Qf,trivial⟩ ?_)
 refine cj 4 (fun hb1=>?_) fun hb1=>?_
 ·
  try simp at hb1
  refine Za (nx (Zd (Zc (qso tb hJ [0,1,2,3,1000] [_] U5 ?_))))
  refine Zc (lpo (ι:=Nat×Value×(List BA)) (fun(j,_,out2)=>(j≤(ge l k).length)∧(out2=QB vs ((l.take k).flatten++(ge l k).take j))) (fun(_,vb,out2)=>[OB.row vb 9 1 (out2.map Q3)]) (fun(j,vb,_)=>[(7,.int (j:Nat)),(5,.lit vb)]) (fun(j,_,_)=>(ge l k).length-j) [0,1,2,4,3] U3 (0,v,out) ⟨nzl,by simp[f1_2]⟩ ?_)
  rintro⟨j,vb,out2⟩ ⟨f2_1,f2_2⟩
  refine Zd (ZE tb hJ (r5 [1004,1006]) (V3 [.ptr [Zi (ge l k)],_,.int ((ge l k).length:Nat),_]) [3,5] U7 rfl ⟨iIx ZO,ZX Zs,trivial⟩ ?_)
  refine ln 5 fun hl3=>?_
  refine cj 6 (fun hb2=>?_) fun hb2=>?_
  ·
   try simp at hb2
   refine Za (nx (Zd (Zc (ZE tb hJ (r5 [1007]) [_,_,.ptr [Zi (ge l k)],_,_,.ptr [lS (ge (ge l k) j)],_,_] [2,5] U6 rfl ⟨iIx ZO,iIx Zf,trivial⟩ ?_))))
   refine ZtH tb hJ (r6 [1008]) [_,_,.bool (decide ((ge (ge l k) j)∈vs)),_,_,_,.bool (decide ((ge (ge l k) j)∈out2)),_,_] [2,6] U7 rfl ⟨iFr hS hJ (ZbF hJ vs (ge (ge l k) j)) XC,fun _ _ hk hx hl hc=>ZcZ (ZbF hJ out2 (ge (ge l k) j)) XC rfl (nm hS hk) (hx.1) (Zb (ZaB hS hx (mo 0 rfl) (hl.dep 4 36 _ rfl rfl rfl hc)) (Zb (hl.dep 5 37 _ rfl rfl rfl hc) Zk)) (jo hJ hx),trivial⟩ ?_
   refine cj 6 (fun hb3=>?_) fun hb3=>?_
   ·
    try simp at hb3
    refine Ya (snK 2 tb rfl (sy (.rd (Zi ([(ge (ge l k) j)]))) (fun h=>Yw Zf QI rfl (h.get 0 rfl) (Zy hS _ h.keep h.x _ nlr) (jo hJ h.x)) ?_))
    refine Z2 (f:=Q3) (m:=2) (s:=41) out2 ([(ge (ge l k) j)]) (fun _=>rfl) Y3 hJ hJ0 rfl rfl rfl (lb rfl) rfl rfl (fun a w h=>(h.get 0 rfl)) (by have:=Zna vs ((l.take k).flatten++(ge l k).take j);simp[f2_2];omega) (by have:=Zna vs ((l.take k).flatten++(ge l k).take j);simp[f2_2];omega) fun v2=>?_
    refine snK 1 tb rfl (seK [0,2,5,6,7,8] U6 rfl ?_)
    refine nx (ln 1 fun hl4=>?_)
    refine YA tb hJ [0,2,3,4,1002] [_,.int (j+1:Nat),_] [1] U5 rfl ⟨Yf,trivial⟩ ?_
    exact YK (j+1,v2,out2++([(ge (ge l k) j)])) [1,2,3,4,0] ⟨oz,by rw[Z1 oz,←List.append_assoc,Za6,←f2_2];simp[hb3]⟩
   ·
    try simp at hb3
    refine Za (nx (YA tb hJ [0,1,2,4,1002] [_,.int (j+1:Nat),_] [1] U5 rfl ⟨Yf,trivial⟩ ?_))
    exact YK (j+1,vb,out2) [0,1,2,4,3] ⟨oz,by rw[Z1 oz,←List.append_assoc,Za6,←f2_2];simp;grind⟩
  ·
   try simp at hb2
   refine Zp (nx (YA tb hJ [0,1,4,1002] [_,.int (k+1:Nat),_] [1] U4 rfl ⟨Yf,trivial⟩ ?_))
   exact YK (k+1,vb,out2) [0,1,3,2] ⟨oz,by rw[f2_2,Zz (xs:=ge l k) oz,Z1 oz];simp⟩
 ·
  try simp at hb1
  refine Zp (nx (qso tb hJ [1001] U2 [_] ?_))
  exact tw (fun h=>ZF hS h (m:=0) (s:=4) rfl) (tRo 0 (hE:=congrArg (fun z=>AV.rd (Zi z)) (show out=(QB vs l.flatten)from by rw[f1_2,Zz oz])))
theorem Zdy (f:Fr) (b:f.hyps.length*48≤140737488351232):Fn prog J 104 [.agg (frC f)] (.rd (Zi ((YU f.hyps).map Hy.label))):=by
 refine fE Tryz.func104 fun S w0 hS hJ0=>?_
 refine tw Z6 (ZE tb hJ [1000] [.ptr (frC f),_] [0] [_] rfl ⟨iBo hS hJ,trivial⟩ ?_)
 refine tsq (XA Zf hJ rfl rfl rfl (lb rfl) fun v1=>?_)
 refine snK 1 tb rfl (seK [0,2] U2 rfl ?_)
 refine nx (Zd (qso tb hJ [0,1,1000] [_] U3 ?_))
 refine Zc (lpo (ι:=Nat×Value×(List BA)) (fun(k,_,out)=>(k≤f.hyps.length)∧(out=(YU (f.hyps.take k)).map Hy.label)∧(out.length≤k)) (fun(_,v,out)=>[OB.row v 9 1 (out.map Q3)]) (fun(k,v,_)=>[(4,.int (k:Nat)),(3,.lit v)]) (fun(k,_,_)=>f.hyps.length-k) [1,2,0] [_] (0,v1,([]:List BA)) ⟨nzl,by simp[YU],by simp⟩ ?_)
 rintro⟨k,v,out⟩ ⟨f1_1,f1_2,f1_3⟩
 refine Zd (ZE tb hJ [0,1,2,1002,1004] (V3 [.int (f.hyps.length:Nat),_]) [3] U5 rfl ⟨ZX Zx,trivial⟩ ?_)
 refine ln 3 fun hl1=>?_
 refine cj 4 (fun hb1=>?_) fun hb1=>?_
 ·
  try simp at hb1
  refine Za (nx (Zd (Zc (ZE tb hJ [0,1,2,1006] (V3 [.ptr (hyC (ge f.hyps k)),_,_,_]) [3] U4 rfl ⟨iIx Zq,trivial⟩ ?_))))
  refine cj 3 (fun hb2=>?_) fun hb2=>?_
  ·
   try simp at hb2
   refine Ya (snK 4 tb rfl (sy (.ptr (hyC (ge f.hyps k))) (fun h=>ZK (i:=(k:Int)) Zq rfl (h.get 1 rfl) (h.get 0 rfl) nnn (ZR (xs:=f.hyps) (k:=k) sfz) rfl h.x) ?_))
   refine snK 2 tb rfl (sy (.rd (Zi ([(ge f.hyps k).label]))) (fun h=>Yw Zf QI rfl (h.get 0 rfl) (Zy hS _ h.keep h.x _ nlr) (jo hJ h.x)) ?_)
   refine Z2 (f:=Q3) (m:=7) (s:=20) out ([(ge f.hyps k).label]) (fun _=>rfl) Y3 hJ hJ0 rfl rfl rfl (lb rfl) rfl rfl (fun a w h=>(h.get 0 rfl)) sfz sfz fun v2=>?_
   refine snK 1 tb rfl (seK [0,2,10,11] U4 rfl ?_)
   refine nx (ln 1 fun hl2=>?_)
   refine YA tb hJ [0,2,1002] [_,.int (k+1:Nat),_] [1] U3 rfl ⟨Yf,trivial⟩ ?_
   exact YK (k+1,v2,out++([(ge f.hyps k).label])) [1,2,0] ⟨oz,by rw[YU,Z3 oz,f1_2];simp[YU,hb2],by simp;omega⟩
  ·
   try simp at hb2
   refine Za (nx (YA tb hJ [0,2,1002] [_,.int (k+1:Nat),_] [1] U3 rfl ⟨Yf,trivial⟩ ?_))
   exact YK (k+1,v,out) [0,2,1] ⟨oz,by rw[YU,Z3 oz,f1_2];simp[YU,hb2],oz⟩
 ·
  try simp at hb1
  refine Zp (nx (qso tb hJ [1001] U2 [_] ?_))
  exact tw (fun h=>ZF hS h (m:=0) (s:=2) rfl) (tRo 0 (hE:=congrArg (fun z=>AV.rd (Zi z)) (show out=((YU f.hyps).map Hy.label)from by rw[f1_2,Zz oz])))
theorem ZlJ (hs:List Hy) (t:List BA) (b:hs.length≤40):Fn prog J 152 [.rd (Xl hs),.rd (Zi t)] (.rd (YT (t::(YU hs).map Hy.text))):=by
 refine fE Tryz.func152 fun S w0 hS hJ0=>?_
 refine tw Z6 (ln 0 fun hl1=>?_)
 refine ln 1 fun hl2=>?_
 refine qso tb hJ [0,1] [_] U2 ?_
 refine tsq (snK 1 tb rfl (Zmo ZO ZbP hJ rfl rfl rfl (lb rfl) (fun _ _ h=>(h.get 0 rfl)) fun v1=>?_))
 refine snK 1 tb rfl (seK [0,3] U2 rfl ?_)
 refine nx (Zd (qso tb hJ [0,1,1000] [_] U3 ?_))
 refine Zc (lpo (ι:=Nat×Value×(List (List BA))) (fun(k,_,out)=>(k≤hs.length)∧(out=t::(YU (hs.take k)).map Hy.text)∧(out.length≤k+1)) (fun(_,v,out)=>[OB.row v 22 1 (out.map Q2)]) (fun(k,v,_)=>[(6,.int (k:Nat)),(5,.lit v)]) (fun(k,_,_)=>hs.length-k) [1,2,0] [_] (0,v1,[t]) ⟨nzl,by simp[YU],by simp⟩ ?_)
 rintro⟨k,v,out⟩ ⟨f1_1,f1_2,f1_3⟩
 refine Zd (ZE tb hJ [0,1,2,1003] [_,_,.int (hs.length:Nat),_] [2] U4 rfl ⟨ZX Zx,trivial⟩ ?_)
 refine cj 3 (fun hb1=>?_) fun hb1=>?_
 ·
  try simp at hb1
  refine Za (nx (Zd (Zc (ZE tb hJ [0,1,2,1005] [_,_,.ptr (hyC (ge hs k)),_,_,_] [2] U4 rfl ⟨iIx Zq,trivial⟩ ?_))))
  refine cj 3 (fun hb2=>?_) fun hb2=>?_
  ·
   try simp at hb2
   refine Ya (snK 3 tb rfl (sy (.ptr (hyC (ge hs k))) (fun h=>ZK (i:=(k:Int)) Zq rfl (h.get 1 rfl) (h.get 0 rfl) nnn (ZR (xs:=hs) (k:=k) sfz) rfl h.x) ?_))
   refine snK 2 tb rfl (sy (.rd (YT ([(ge hs k).text]))) (fun h=>Yw ZO ZbP rfl (h.get 0 rfl) (Zy hS _ h.keep h.x _ nlr) (jo hJ h.x)) ?_)
   refine Z2 (f:=Q2) (m:=6) (s:=21) out ([(ge hs k).text]) (fun _=>rfl) Zbi hJ hJ0 rfl rfl rfl (lb rfl) rfl rfl (fun a w h=>(h.get 0 rfl)) sfz sfz fun v2=>?_
   refine snK 1 tb rfl (seK [0,2,3,9,10] U5 rfl ?_)
   refine nx (ln 1 fun hl3=>?_)
   refine ln 2 fun hl4=>?_
   refine YA tb hJ [0,3,1002] [_,.int (k+1:Nat),_] [1] U3 rfl ⟨Yf,trivial⟩ ?_
   exact YK (k+1,v2,out++([(ge hs k).text])) [1,2,0] ⟨oz,by rw[YU,Z3 oz,f1_2];simp[YU,hb2],by simp;omega⟩
  ·
   try simp at hb2
   refine Za (nx (YA tb hJ [0,2,1002] [_,.int (k+1:Nat),_] [1] U3 rfl ⟨Yf,trivial⟩ ?_))
   exact YK (k+1,v,out) [0,2,1] ⟨oz,by rw[YU,Z3 oz,f1_2];simp[YU,hb2],oz⟩
 ·
  try simp at hb1
  refine Zp (nx (qso tb hJ [1001] U2 [_] ?_))
  exact tw (fun h=>ZF hS h (m:=0) (s:=4) rfl) (tRo 0 (hE:=congrArg (fun z=>AV.rd (YT z)) (show out=(t::(YU hs).map Hy.text)from by rw[f1_2,Zz oz])))
end
end Go.Proofs.YtaigaoflehfdcaaGreatDoor
set_option maxHeartbeats 8000000
set_option maxRecDepth 100000
namespace Go.Proofs.YtaigaoflehfdcaaGreatDoor
open Go.RowKit
section
variable {J:WP} (hJ:Stab J)
include hJ
theorem ZrR (d:Db) (k:Nat) (hn:k≤d.frames.length) (hk0:k≤400) (hz:0<k→(ge d.frames (k-1)).hyps.length≤40):Fn Tryz.prog J 106 [.agg (dbC d),.int (k:Nat)] (.rd (Zi (Zjl d k))):=by
 refine fE Tryz.func106 fun S w0 hS hJ0=>?_
 clear hJ0
 refine hqs tb hJ [1,1000] [.ptr (dbC d),_] [0] U2 rfl ⟨iBs hS hJ,trivial⟩ ?_
 refine Zd (qs tb hJ [0,1,1001] U2 U3 ?_)
 refine cj 2 (fun hb1=>?_) fun hb1=>?_
 ·
  try simp at hb1
  refine qs tb hJ [1000] [_] [_] ?_
  exact tw (fun h=>Ym h (m:=0) (s:=4) rfl) (tRn 0 (hE:=congrArg (fun z=>AV.rd (Zi z)) (show([]:List BA)=(Zjl d k)from by simp[Zjl,hb1])))
 ·
  try simp at hb1
  refine Za (nx (hqs tb hJ [1001,1006,1007] (V3 [.int ((k:Int)-(1:Int)),.ptr (frC (ge d.frames ((k:Int)-(1:Int)).toNat)),_,.rd (Zi ((YU (ge d.frames ((k:Int)-(1:Int)).toNat).hyps).map Hy.label)),_]) [3,4,6] U3 rfl ⟨ZuY,iIz Z5,iFn hS hJ (Zdy hJ (ge d.frames ((k:Int)-(1:Int)).toNat) (by have:=hz oz;rw[show((k:Int)-1).toNat=k-1 by omega];omega)) ZkJ,trivial⟩ ?_))
  refine ln 0 fun hl1=>?_
  refine ln 1 fun hl2=>?_
  exact tRn 2 (hE:=congrArg (fun z=>AV.rd (Zi z)) (show((YU (ge d.frames ((k:Int)-(1:Int)).toNat).hyps).map Hy.label)=(Zjl d k)from by rw[Zjl,if_neg hb1,show((k:Int)-1).toNat=k-1 by omega]))
theorem Zjf (d:Db) (n:Nat) (s:BA) (hn:n≤d.frames.length) (hz:∀ i,i<n→(ge d.frames i).hyps.length≤40∧(ge d.frames i).dummies.length≤40):Fn Tryz.prog J 97 [.agg (dbC d),.int (n:Nat),.str s] (.tup [.bool (frL d n s),.bool (hyL d n s)]):=by
 refine fE Tryz.func97 fun S w0 hS hJ0=>?_
 clear hJ0
 refine hqs tb hJ [1,2,1000,1001,1002] [.ptr (dbC d),_,_] [0] U5 rfl ⟨iBs hS hJ,trivial⟩ ?_
 refine Zd (qs tb hJ (r5 [1000]) [_] U6 ?_)
 refine Zc (lp (ι:=Nat×Bool×Bool) (fun(k,p,q)=>(k≤n)∧(p=frL d k s)∧(q=hyL d k s)) (fun(k,p,q)=>[(8,.int (k:Nat)),(6,.bool p),(7,.bool q)]) (fun(k,_,_)=>n-k) [0,1,2,5,3,4] U3 (0,false,false) ⟨nzl,by simp[frL],by simp[hyL]⟩ ?_)
 rintro⟨k,p,q⟩ ⟨f1_1,f1_2,f1_3⟩
 refine Zd (qs tb hJ (r6 [1002]) U3 U7 ?_)
 refine cj 6 (fun hb1=>?_) fun hb1=>?_
 ·
  try simp at hb1
  refine Za (nx (Zd (Zc (hqs tb hJ [0,1,2,3,5,1011] (V5 [.ptr (frC (ge d.frames k)),_,_,_,_,_,_]) [5] U6 rfl ⟨gIx Z5 (hk:=fun(hc':(p==false)=true)=>by(try simp at hc');first | omega | (simp;omega) | grind[Zj]),trivial⟩ ?_))))
  refine hqs tb hJ (r6 [1001,1005,1006]) (V3 [.ptr (frC (ge d.frames k)),_,.rd (Xl ((ge d.frames k).hyps++(ge d.frames k).dummies)),_]) [3,5] U9 rfl ⟨iIx Z5,iFn hS hJ (ZrU hJ (ge d.frames k) (by have:=hz k oz;omega)) ZgF,trivial⟩ ?_
  refine ln 6 fun hl1=>?_
  refine ln 7 fun hl2=>?_
  refine qs tb hJ (r6 [8,1000]) [_] U8 ?_
  refine Zc (lp (ι:=Nat×Bool) (fun(j,q2)=>(j≤((ge d.frames k).hyps++(ge d.frames k).dummies).length)∧(q2=(hyL d k s|| (((ge d.frames k).hyps++(ge d.frames k).dummies).take j).any fun h=>decide (h.label=s)))) (fun(j,q2)=>[(10,.int (j:Nat)),(7,.bool q2)]) (fun(j,_)=>((ge d.frames k).hyps++(ge d.frames k).dummies).length-j) [0,1,2,3,5,6,7,4] U6 (0,q) ⟨nzl,by simp[f1_3]⟩ ?_)
  rintro⟨j,q2⟩ ⟨f2_1,f2_2⟩
  refine Zd (hqs tb hJ [0,1,2,3,4,5,6,7,1003] [_,_,.int (((ge d.frames k).hyps++(ge d.frames k).dummies).length:Nat),_] [2] U9 rfl ⟨ZX Zx,trivial⟩ ?_)
  refine cj 8 (fun hb2=>?_) fun hb2=>?_
  ·
   try simp at hb2
   refine Za (nx (Zd (Zc (hqp tb hJ [0,1,2,3,4,5,6,1010] (V4 [.ptr (hyC (ge ((ge d.frames k).hyps++(ge d.frames k).dummies) j)),_,_,_,_,_,_]) [4] U8 rfl ⟨gIx Zq (hk:=fun(hc':(q2==false)=true)=>by(try simp at hc');first | omega | (simp;omega) | grind[Zj]),trivial⟩ ?_))))
   refine nx (hqp tb hJ (r6 [7,1002]) [_,.int (j+1:Nat),_] [1] U8 rfl ⟨Yf,trivial⟩ ?_)
   exact lpE (j+1,q2|| (decide (((ge ((ge d.frames k).hyps++(ge d.frames k).dummies) j).label)=s))) (r6 [7,6]) ⟨by simp;omega,by rw[X9 (by simp;omega),←Bool.or_assoc,←f2_2]⟩
  ·
   try simp at hb2
   refine Zp (nx (hqp tb hJ [0,1,2,4,7,1002] [_,.int (k+1:Nat),_] [1] U6 rfl ⟨Yf,trivial⟩ ?_))
   exact lpE (k+1,p|| (decide (((ge d.frames k).label)=s)),q2) [0,1,2,5,3,4] ⟨oz,by rw[f1_2,frL,frL,X9 oz],by rw[f2_2,Zz (xs:=((ge d.frames k).hyps++(ge d.frames k).dummies)) (by simp;omega),hyL,hyL,X9 oz]⟩
 ·
  try simp at hb1
  refine Zp (nx (qs tb hJ [1002,1003] U4 U2 ?_))
  exact ZB (fun a w h=>Yh (m:=0) (k:=1) rfl h rfl rfl (eB (by rw[f1_2,show k=n by omega])) (eB (by rw[f1_3,show k=n by omega])))
theorem c_less (x y:Pr)  :Fn Tryz.prog J 223 [.agg (prC x),.agg (prC y)] (.bool (ltP x y)):=by
 refine fE Tryz.func223 fun S w0 hS hJ0=>?_
 clear hJ0
 refine hqs tb hJ [1000,1001] [.ptr (prC x),.ptr (prC y),_] [0,1] U2 rfl ⟨iBs hS hJ,iBs hS hJ,trivial⟩ ?_
 refine qs tb hJ [1019] [_,_,_,_,_,_,_,_,_,_,_,_,_,_,_,_,_,_,_,_] [_] ?_
 exact tRn 0 (hE:=eB (by first | rfl | grind[Zj]))
theorem c_put (l:List Pr) (p:Pr) (b:(l.length+1)*32≤140737488351264):Fn Tryz.prog J 198 [.rd (Xa l),.agg (prC p)] (.rd (Xa (Zco l p))):=by
 refine fE Tryz.func198 fun S w0 hS hJ0=>?_
 refine tw Z6 (ln 0 fun hl1=>?_)
 refine ZE tb hJ [0,1000] [.ptr (prC p),_] [0] U2 rfl ⟨iBo hS hJ,trivial⟩ ?_
 refine qso tb hJ [0,1,1000] [_] U3 ?_
 refine Zd (Zc (lpo (ι:=Nat) (fun k=>(k≤l.length)∧(∀ j,j<k→ltP (ge l j) p=true)) (fun _=>[]) (fun k=>[(5,.int (k:Nat))]) (fun k=>l.length-k) [0,1,2] U2 0 (show(0≤l.length)∧(∀ j,j<0→ltP (ge l j) p=true)from by first | trivial | grind) ?_))
 rintro k ⟨f1_1,f1_2⟩
 refine Zd (ZE tb hJ [0,1,2,1011] [_,_,.int (l.length:Nat),_,_,_,_,.ptr (prC (ge l k)),_,_,.bool (ltP (ge l k) p),_] [2,7,10] U4 rfl ⟨ZX ZH,gIx Zo (hk:=fun(hc':((decide ((k:Int)< (l.length:Int)))==true)=true)=>by(try simp at hc');first | omega | (simp;omega) | grind[Zj]),iFo hS hJ (c_less hJ (ge l k) p) ZqP,trivial⟩ ?_)
 refine cj 3 (fun hb1=>?_) fun hb1=>?_
 ·
  try simp at hb1
  refine Za (nx (Zc (YA tb hJ [0,1,1002] [_,.int (k+1:Nat),_] [1] U3 rfl ⟨Yf,trivial⟩ ?_)))
  exact YK (k+1) [0,1,2] ⟨oz,ZG f1_2 (by simp_all)⟩
 ·
  try simp at hb1
  refine Zp (nx (Zd (ZE tb hJ [0,1,2,1011] [_,_,.int (l.length:Nat),_,_,_,_,.ptr (prC (ge l k)),_,_,.bool (decide ((ge l k).a=p.a)&&decide ((ge l k).b=p.b)),_] [2,7,10] U4 rfl ⟨ZX ZH,gIx Zo (hk:=fun(hc':((decide ((k:Int)< (l.length:Int)))==true)=true)=>by(try simp at hc');first | omega | (simp;omega) | grind[Zj]),fun _ _ _ hx hl hc=>ZmH ZfX rfl (hl.dep 8 28 _ rfl rfl rfl hc) (hl.dep 9 29 _ rfl rfl rfl hc) hx,trivial⟩ ?_)))
  refine cj 3 (fun hb2=>?_) fun hb2=>?_
  ·
   try simp at hb2
   refine qso tb hJ [1001] U2 [_] ?_
   exact tRo 0 (hE:=congrArg (fun z=>AV.rd (Xa z)) (show l=(Zco l p)from by rw[ZiB l p k f1_1 f1_2 (by grind),if_pos ⟨hb2.1,by simp[Zfe,hb2]⟩]))
  ·
   try simp at hb2
   refine Za (nx (Zd (fun a w h=>ZaA (id:=6) (t:=51) (e:=173) (size:=2) (bytes:=32) (i0:=0) (fol:=12) (d:=4) (ch:=[(4,((l.take k).map prC)),(7,(([p]).map prC)),(11,((l.drop k).map prC))]) (fun ix'=>([.any,.rd (Xa l),.int (k:Nat),.rd (Xa (l.take k)),.any,.agg (prC p),.rd (Xa ([p])),.any,.rd (Xa l),.int (k:Nat),.rd (Xa (l.drop k)),.any,.any]:List AV).getD ix' .any) (fun _=>true) [] (((l.take k)++([p])++(l.drop k)).map prC) yz ?r6_1 hJ hJ0 h YZ rfl rfl rfl rfl ⟨?_,?_,?_,?_,?_,?_,?_,?_,?_,?_,?_,?_,?_,trivial⟩ trivial (fun v1=>?n6_1))))
   case r6_1=>
    refine Row.mk' ZbC ⟨_,rfl,rfl,rfl,rfl,rfl⟩ ⟨?x6_1_0,?x6_1_1,?x6_1_2,trivial⟩ ⟨_,_,_,_,rfl,rfl,rfl,rfl,rfl,rfl,rfl,rfl,rfl⟩ rfl rfl rfl
    case x6_1_0=>exact⟨_,_,_,_,rfl,rfl,rfl,rfl,rfl,rfl,rfl,rfl,XB (f:=prC) (fun _=>rfl),(by have hm:maxLen=9223372036854775807:=rfl;simp[upto];first | omega | (simp;omega) | grind[Zj]),(by have hm:maxLen=9223372036854775807:=rfl;simp[upto];first | omega | (simp;omega) | grind[Zj]),fun _ _ _ _ _ hl=>(hl.dep 3 36 _ rfl rfl rfl rfl)⟩
    case x6_1_1=>exact⟨_,_,_,_,rfl,rfl,rfl,rfl,rfl,rfl,rfl,rfl,XB (f:=prC) (fun _=>rfl),(by have hm:maxLen=9223372036854775807:=rfl;simp[upto];first | omega | (simp;omega) | grind[Zj]),(by have hm:maxLen=9223372036854775807:=rfl;simp[upto];first | omega | (simp;omega) | grind[Zj]),fun _ _ _ _ _ hl=>(hl.dep 6 39 _ rfl rfl rfl rfl)⟩
    case x6_1_2=>exact⟨_,_,_,_,rfl,rfl,rfl,rfl,rfl,rfl,rfl,rfl,XB (f:=prC) (fun _=>rfl),(by have hm:maxLen=9223372036854775807:=rfl;simp[upto];first | omega | (simp;omega) | grind[Zj]),(by have hm:maxLen=9223372036854775807:=rfl;simp[upto];first | omega | (simp;omega) | grind[Zj]),fun _ _ _ _ _ hl=>(hl.dep 10 43 _ rfl rfl rfl rfl)⟩
   exact fun h=>Zr rfl h
   exact fun _ _=>⟨rfl,fun _ _ _ hx hl _=>Z7 rfl (hl.env 0 0 _ rfl rfl) hx⟩
   exact fun _ _=>⟨rfl,fun _ _ _ hx hl _=>Z7 rfl (hl.env 2 5 _ rfl rfl) hx⟩
   exact fun _ _=>⟨rfl,fun _ _ _ hx hl _=>Xw (ys:=l.take k) (lo:=0) (hi:=k) List.drop_zero Zo (fun _=>rfl) rfl (hl.dep 1 34 _ rfl rfl rfl rfl) rfl (hl.dep 2 35 _ rfl rfl rfl rfl) sfz sfz hx⟩
   exact fun h=>Zr rfl h
   exact fun _ _=>⟨rfl,fun _ _ _ hx hl _=>ZcY YI rfl (hl.env 1 3 _ rfl rfl) nlr hx⟩
   exact fun _ _=>⟨rfl,fun _ _ hk hx hl _=>QL Zo Zf5 dz rfl rfl (hl.dep 5 38 _ rfl rfl rfl rfl) (Zy hS _ hk hx _ nlr) (jo hJ hx)⟩
   exact fun h=>Zr rfl h
   exact fun _ _=>⟨rfl,fun _ _ _ hx hl _=>Z7 rfl (hl.env 0 0 _ rfl rfl) hx⟩
   exact fun _ _=>⟨rfl,fun _ _ _ hx hl _=>Z7 rfl (hl.env 2 5 _ rfl rfl) hx⟩
   exact fun _ _=>⟨rfl,fun _ _ _ hx hl _=>Xw (ys:=l.drop k) (lo:=k) (hi:=l.length) (by rw[List.take_length]) Zo (fun _=>rfl) rfl (hl.dep 8 41 _ rfl rfl rfl rfl) (hl.dep 9 42 _ rfl rfl rfl rfl) rfl sfz sfz hx⟩
   exact fun h=>Zr rfl h
   exact fun h=>Zr rfl h
   clear a w h
   exact nx (tw (fun h=>ZF hS h (m:=0) (s:=4) rfl) (tRo 0 (hE:=congrArg (fun z=>AV.rd (Xa z)) (show((l.take k)++([p])++(l.drop k))=(Zco l p)from by rw[ZiB l p k f1_1 f1_2 (by grind),if_neg (by simp[Zfe];grind)];simp))))
theorem c_Join (ws zs:List Pr) (b:(ws.length+zs.length+1)*32≤140737488351264):Fn Tryz.prog J 154 [.rd (Xa ws),.rd (Xa zs)] (.rd (Xa (Zfo ws zs))):=by
 refine fE Tryz.func154 fun S w0 hS hJ0=>?_
 refine tw Z6 (ln 0 fun hl1=>?_)
 refine ln 1 fun hl2=>?_
 refine qso tb hJ [0,1] [_] U2 ?_
 refine tsq (XA Zo hJ rfl rfl rfl (lb rfl) fun v1=>?_)
 refine snK 1 tb rfl (seK [0,2,3] U3 rfl ?_)
 refine nx (Zd (tw (fun h=>ZF hS h (m:=0) (s:=5) rfl) (qso tb hJ [0,1,2,1000] [_] U4 ?_)))
 refine Zc (lpo (ι:=Nat×(List Pr)) (fun(k,out)=>(k≤ws.length)∧(out=(ws.take k).foldl Zco [])∧(out.length≤k)) (fun(_,_)=>[]) (fun(k,out)=>[(6,.int (k:Nat)),(5,.rd (Xa out))]) (fun(k,_)=>ws.length-k) [1,2,3,0] U2 (0,[]) ⟨nzl,by simp,by simp⟩ ?_)
 rintro⟨k,out⟩ ⟨f1_1,f1_2,f1_3⟩
 refine Zd (ZE tb hJ [0,1,2,3,1003] [_,_,.int (ws.length:Nat),_] [2] U5 rfl ⟨ZX ZH,trivial⟩ ?_)
 refine ln 3 fun hl3=>?_
 refine cj 4 (fun hb1=>?_) fun hb1=>?_
 ·
  try simp at hb1
  refine Za (nx (Zd (Zc (YA tb hJ [0,1,2,1005,1006] (V3 [.ptr (prC (ge ws k)),_,.rd (Xa (Zco out (ge ws k))),_]) [3,5] U5 rfl ⟨iIx Zo,iFo hS hJ (c_put hJ out (ge ws k) (by exact Nat.le_trans (Nat.mul_le_mul_right 32 oz) b)) ZkC,trivial⟩ ?_))))
  refine nx (ln 3 fun hl4=>?_)
  refine YA tb hJ [0,1,4,1002] [_,.int (k+1:Nat),_] [1] U4 rfl ⟨Yf,trivial⟩ ?_
  exact YK (k+1,(Zco out (ge ws k))) [0,1,3,2] ⟨oz,by rw[f1_2,ZeH oz],by have:=ZjU out (ge ws k);omega⟩
 ·
  try simp at hb1
  refine Zp (nx (Zd (qso tb hJ [1,3,1000] [_] U3 ?_)))
  refine Zc (lpo (ι:=Nat×(List Pr)) (fun(j,out2)=>(j≤zs.length)∧(out2=(ws++zs.take j).foldl Zco [])∧(out2.length≤ws.length+j)) (fun(_,_)=>[]) (fun(j,out2)=>[(7,.int (j:Nat)),(5,.rd (Xa out2))]) (fun(j,_)=>zs.length-j) [0,2,1] [_] (0,out) ⟨nzl,by rw[f1_2,Zz oz];simp,oz⟩ ?_)
  rintro⟨j,out2⟩ ⟨f2_1,f2_2,f2_3⟩
  refine Zd (ZE tb hJ [0,1,2,1003] [_,_,.int (zs.length:Nat),_] [2] U4 rfl ⟨ZX ZH,trivial⟩ ?_)
  refine ln 2 fun hl5=>?_
  refine cj 3 (fun hb2=>?_) fun hb2=>?_
  ·
   try simp at hb2
   refine Za (nx (Zd (Zc (YA tb hJ [0,1,1005,1006] (V3 [.ptr (prC (ge zs j)),_,.rd (Xa (Zco out2 (ge zs j))),_]) [3,5] U4 rfl ⟨iIx Zo,iFo hS hJ (c_put hJ out2 (ge zs j) (by exact Nat.le_trans (Nat.mul_le_mul_right 32 oz) b)) ZkC,trivial⟩ ?_))))
   refine nx (ln 2 fun hl6=>?_)
   refine YA tb hJ [0,3,1002] [_,.int (j+1:Nat),_] [1] U3 rfl ⟨Yf,trivial⟩ ?_
   exact YK (j+1,(Zco out2 (ge zs j))) [0,2,1] ⟨oz,by rw[f2_2,Z1 oz,←List.append_assoc];simp only[List.foldl_append,List.foldl_cons,List.foldl_nil],by have:=ZjU out2 (ge zs j);omega⟩
  ·
   try simp at hb2
   refine Zp (nx (qso tb hJ [1001] U2 [_] ?_))
   exact tRo 0 (hE:=congrArg (fun z=>AV.rd (Xa z)) (show out2=(Zfo ws zs)from by rw[f2_2,Zz (xs:=zs) oz];rfl))
end
theorem Zh7 {J:WP} (hJ:Stab J) (d:Db) (k:Nat) (y:Hy) (bs:List Hy) (dm:Bool) (hk0:k<d.frames.length) (hf:d.frames.length≤400) (hz:∀ i,i<k+1→(ge d.frames i).hyps.length≤40∧(ge d.frames i).dummies.length≤40) (hb:bs.length≤80):Fn Tryz.prog J 100 [.agg (dbC d),.int (k:Nat),.agg (hyC y),.rd (Xl bs),.bool dm] (.int (ZcO d k y bs dm)):=by
 refine fE Tryz.func100 fun S w0 hS hJ0=>?_
 refine tw Z6 (ln 3 fun hl1=>?_)
 refine ZE tb hJ [1,3,4,1000,1001] [.ptr (dbC d),.ptr (hyC y),_] [0,1] U5 rfl ⟨iBo hS hJ,iBo hS hJ,trivial⟩ ?_
 refine ZE tb hJ (r5 [1001,1003]) [_,_,.int (y.text.length:Nat),_] [2] U7 rfl ⟨ZX Zs,trivial⟩ ?_
 refine ln 5 fun hl2=>?_
 refine Zd (ZE tb hJ [0,1,3,4,1032] [_,_,.bool (ZdF y.label),_,_,_,_,_,_,_,_,_,_,_,_,_,_,_,_,_,_,_,_,_,_,_,_,_,_,_,_,_,_] [2] U5 rfl ⟨iFo hS hJ (Ze2 hJ y.label) Zi9,trivial⟩ ?_)
 refine cj 4 (fun hb1=>?_) fun hb1=>?_
 ·
  replace hb1:Q1 y dm=true:=hb1
  refine qso tb hJ [1000] [_] [_] ?_
  exact tRo 0 (hE:=eI (by subst_vars;grind[ZcO]))
 ·
  replace hb1:Q1 y dm=false:=hb1
  have hy1:=ZhT hb1
  refine Za (nx (ZE tb hJ [0,1,2,3,1009] [_,_,.int (k+1:Nat),_,_,.tup [.bool (frL d (k+1) y.label),.bool (hyL d (k+1) y.label)],_,_,_,_,_] [2,5] U5 rfl ⟨Yf,iFo hS hJ (Zjf hJ d (k+1) y.label sfz (hz)) Zi8,trivial⟩ ?_))
  refine Zd (ZE tb hJ [0,1,2,3,1006] (V5 [.bool (ZcS d y.label),_]) [5] U5 rfl ⟨iFo hS hJ (ZgK hJ d y.label) Zi7,trivial⟩ ?_)
  refine cj 4 (fun hb2=>?_) fun hb2=>?_
  ·
   replace hb2:(frL d (k+1) y.label||ZcS d y.label)=true:=hb2
   refine qso tb hJ [1000] [_] [_] ?_
   exact tRo 0 (hE:=eI (by subst_vars;grind[ZcO]))
  ·
   replace hb2:(frL d (k+1) y.label||ZcS d y.label)=false:=hb2
   refine Za (nx (Zd (qso tb hJ [0,1,2,3,1000] [_] U5 ?_)))
   refine Zc (lpo (ι:=Nat) (fun j=>(j≤bs.length)∧((bs.take j).any (Zlw y)=false)) (fun _=>[]) (fun j=>[(14,.int (j:Nat))]) (fun j=>bs.length-j) (r5 []) U4 0 ⟨nzl,rfl⟩ ?_)
   rintro j ⟨f1_1,f1_2⟩
   refine Zd (ZE tb hJ (r5 [1003]) [_,_,.int (bs.length:Nat),_] [2] U6 rfl ⟨ZX Zx,trivial⟩ ?_)
   refine cj 5 (fun hb3=>?_) fun hb3=>?_
   ·
    try simp at hb3
    refine Za (nx (Zd (Zc (ZE tb hJ (r5 [1007]) [_,_,.ptr (hyC (ge bs j)),_,_,_,_,_] [2] U6 rfl ⟨iIx Zq,trivial⟩ ?_))))
    refine cj 5 (fun hb4=>?_) fun hb4=>?_
    ·
     try simp at hb4
     have q4:=Zai (p:=Zlw y) (xs:=bs) (k:=j) oz (by simpa [Zlw]using hb4)
     refine qso tb hJ [1000] [_] [_] ?_
     exact tRo 0 (hE:=eI (by subst_vars;grind[ZcO]))
    ·
     try simp at hb4
     refine Za (nx (YA tb hJ [0,1,2,3,1002] [_,.int (j+1:Nat),_] [1] U5 rfl ⟨Yf,trivial⟩ ?_))
     exact YK (j+1) (r5 []) ⟨oz,Qm oz f1_2 (by simpa [Zlw]using hb4)⟩
   ·
    try simp at hb3
    have e3:=Ql (p:=Zlw y) f1_2 oz
    refine Zp (nx (Zd (ZE tb hJ [0,1,2,3,1021] (V7 [.ptr [lS (ge y.text 0)],_,.bool (decide ((ge y.text 0)∈d.consts)),_,_,_,_,_,_,.ptr [lS (ge y.text 1)],_,.bool (decide ((ge y.text 1)∈d.vars)),_,_,_]) [7,9,16,18] U5 rfl ⟨gIx (k:=0) Zf (hk:=fun(hc':(y.floating==true)=true)=>by(try simp at hc');omega),iFo hS hJ (ZbF hJ d.consts (ge y.text 0)) XC,gIx (k:=1) Zf (hk:=fun(hc':((y.floating==true)&& ((!(decide ((ge y.text 0)∈d.consts)))==false))=true)=>by(try simp at hc');have:=Yu hb1 (by simp_all);omega),iFo hS hJ (ZbF hJ d.vars (ge y.text 1)) XC,trivial⟩ ?_)))
    refine cj 4 (fun hb5=>?_) fun hb5=>?_
    ·
     replace hb5:ZeD d y=true:=hb5
     refine qso tb hJ [1000] [_] [_] ?_
     exact tRo 0 (hE:=eI (by subst_vars;grind[ZcO]))
    ·
     replace hb5:ZeD d y=false:=hb5
     refine Za (nx (Zd (qso tb hJ [0,1,2,3,1002] U3 U5 ?_)))
     refine cj 4 (fun hb6=>?_) fun hb6=>?_
     ·
      try simp at hb6
      refine ZE tb hJ [0,1,2,3,1004] (V3 [.int (ZaS d y.text),_]) [3] U5 rfl ⟨iFo hS hJ (Zh8 hJ d y.text sfz) ZkK,trivial⟩ ?_
      refine qso tb hJ (r5 [1001]) U2 U6 ?_
      refine cj 5 (fun hb7=>?_) fun hb7=>?_
      ·
       refine qso tb hJ [1001] U2 [_] ?_
       exact tRo 0 (hE:=eI (by subst_vars;grind[ZcO]))
      ·
       refine Za (nx (tsq (XA Zq hJ rfl rfl rfl (lb rfl) fun v1=>?_)))
       refine snK 1 tb rfl (seK [0,2,3,4,5] U5 rfl ?_)
       refine nx (Zd (qso tb hJ (r5 [1000]) [_] U6 ?_))
       refine Zc (lpo (ι:=Nat×Value×(List Hy)) (fun(i,_,others)=>(i≤k)∧(others=oth d i)∧(others.length≤80*i)) (fun(_,vo,others)=>[OB.row vo 60 3 (others.map hyC)]) (fun(i,vo,_)=>[(17,.int (i:Nat)),(16,.lit vo)]) (fun(i,_,_)=>k-i) [1,2,3,4,5,0] U4 (0,v1,([]:List Hy)) ⟨nzl,rfl,nzl⟩ ?_)
       rintro⟨i,vo,others⟩ ⟨f2_1,f2_2,f2_3⟩
       refine Zd (qso tb hJ (r6 [1002]) U3 U7 ?_)
       refine cj 6 (fun hb8=>?_) fun hb8=>?_
       ·
        try simp at hb8
        refine Za (nx (Zd (Zc (Ya (snK 4 tb rfl (sy (.ptr (frC (ge d.frames i))) (fun h=>ZK (i:=(i:Int)) Z5 rfl (h.get 1 rfl) (h.get 0 rfl) nnn (ZR (xs:=d.frames) (k:=i) sfz) rfl h.x) ?_))))))
        refine snK 1 tb rfl (sy (.rd (Xl ((ge d.frames i).hyps++(ge d.frames i).dummies))) (fun h=>ZcZ (ZrU hJ (ge d.frames i) (by have:=hz i oz;omega)) ZgF rfl (Zy hS _ h.keep h.x) (h.x.1) (Zb (h.get 0 rfl) Zk) (jo hJ h.x)) ?_)
        refine Z2 (f:=hyC) (m:=6) (s:=126) others ((ge d.frames i).hyps++(ge d.frames i).dummies) (fun _=>rfl) Qq hJ hJ0 rfl rfl rfl (lb rfl) rfl rfl (fun a w h=>(h.get 0 rfl)) (by first | (have:=hz i oz;simp;omega) | (have:=hz i oz;refine XN ?_;simp;omega)) (by first | (have:=hz i oz;simp;omega) | (have:=hz i oz;refine XN ?_;simp;omega)) fun v2=>?_
        refine snK 1 tb rfl (seK [0,2,6,9,10,11,12,13] U8 rfl ?_)
        refine nx (ln 1 fun hl3=>?_)
        refine ln 2 fun hl4=>?_
        refine YA tb hJ [0,3,4,5,6,1002] [_,.int (i+1:Nat),_] [1] U6 rfl ⟨Yf,trivial⟩ ?_
        exact YK (i+1,v2,others++((ge d.frames i).hyps++(ge d.frames i).dummies)) [1,2,3,4,5,0] ⟨oz,by rw[Zbs oz,f2_2],by have:=hz i oz;simp;omega⟩
       ·
        try simp at hb8
        have hik:i=k:=by omega
        rw[hik]at f2_2 f2_3
        refine Zp (nx (Zd (tw (fun h=>ZF hS h (m:=5) (s:=16) rfl) (qso tb hJ [0,2,4,1001] U2 U4 ?_))))
        refine ln 0 fun hl5=>?_
        refine cj 3 (fun hb9=>?_) fun hb9=>?_
        ·
         try simp at hb9
         have hy2:=Yu hb1 hb9
         refine Zd (fun a w h=>ZaA (id:=24) (t:=50) (e:=60) (size:=3) (bytes:=48) (i0:=0) (fol:=5) (d:=18) (ch:=[(2,(others.map hyC)),(4,(bs.map hyC))]) (fun ix'=>([.any,.rd (Xl others),.any,.rd (Xl bs),.any,.any]:List AV).getD ix' .any) (fun _=>true) [(0,16,.rd (Xl others)),(1,3,.rd (Xl bs)),(2,7,.ptr (hyC y))] ((others++bs).map hyC) yz ?r24_1 hJ hJ0 h YZ rfl rfl rfl rfl ⟨?_,?_,?_,?_,?_,?_,trivial⟩ ⟨rfl,rfl,rfl,rfl,rfl,rfl,trivial⟩ (fun v3=>?n24_1))
         case r24_1=>
          refine Row.mk' Qq ⟨_,rfl,rfl,rfl,rfl,rfl⟩ ⟨?x24_1_0,?x24_1_1,trivial⟩ ⟨_,_,_,_,rfl,rfl,rfl,rfl,rfl,rfl,rfl,rfl,rfl⟩ rfl rfl rfl
          case x24_1_0=>exact⟨_,_,_,_,rfl,rfl,rfl,rfl,rfl,rfl,rfl,rfl,XB (f:=hyC) (fun _=>rfl),(by have hm:maxLen=9223372036854775807:=rfl;simp[upto];first | (have:=hz i oz;simp;omega) | (have:=hz i oz;refine XN ?_;simp;omega)),(by have hm:maxLen=9223372036854775807:=rfl;simp[upto];first | (have:=hz i oz;simp;omega) | (have:=hz i oz;refine XN ?_;simp;omega)),fun _ _ _ _ _ hl=>(hl.dep 1 137 _ rfl rfl rfl rfl)⟩
          case x24_1_1=>exact⟨_,_,_,_,rfl,rfl,rfl,rfl,rfl,rfl,rfl,rfl,XB (f:=hyC) (fun _=>rfl),(by have hm:maxLen=9223372036854775807:=rfl;simp[upto];first | (have:=hz i oz;simp;omega) | (have:=hz i oz;refine XN ?_;simp;omega)),(by have hm:maxLen=9223372036854775807:=rfl;simp[upto];first | (have:=hz i oz;simp;omega) | (have:=hz i oz;refine XN ?_;simp;omega)),fun _ _ _ _ _ hl=>(hl.dep 3 139 _ rfl rfl rfl rfl)⟩
         exact fun h=>Zr rfl h
         exact fun _ _=>⟨rfl,fun _ _ _ hx hl _=>Z7 rfl (hl.env 0 16 _ rfl rfl) hx⟩
         exact fun h=>Zr rfl h
         exact fun _ _=>⟨rfl,fun _ _ _ hx hl _=>Z7 rfl (hl.env 1 3 _ rfl rfl) hx⟩
         exact fun h=>Zr rfl h
         exact fun h=>Zr rfl h
         clear a w h
         refine nx (Zd (tw (fun h=>ZF hS h (m:=0) (s:=18) rfl) (qso tb hJ [0,1,2,3,1000] [_] U5 ?_)))
         refine ln 0 fun hl6=>?_
         refine Zc (lpo (ι:=Nat) (fun j=>(j≤(others++bs).length)∧(((others++bs).take j).any (ZhS y)=false)) (fun _=>[]) (fun j=>[(19,.int (j:Nat))]) (fun j=>(others++bs).length-j) (r5 []) U4 0 ⟨nzl,rfl⟩ ?_)
         rintro j ⟨f3_1,f3_2⟩
         refine Zd (ZE tb hJ (r5 [1003]) [_,_,.int ((others++bs).length:Nat),_] [2] U6 rfl ⟨ZX Zx,trivial⟩ ?_)
         refine cj 5 (fun hb10=>?_) fun hb10=>?_
         ·
          try simp at hb10
          refine Za (nx (Zd (Zc (ZE tb hJ (r5 [1006,1021]) [_,_,.ptr (hyC (ge (others++bs) j)),_,_,_,.rd (Zi (y.text.drop 1)),.bool (ofB (ge (others++bs) j) (y.text.drop 1)),_,_,_,.ptr (hyC (ge (others++bs) j)),_,_,.ptr [lS (ge ((ge (others++bs) j).text) 0)],_,_,_,.ptr [lS (ge y.text 0)],_,_,_] [2,6,7,11,14,18] U7 rfl ⟨iIx Zq,fun _ _ _ hx hl _=>Xw (ys:=y.text.drop 1) (lo:=1) (hi:=y.text.length) (by rw[List.take_length]) Zf (fun _=>rfl) rfl (hl.dep 5 152 _ rfl rfl rfl rfl) (Rel.of_lit (.int .i64 1)) rfl sfz sfz hx,iFo hS hJ (c_of hJ (ge (others++bs) j) (y.text.drop 1)) ZcG,gIx Zq (hk:=fun(hc':((ofB (ge (others++bs) j) (y.text.drop 1))==true)=true)=>by(try simp at hc');first | omega | (simp;omega) | grind[Zj]),gIx (k:=0) Zf (hk:=fun(hc':((ofB (ge (others++bs) j) (y.text.drop 1))==true)=true)=>by(try simp at hc');have:=Zm9 hc';omega),gIx (k:=0) Zf (hk:=fun(hc':((ofB (ge (others++bs) j) (y.text.drop 1))==true)=true)=>by(try simp at hc');first | omega | (simp;omega) | grind[Zj]),trivial⟩ ?_))))
          refine ln 5 fun hl7=>?_
          refine cj 6 (fun hb11=>?_) fun hb11=>?_
          ·
           try simp at hb11
           have q11:=Zai (p:=ZhS y) (xs:=others++bs) (k:=j) (by simp;omega) (by simpa [ZhS]using hb11)
           refine qso tb hJ [1000] [_] [_] ?_
           exact tRo 0 (hE:=eI (by subst_vars;grind[ZcO]))
          ·
           try simp at hb11
           refine Za (nx (YA tb hJ [0,1,2,3,1002] [_,.int (j+1:Nat),_] [1] U5 rfl ⟨Yf,trivial⟩ ?_))
           exact YK (j+1) (r5 []) ⟨by simp;omega,Qm (by simp;omega) f3_2 (by simp[ZhS];grind)⟩
         ·
          try simp at hb10
          have e10:=Ql (p:=ZhS y) f3_2 (by simp;omega)
          refine Zp (nx (qso tb hJ [1,2,3,1000] [_] U4 ?_))
          refine Zc (lpo (ι:=Nat) (fun j=>(j≤bs.length)∧((bs.take j).any (hOf y)=false)) (fun _=>[]) (fun j=>[(20,.int (j:Nat))]) (fun j=>bs.length-j) [0,1,2,3] U3 0 ⟨nzl,rfl⟩ ?_)
          rintro j ⟨f4_1,f4_2⟩
          refine Zd (ZE tb hJ [0,1,2,3,1003] [_,_,.int (bs.length:Nat),_] [2] U5 rfl ⟨ZX Zx,trivial⟩ ?_)
          refine cj 4 (fun hb12=>?_) fun hb12=>?_
          ·
           try simp at hb12
           refine Za (nx (Zd (Zc (ZE tb hJ [0,1,2,3,1006,1007] [_,_,.ptr (hyC (ge bs j)),_,_,_,.rd (Zi (y.text.drop 1)),.bool (ofB (ge bs j) (y.text.drop 1))] [2,6,7] U6 rfl ⟨iIx Zq,fun _ _ _ hx hl _=>Xw (ys:=y.text.drop 1) (lo:=1) (hi:=y.text.length) (by rw[List.take_length]) Zf (fun _=>rfl) rfl (hl.dep 5 180 _ rfl rfl rfl rfl) (Rel.of_lit (.int .i64 1)) rfl sfz sfz hx,iFo hS hJ (c_of hJ (ge bs j) (y.text.drop 1)) ZcG,trivial⟩ ?_))))
           refine ln 4 fun hl8=>?_
           refine cj 5 (fun hb13=>?_) fun hb13=>?_
           ·
            try simp at hb13
            have q13:=Zai (p:=hOf y) (xs:=bs) (k:=j) oz (by simpa [hOf]using hb13)
            refine qso tb hJ [1000] [_] [_] ?_
            exact tRo 0 (hE:=eI (by subst_vars;grind[ZcO]))
           ·
            try simp at hb13
            refine Za (nx (YA tb hJ [0,1,2,1002] [_,.int (j+1:Nat),_] [1] U4 rfl ⟨Yf,trivial⟩ ?_))
            exact YK (j+1) [0,1,2,3] ⟨oz,Qm oz f4_2 (by simpa [hOf]using hb13)⟩
          ·
           try simp at hb12
           have e12:=Ql (p:=hOf y) f4_2 oz
           refine Zp (nx (Zd (qso tb hJ [0,2,1000] [_] U3 ?_)))
           refine Zc (lpo (ι:=Nat) (fun j=>(j≤others.length)∧((others.take j).any (Zc3 y)=false)) (fun _=>[]) (fun j=>[(21,.int (j:Nat))]) (fun j=>others.length-j) [0,1,2] U2 0 ⟨nzl,rfl⟩ ?_)
           rintro j ⟨f5_1,f5_2⟩
           refine Zd (ZE tb hJ [0,1,2,1003] [_,_,.int (others.length:Nat),_] [2] U4 rfl ⟨ZX Zx,trivial⟩ ?_)
           refine cj 3 (fun hb14=>?_) fun hb14=>?_
           ·
            try simp at hb14
            refine Za (nx (Zd (Zc (ZE tb hJ [0,1,2,1016] [_,_,.ptr (hyC (ge others j)),_,_,_,_,_,_,_,_,.ptr (hyC (ge others j)),_,_,.bool (Zlv (ge others j) y),_,_] [2,11,14] U4 rfl ⟨iIx Zq,gIx Zq (hk:=fun(hc':((decide (((ge others j).label)=y.label))==true)=true)=>by(try simp at hc');first | omega | (simp;omega) | grind[Zj]),iFo hS hJ (ZcH hJ (ge others j) y) Zd0,trivial⟩ ?_))))
            refine cj 3 (fun hb15=>?_) fun hb15=>?_
            ·
             try simp at hb15
             have q15:=Zai (p:=Zc3 y) (xs:=others) (k:=j) oz (by simpa [Zc3]using hb15)
             refine qso tb hJ [1000] [_] [_] ?_
             exact tRo 0 (hE:=eI (by subst_vars;grind[ZcO]))
            ·
             try simp at hb15
             refine Za (nx (YA tb hJ [0,1,1002] [_,.int (j+1:Nat),_] [1] U3 rfl ⟨Yf,trivial⟩ ?_))
             exact YK (j+1) [0,1,2] ⟨oz,Qm oz f5_2 (by simp[Zc3];grind)⟩
           ·
            try simp at hb14
            have e14:=Ql (p:=Zc3 y) f5_2 oz
            refine Zp (nx (qso tb hJ [1000] [_] [_] ?_))
            exact tRo 0 (hE:=eI (by subst_vars;grind[ZcO]))
        ·
         try simp at hb9
         refine Za (nx (Zd (qso tb hJ [0,2,1000] [_] U3 ?_)))
         refine Zc (lpo (ι:=Nat) (fun j=>(j≤others.length)∧((others.take j).any (Zc3 y)=false)) (fun _=>[]) (fun j=>[(21,.int (j:Nat))]) (fun j=>others.length-j) [0,1,2] U2 0 ⟨nzl,rfl⟩ ?_)
         rintro j ⟨f5_1,f5_2⟩
         refine Zd (ZE tb hJ [0,1,2,1003] [_,_,.int (others.length:Nat),_] [2] U4 rfl ⟨ZX Zx,trivial⟩ ?_)
         refine cj 3 (fun hb14=>?_) fun hb14=>?_
         ·
          try simp at hb14
          refine Za (nx (Zd (Zc (ZE tb hJ [0,1,2,1016] [_,_,.ptr (hyC (ge others j)),_,_,_,_,_,_,_,_,.ptr (hyC (ge others j)),_,_,.bool (Zlv (ge others j) y),_,_] [2,11,14] U4 rfl ⟨iIx Zq,gIx Zq (hk:=fun(hc':((decide (((ge others j).label)=y.label))==true)=true)=>by(try simp at hc');first | omega | (simp;omega) | grind[Zj]),iFo hS hJ (ZcH hJ (ge others j) y) Zd0,trivial⟩ ?_))))
          refine cj 3 (fun hb15=>?_) fun hb15=>?_
          ·
           try simp at hb15
           have q15:=Zai (p:=Zc3 y) (xs:=others) (k:=j) oz (by simpa [Zc3]using hb15)
           refine qso tb hJ [1000] [_] [_] ?_
           exact tRo 0 (hE:=eI (by subst_vars;grind[ZcO]))
          ·
           try simp at hb15
           refine Za (nx (YA tb hJ [0,1,1002] [_,.int (j+1:Nat),_] [1] U3 rfl ⟨Yf,trivial⟩ ?_))
           exact YK (j+1) [0,1,2] ⟨oz,Qm oz f5_2 (by simp[Zc3];grind)⟩
         ·
          try simp at hb14
          have e14:=Ql (p:=Zc3 y) f5_2 oz
          refine Zp (nx (qso tb hJ [1000] [_] [_] ?_))
          exact tRo 0 (hE:=eI (by subst_vars;grind[ZcO]))
     ·
      try simp at hb6
      refine Za (nx (tsq (XA Zq hJ rfl rfl rfl (lb rfl) fun v4=>?_)))
      refine snK 1 tb rfl (seK [0,2,3,4,5] U5 rfl ?_)
      refine nx (Zd (qso tb hJ (r5 [1000]) [_] U6 ?_))
      refine Zc (lpo (ι:=Nat×Value×(List Hy)) (fun(i,_,others)=>(i≤k)∧(others=oth d i)∧(others.length≤80*i)) (fun(_,vo,others)=>[OB.row vo 60 3 (others.map hyC)]) (fun(i,vo,_)=>[(17,.int (i:Nat)),(16,.lit vo)]) (fun(i,_,_)=>k-i) [1,2,3,4,5,0] U4 (0,v4,([]:List Hy)) ⟨nzl,rfl,nzl⟩ ?_)
      rintro⟨i,vo,others⟩ ⟨f2_1,f2_2,f2_3⟩
      refine Zd (qso tb hJ (r6 [1002]) U3 U7 ?_)
      refine cj 6 (fun hb8=>?_) fun hb8=>?_
      ·
       try simp at hb8
       refine Za (nx (Zd (Zc (Ya (snK 4 tb rfl (sy (.ptr (frC (ge d.frames i))) (fun h=>ZK (i:=(i:Int)) Z5 rfl (h.get 1 rfl) (h.get 0 rfl) nnn (ZR (xs:=d.frames) (k:=i) sfz) rfl h.x) ?_))))))
       refine snK 1 tb rfl (sy (.rd (Xl ((ge d.frames i).hyps++(ge d.frames i).dummies))) (fun h=>ZcZ (ZrU hJ (ge d.frames i) (by have:=hz i oz;omega)) ZgF rfl (Zy hS _ h.keep h.x) (h.x.1) (Zb (h.get 0 rfl) Zk) (jo hJ h.x)) ?_)
       refine Z2 (f:=hyC) (m:=6) (s:=126) others ((ge d.frames i).hyps++(ge d.frames i).dummies) (fun _=>rfl) Qq hJ hJ0 rfl rfl rfl (lb rfl) rfl rfl (fun a w h=>(h.get 0 rfl)) (by first | (have:=hz i oz;simp;omega) | (have:=hz i oz;refine XN ?_;simp;omega)) (by first | (have:=hz i oz;simp;omega) | (have:=hz i oz;refine XN ?_;simp;omega)) fun v5=>?_
       refine snK 1 tb rfl (seK [0,2,6,9,10,11,12,13] U8 rfl ?_)
       refine nx (ln 1 fun hl9=>?_)
       refine ln 2 fun hl10=>?_
       refine YA tb hJ [0,3,4,5,6,1002] [_,.int (i+1:Nat),_] [1] U6 rfl ⟨Yf,trivial⟩ ?_
       exact YK (i+1,v5,others++((ge d.frames i).hyps++(ge d.frames i).dummies)) [1,2,3,4,5,0] ⟨oz,by rw[Zbs oz,f2_2],by have:=hz i oz;simp;omega⟩
      ·
       try simp at hb8
       have hik:i=k:=by omega
       rw[hik]at f2_2 f2_3
       refine Zp (nx (Zd (tw (fun h=>ZF hS h (m:=5) (s:=16) rfl) (qso tb hJ [0,2,4,1001] U2 U4 ?_))))
       refine ln 0 fun hl11=>?_
       refine cj 3 (fun hb9=>?_) fun hb9=>?_
       ·
        try simp at hb9
        have hy2:=Yu hb1 hb9
        refine Zd (fun a w h=>ZaA (id:=24) (t:=50) (e:=60) (size:=3) (bytes:=48) (i0:=0) (fol:=5) (d:=18) (ch:=[(2,(others.map hyC)),(4,(bs.map hyC))]) (fun ix'=>([.any,.rd (Xl others),.any,.rd (Xl bs),.any,.any]:List AV).getD ix' .any) (fun _=>true) [(0,16,.rd (Xl others)),(1,3,.rd (Xl bs)),(2,7,.ptr (hyC y))] ((others++bs).map hyC) yz ?r24_2 hJ hJ0 h YZ rfl rfl rfl rfl ⟨?_,?_,?_,?_,?_,?_,trivial⟩ ⟨rfl,rfl,rfl,rfl,rfl,rfl,trivial⟩ (fun v6=>?n24_2))
        case r24_2=>
         refine Row.mk' Qq ⟨_,rfl,rfl,rfl,rfl,rfl⟩ ⟨?x24_2_0,?x24_2_1,trivial⟩ ⟨_,_,_,_,rfl,rfl,rfl,rfl,rfl,rfl,rfl,rfl,rfl⟩ rfl rfl rfl
         case x24_2_0=>exact⟨_,_,_,_,rfl,rfl,rfl,rfl,rfl,rfl,rfl,rfl,XB (f:=hyC) (fun _=>rfl),(by have hm:maxLen=9223372036854775807:=rfl;simp[upto];first | (have:=hz i oz;simp;omega) | (have:=hz i oz;refine XN ?_;simp;omega)),(by have hm:maxLen=9223372036854775807:=rfl;simp[upto];first | (have:=hz i oz;simp;omega) | (have:=hz i oz;refine XN ?_;simp;omega)),fun _ _ _ _ _ hl=>(hl.dep 1 137 _ rfl rfl rfl rfl)⟩
         case x24_2_1=>exact⟨_,_,_,_,rfl,rfl,rfl,rfl,rfl,rfl,rfl,rfl,XB (f:=hyC) (fun _=>rfl),(by have hm:maxLen=9223372036854775807:=rfl;simp[upto];first | (have:=hz i oz;simp;omega) | (have:=hz i oz;refine XN ?_;simp;omega)),(by have hm:maxLen=9223372036854775807:=rfl;simp[upto];first | (have:=hz i oz;simp;omega) | (have:=hz i oz;refine XN ?_;simp;omega)),fun _ _ _ _ _ hl=>(hl.dep 3 139 _ rfl rfl rfl rfl)⟩
        exact fun h=>Zr rfl h
        exact fun _ _=>⟨rfl,fun _ _ _ hx hl _=>Z7 rfl (hl.env 0 16 _ rfl rfl) hx⟩
        exact fun h=>Zr rfl h
        exact fun _ _=>⟨rfl,fun _ _ _ hx hl _=>Z7 rfl (hl.env 1 3 _ rfl rfl) hx⟩
        exact fun h=>Zr rfl h
        exact fun h=>Zr rfl h
        clear a w h
        refine nx (Zd (tw (fun h=>ZF hS h (m:=0) (s:=18) rfl) (qso tb hJ [0,1,2,3,1000] [_] U5 ?_)))
        refine ln 0 fun hl12=>?_
        refine Zc (lpo (ι:=Nat) (fun j=>(j≤(others++bs).length)∧(((others++bs).take j).any (ZhS y)=false)) (fun _=>[]) (fun j=>[(19,.int (j:Nat))]) (fun j=>(others++bs).length-j) (r5 []) U4 0 ⟨nzl,rfl⟩ ?_)
        rintro j ⟨f3_1,f3_2⟩
        refine Zd (ZE tb hJ (r5 [1003]) [_,_,.int ((others++bs).length:Nat),_] [2] U6 rfl ⟨ZX Zx,trivial⟩ ?_)
        refine cj 5 (fun hb10=>?_) fun hb10=>?_
        ·
         try simp at hb10
         refine Za (nx (Zd (Zc (ZE tb hJ (r5 [1006,1021]) [_,_,.ptr (hyC (ge (others++bs) j)),_,_,_,.rd (Zi (y.text.drop 1)),.bool (ofB (ge (others++bs) j) (y.text.drop 1)),_,_,_,.ptr (hyC (ge (others++bs) j)),_,_,.ptr [lS (ge ((ge (others++bs) j).text) 0)],_,_,_,.ptr [lS (ge y.text 0)],_,_,_] [2,6,7,11,14,18] U7 rfl ⟨iIx Zq,fun _ _ _ hx hl _=>Xw (ys:=y.text.drop 1) (lo:=1) (hi:=y.text.length) (by rw[List.take_length]) Zf (fun _=>rfl) rfl (hl.dep 5 152 _ rfl rfl rfl rfl) (Rel.of_lit (.int .i64 1)) rfl sfz sfz hx,iFo hS hJ (c_of hJ (ge (others++bs) j) (y.text.drop 1)) ZcG,gIx Zq (hk:=fun(hc':((ofB (ge (others++bs) j) (y.text.drop 1))==true)=true)=>by(try simp at hc');first | omega | (simp;omega) | grind[Zj]),gIx (k:=0) Zf (hk:=fun(hc':((ofB (ge (others++bs) j) (y.text.drop 1))==true)=true)=>by(try simp at hc');have:=Zm9 hc';omega),gIx (k:=0) Zf (hk:=fun(hc':((ofB (ge (others++bs) j) (y.text.drop 1))==true)=true)=>by(try simp at hc');first | omega | (simp;omega) | grind[Zj]),trivial⟩ ?_))))
         refine ln 5 fun hl13=>?_
         refine cj 6 (fun hb11=>?_) fun hb11=>?_
         ·
          try simp at hb11
          have q11:=Zai (p:=ZhS y) (xs:=others++bs) (k:=j) (by simp;omega) (by simpa [ZhS]using hb11)
          refine qso tb hJ [1000] [_] [_] ?_
          exact tRo 0 (hE:=eI (by subst_vars;grind[ZcO]))
         ·
          try simp at hb11
          refine Za (nx (YA tb hJ [0,1,2,3,1002] [_,.int (j+1:Nat),_] [1] U5 rfl ⟨Yf,trivial⟩ ?_))
          exact YK (j+1) (r5 []) ⟨by simp;omega,Qm (by simp;omega) f3_2 (by simp[ZhS];grind)⟩
        ·
         try simp at hb10
         have e10:=Ql (p:=ZhS y) f3_2 (by simp;omega)
         refine Zp (nx (qso tb hJ [1,2,3,1000] [_] U4 ?_))
         refine Zc (lpo (ι:=Nat) (fun j=>(j≤bs.length)∧((bs.take j).any (hOf y)=false)) (fun _=>[]) (fun j=>[(20,.int (j:Nat))]) (fun j=>bs.length-j) [0,1,2,3] U3 0 ⟨nzl,rfl⟩ ?_)
         rintro j ⟨f4_1,f4_2⟩
         refine Zd (ZE tb hJ [0,1,2,3,1003] [_,_,.int (bs.length:Nat),_] [2] U5 rfl ⟨ZX Zx,trivial⟩ ?_)
         refine cj 4 (fun hb12=>?_) fun hb12=>?_
         ·
          try simp at hb12
          refine Za (nx (Zd (Zc (ZE tb hJ [0,1,2,3,1006,1007] [_,_,.ptr (hyC (ge bs j)),_,_,_,.rd (Zi (y.text.drop 1)),.bool (ofB (ge bs j) (y.text.drop 1))] [2,6,7] U6 rfl ⟨iIx Zq,fun _ _ _ hx hl _=>Xw (ys:=y.text.drop 1) (lo:=1) (hi:=y.text.length) (by rw[List.take_length]) Zf (fun _=>rfl) rfl (hl.dep 5 180 _ rfl rfl rfl rfl) (Rel.of_lit (.int .i64 1)) rfl sfz sfz hx,iFo hS hJ (c_of hJ (ge bs j) (y.text.drop 1)) ZcG,trivial⟩ ?_))))
          refine ln 4 fun hl14=>?_
          refine cj 5 (fun hb13=>?_) fun hb13=>?_
          ·
           try simp at hb13
           have q13:=Zai (p:=hOf y) (xs:=bs) (k:=j) oz (by simpa [hOf]using hb13)
           refine qso tb hJ [1000] [_] [_] ?_
           exact tRo 0 (hE:=eI (by subst_vars;grind[ZcO]))
          ·
           try simp at hb13
           refine Za (nx (YA tb hJ [0,1,2,1002] [_,.int (j+1:Nat),_] [1] U4 rfl ⟨Yf,trivial⟩ ?_))
           exact YK (j+1) [0,1,2,3] ⟨oz,Qm oz f4_2 (by simpa [hOf]using hb13)⟩
         ·
          try simp at hb12
          have e12:=Ql (p:=hOf y) f4_2 oz
          refine Zp (nx (Zd (qso tb hJ [0,2,1000] [_] U3 ?_)))
          refine Zc (lpo (ι:=Nat) (fun j=>(j≤others.length)∧((others.take j).any (Zc3 y)=false)) (fun _=>[]) (fun j=>[(21,.int (j:Nat))]) (fun j=>others.length-j) [0,1,2] U2 0 ⟨nzl,rfl⟩ ?_)
          rintro j ⟨f5_1,f5_2⟩
          refine Zd (ZE tb hJ [0,1,2,1003] [_,_,.int (others.length:Nat),_] [2] U4 rfl ⟨ZX Zx,trivial⟩ ?_)
          refine cj 3 (fun hb14=>?_) fun hb14=>?_
          ·
           try simp at hb14
           refine Za (nx (Zd (Zc (ZE tb hJ [0,1,2,1016] [_,_,.ptr (hyC (ge others j)),_,_,_,_,_,_,_,_,.ptr (hyC (ge others j)),_,_,.bool (Zlv (ge others j) y),_,_] [2,11,14] U4 rfl ⟨iIx Zq,gIx Zq (hk:=fun(hc':((decide (((ge others j).label)=y.label))==true)=true)=>by(try simp at hc');first | omega | (simp;omega) | grind[Zj]),iFo hS hJ (ZcH hJ (ge others j) y) Zd0,trivial⟩ ?_))))
           refine cj 3 (fun hb15=>?_) fun hb15=>?_
           ·
            try simp at hb15
            have q15:=Zai (p:=Zc3 y) (xs:=others) (k:=j) oz (by simpa [Zc3]using hb15)
            refine qso tb hJ [1000] [_] [_] ?_
            exact tRo 0 (hE:=eI (by subst_vars;grind[ZcO]))
           ·
            try simp at hb15
            refine Za (nx (YA tb hJ [0,1,1002] [_,.int (j+1:Nat),_] [1] U3 rfl ⟨Yf,trivial⟩ ?_))
            exact YK (j+1) [0,1,2] ⟨oz,Qm oz f5_2 (by simp[Zc3];grind)⟩
          ·
           try simp at hb14
           have e14:=Ql (p:=Zc3 y) f5_2 oz
           refine Zp (nx (qso tb hJ [1000] [_] [_] ?_))
           exact tRo 0 (hE:=eI (by subst_vars;grind[ZcO]))
       ·
        try simp at hb9
        refine Za (nx (Zd (qso tb hJ [0,2,1000] [_] U3 ?_)))
        refine Zc (lpo (ι:=Nat) (fun j=>(j≤others.length)∧((others.take j).any (Zc3 y)=false)) (fun _=>[]) (fun j=>[(21,.int (j:Nat))]) (fun j=>others.length-j) [0,1,2] U2 0 ⟨nzl,rfl⟩ ?_)
        rintro j ⟨f5_1,f5_2⟩
        refine Zd (ZE tb hJ [0,1,2,1003] [_,_,.int (others.length:Nat),_] [2] U4 rfl ⟨ZX Zx,trivial⟩ ?_)
        refine cj 3 (fun hb14=>?_) fun hb14=>?_
        ·
         try simp at hb14
         refine Za (nx (Zd (Zc (ZE tb hJ [0,1,2,1016] [_,_,.ptr (hyC (ge others j)),_,_,_,_,_,_,_,_,.ptr (hyC (ge others j)),_,_,.bool (Zlv (ge others j) y),_,_] [2,11,14] U4 rfl ⟨iIx Zq,gIx Zq (hk:=fun(hc':((decide (((ge others j).label)=y.label))==true)=true)=>by(try simp at hc');first | omega | (simp;omega) | grind[Zj]),iFo hS hJ (ZcH hJ (ge others j) y) Zd0,trivial⟩ ?_))))
         refine cj 3 (fun hb15=>?_) fun hb15=>?_
         ·
          try simp at hb15
          have q15:=Zai (p:=Zc3 y) (xs:=others) (k:=j) oz (by simpa [Zc3]using hb15)
          refine qso tb hJ [1000] [_] [_] ?_
          exact tRo 0 (hE:=eI (by subst_vars;grind[ZcO]))
         ·
          try simp at hb15
          refine Za (nx (YA tb hJ [0,1,1002] [_,.int (j+1:Nat),_] [1] U3 rfl ⟨Yf,trivial⟩ ?_))
          exact YK (j+1) [0,1,2] ⟨oz,Qm oz f5_2 (by simp[Zc3];grind)⟩
        ·
         try simp at hb14
         have e14:=Ql (p:=Zc3 y) f5_2 oz
         refine Zp (nx (qso tb hJ [1000] [_] [_] ?_))
         exact tRo 0 (hE:=eI (by subst_vars;grind[ZcO]))
theorem Zjc {J:WP} (hJ:Stab J) (d:Db) (f:Fr) (h1:d.vars.length≤8000) (h2:f.hyps.length≤40) (h3:f.wide.length*32≤140737488351232) (h4:∀ h∈f.hyps,h.floating=true→h.text.length=2):Fn Tryz.prog J 102 [.agg (dbC d),.agg (frC f)] (.bool (ZdM d f)):=by
 refine fE Tryz.func102 fun S w0 hS hJ0=>?_
 refine tw Z6 (ZE tb hJ [1000,1001] [.ptr (dbC d),.ptr (frC f),_] [0,1] U2 rfl ⟨iBo hS hJ,iBo hS hJ,trivial⟩ ?_)
 refine ZE tb hJ [0,1,1001,1003,1004,1006,1007,1008] (V4 [.rd (YT (f.text::(YU f.hyps).map Hy.text)),_,_,.rd (Zi (QB d.vars (f.text::(YU f.hyps).map Hy.text).flatten)),_]) [4,7] U8 rfl ⟨iFo hS hJ (ZlJ hJ f.hyps f.text sfz) Zrn,iFo hS hJ (Zje hJ (f.text::(YU f.hyps).map Hy.text) d.vars sfz) Zro,trivial⟩ ?_
 refine ln 2 fun hl1=>?_
 refine ln 3 fun hl2=>?_
 refine ln 4 fun hl3=>?_
 refine ln 5 fun hl4=>?_
 refine ln 6 fun hl5=>?_
 refine tsq (XA Zf hJ rfl rfl rfl (lb rfl) fun v1=>?_)
 refine snK 1 tb rfl (seK [0,2,3,9] U4 rfl ?_)
 refine nx (Zd (qso tb hJ [0,1,2,3,1000] [_] U5 ?_))
 refine Zc (lpo (ι:=Nat×Value×(List BA)) (fun(k,_,found)=>(k≤f.hyps.length)∧(found=Zdh (f.hyps.take k))∧(found.length≤k)∧((f.hyps.take k).all (hIn (Qp d f))=true)) (fun(_,vo,found)=>[OB.row vo 9 1 (found.map Q3)]) (fun(k,vo,_)=>[(7,.int (k:Nat)),(6,.lit vo)]) (fun(k,_,_)=>f.hyps.length-k) [1,2,3,4,0] U3 (0,v1,([]:List BA)) ⟨nzl,rfl,nzl,rfl⟩ ?_)
 rintro⟨k,vo,found⟩ ⟨f1_1,f1_2,f1_3,f1_4⟩
 refine Zd (ZE tb hJ (r5 [1004]) (V3 [.int (f.hyps.length:Nat),_]) [3] U6 rfl ⟨ZX Zx,trivial⟩ ?_)
 refine cj 5 (fun hb1=>?_) fun hb1=>?_
 ·
  try simp at hb1
  refine Za (nx (Zd (Zc (ZE tb hJ (r5 [1005]) (V3 [.ptr (hyC (ge f.hyps k)),_,_]) [3] U6 rfl ⟨iIx Zq,trivial⟩ ?_))))
  refine cj 5 (fun hb2=>?_) fun hb2=>?_
  ·
   try simp at hb2
   refine Zd (ZE tb hJ (r5 [1007]) (V3 [.ptr (hyC (ge f.hyps k)),_,_,.bool (ofB (ge f.hyps k) (QB d.vars (f.text::(YU f.hyps).map Hy.text).flatten)),_]) [3,6] U6 rfl ⟨iIx Zq,iFo hS hJ (c_of hJ (ge f.hyps k) (QB d.vars (f.text::(YU f.hyps).map Hy.text).flatten)) ZcG,trivial⟩ ?_)
   refine cj 5 (fun hb3=>?_) fun hb3=>?_
   ·
    try simp at hb3
    have q3:f.hyps.all (hIn (Qp d f))=false:=Zam hb1 (by simp only[hIn,hb2,Qp];simpa using hb3)
    refine qso tb hJ [1000] [_] [_] ?_
    exact tRo 0 (hE:=eB (by first | (rw[ZdM,q3];rfl) | (rw[ZdM,e1,q5];rfl) | (rw[ZdM,e1,e4,q7];rfl) | (rw[ZdM,e1,e4,e6];rfl)))
   ·
    try simp at hb3
    refine Za (nx (Ya (snK 4 tb rfl (sy (.ptr (hyC (ge f.hyps k))) (fun h=>ZK (i:=(k:Int)) Zq rfl (h.get 1 rfl) (h.get 0 rfl) nnn (ZR (xs:=f.hyps) (k:=k) sfz) rfl h.x) ?_))))
    refine snK 2 tb rfl (sy (.ptr [lS (ge ((ge f.hyps k).text) 1)]) (fun h=>ZK (i:=((1:Nat):Int)) Zf rfl (h.get 0 rfl) (Rel.of_lit (.int .i64 1)) nnn (ZR (xs:=(ge f.hyps k).text) (k:=1) (by have:=h4 _ (Zj hb1) hb2;omega)) rfl h.x) ?_)
    refine snK 1 tb rfl (sy (.rd (Zi ([(ge ((ge f.hyps k).text) 1)]))) (fun h=>Yw Zf QI rfl (h.get 0 rfl) (Zy hS _ h.keep h.x _ nlr) (jo hJ h.x)) ?_)
    refine Z2 (f:=Q3) (m:=9) (s:=41) found ([(ge ((ge f.hyps k).text) 1)]) (fun _=>rfl) Y3 hJ hJ0 rfl rfl rfl (lb rfl) rfl rfl (fun a w h=>(h.get 0 rfl)) (by first | (simp;omega) | (refine Zit ?_;simp;omega)) (by first | (simp;omega) | (refine Zit ?_;simp;omega)) fun v2=>?_
    refine snK 1 tb rfl (seK [0,2,5,12,13,14,15] U7 rfl ?_)
    refine nx (ln 1 fun hl6=>?_)
    refine ln 2 fun hl7=>?_
    refine YA tb hJ [0,3,4,5,1002] [_,.int (k+1:Nat),_] [1] U5 rfl ⟨Yf,trivial⟩ ?_
    exact YK (k+1,v2,found++([(ge ((ge f.hyps k).text) 1)])) [1,2,3,4,0] ⟨oz,by rw[f1_2,Zdh,Zdh,Z3 oz];simp[hb2],by simp;omega,by rw[Xz oz,f1_4];simp only[hIn,hb2,Qp];simpa using hb3⟩
  ·
   try simp at hb2
   refine Za (nx (YA tb hJ [0,1,2,4,1002] [_,.int (k+1:Nat),_] [1] U5 rfl ⟨Yf,trivial⟩ ?_))
   exact YK (k+1,vo,found) [0,1,2,4,3] ⟨oz,by rw[f1_2,Zdh,Zdh,Z3 oz];simp[hb2],oz,by rw[Xz oz,f1_4];simp[hIn,hb2]⟩
 ·
  try simp at hb1
  have e1:f.hyps.all (hIn (Qp d f))=true:=by rw[←Zz (xs:=f.hyps) oz];exact f1_4
  have f1_2':found=Zdh f.hyps:=by rw[f1_2,Zz oz]
  refine Zp (nx (Zd (tw (fun h=>ZF hS h (m:=4) (s:=6) rfl) (qso tb hJ [0,1,2,3,1000] [_] U5 ?_))))
  refine ln 0 fun hl8=>?_
  refine Zc (lpo (ι:=Nat) (fun k=>(k≤(Qp d f).length)∧(((Qp d f).take k).all (fun s=>decide (s∈Zdh f.hyps))=true)) (fun _=>[]) (fun k=>[(8,.int (k:Nat))]) (fun k=>(Qp d f).length-k) (r5 []) U4 0 ⟨nzl,rfl⟩ ?_)
  rintro k ⟨f2_1,f2_2⟩
  refine Zd (ZE tb hJ (r5 [1003]) [_,_,.int ((QB d.vars (f.text::(YU f.hyps).map Hy.text).flatten).length:Nat),_] [2] U6 rfl ⟨ZX Zs,trivial⟩ ?_)
  refine cj 5 (fun hb4=>?_) fun hb4=>?_
  ·
   try simp at hb4
   have hb4':=hb4
   replace hb4:k< (Qp d f).length:=hb4
   refine Za (nx (Zd (Zc (ZE tb hJ (r5 [1006]) (V3 [.ptr [lS (ge (QB d.vars (f.text::(YU f.hyps).map Hy.text).flatten) k)],_,.bool (decide ((ge (QB d.vars (f.text::(YU f.hyps).map Hy.text).flatten) k)∈found)),_]) [3,5] U6 rfl ⟨iIx Zf,iFo hS hJ (ZbF hJ found (ge (QB d.vars (f.text::(YU f.hyps).map Hy.text).flatten) k)) XC,trivial⟩ ?_))))
   refine cj 5 (fun hb5=>?_) fun hb5=>?_
   ·
    try simp at hb5
    have q5:(Qp d f).all (fun s=>decide (s∈Zdh f.hyps))=false:=Zam hb4 (decide_eq_false (by rw[←f1_2'];exact hb5))
    refine qso tb hJ [1000] [_] [_] ?_
    exact tRo 0 (hE:=eB (by first | (rw[ZdM,q3];rfl) | (rw[ZdM,e1,q5];rfl) | (rw[ZdM,e1,e4,q7];rfl) | (rw[ZdM,e1,e4,e6];rfl)))
   ·
    try simp at hb5
    refine Za (nx (YA tb hJ [0,1,2,3,1002] [_,.int (k+1:Nat),_] [1] U5 rfl ⟨Yf,trivial⟩ ?_))
    exact YK (k+1) (r5 []) ⟨oz,by rw[Xz hb4,f2_2,Bool.true_and];exact decide_eq_true (by rw[←f1_2'];exact hb5)⟩
  ·
   try simp at hb4
   replace hb4:(Qp d f).length≤k:=hb4
   have e4:(Qp d f).all (fun s=>decide (s∈Zdh f.hyps))=true:=by rw[←Zz (xs:=Qp d f) hb4];exact f2_2
   refine Zp (nx (Zd (qso tb hJ [1,2,3,1000] [_] U4 ?_)))
   refine Zc (lpo (ι:=Nat) (fun k=>(k≤f.wide.length)∧((f.wide.take k).any (ZuN d)=false)) (fun _=>[]) (fun k=>[(9,.int (k:Nat))]) (fun k=>f.wide.length-k) [0,1,2,3] U3 0 ⟨nzl,rfl⟩ ?_)
   rintro k ⟨f3_1,f3_2⟩
   refine Zd (ZE tb hJ [0,1,2,3,1002,1004] (V3 [.int (f.wide.length:Nat),_]) [3] U6 rfl ⟨ZX ZH,trivial⟩ ?_)
   refine ln 4 fun hl9=>?_
   refine cj 5 (fun hb6=>?_) fun hb6=>?_
   ·
    try simp at hb6
    refine Za (nx (Zd (Zc (tsq (snK 3 tb rfl (sy (.ptr (prC (ge f.wide k))) (fun h=>ZK (i:=(k:Int)) Zo rfl (h.get 1 rfl) (h.get 0 rfl) nnn (ZR (xs:=f.wide) (k:=k) sfz) rfl h.x) ?_))))))
    refine snK 1 tb rfl (Qn (cs:=prC (ge f.wide k)) Zca rfl rfl rfl (lb rfl) rfl rfl rfl dz (m:=0) rfl rfl (fun a w h=>Zy hS _ h.keep h.x _ nlr) (fun a w h w' hk'=>YL hJ _ _ hk' h.x) ?_)
    refine seK [0,6,7,8,9] U5 rfl (nx (ZE tb hJ [1,2,3,4,1020] (V10 [.bool (decide (((ge f.wide k).a)∈d.vars)),_,_,_,_,_,_,_,.bool (decide (((ge f.wide k).b)∈d.vars)),_,_]) [10,18] U5 rfl ⟨iFo hS hJ (ZbF hJ d.vars ((ge f.wide k).a)) XC,iFo hS hJ (ZbF hJ d.vars ((ge f.wide k).b)) XC,trivial⟩ ?_))
    refine cj 4 (fun hb7=>?_) fun hb7=>?_
    ·
     have q7:f.wide.any (ZuN d)=true:=Zai (by omega:k<f.wide.length) hb7
     refine qso tb hJ [1000] [_] [_] ?_
     exact tRo 0 (hE:=eB (by first | (rw[ZdM,q3];rfl) | (rw[ZdM,e1,q5];rfl) | (rw[ZdM,e1,e4,q7];rfl) | (rw[ZdM,e1,e4,e6];rfl)))
    ·
     refine Za (nx (YA tb hJ [0,1,2,1002] [_,.int (k+1:Nat),_] [1] U4 rfl ⟨Yf,trivial⟩ ?_))
     exact YK (k+1) [0,1,2,3] ⟨oz,Qm oz f3_2 hb7⟩
   ·
    try simp at hb6
    have e6:=Ql (p:=ZuN d) f3_2 oz
    refine Zp (nx (ZE tb hJ [1004,1015] (V4 [.rd (Xa (Zfo f.wide ([]:List Pr))),.bool (decide (f.wide=(Zfo f.wide ([]:List Pr)))),_,_,_,_,_,_,.rd (Xa (f.wide.filter (inV (QB d.vars (f.text::(YU f.hyps).map Hy.text).flatten)))),.bool (decide (f.apart=(f.wide.filter (inV (QB d.vars (f.text::(YU f.hyps).map Hy.text).flatten))))),_,_]) [4,5,12,13] U2 rfl ⟨fun _ _ hk hx hl _=>ZcZ (c_Join hJ f.wide ([]:List Pr) (by simp only[List.length_nil];omega)) Zrm rfl (Zy hS _ hk hx) (hx.1) (Zb (hl.dep 3 101 _ rfl rfl rfl rfl) (Zb (Zj4 (Rel.of_lit (.slice none 0 0))) Zk)) (jo hJ hx),iFo hS hJ (Ze1 hJ f.wide (Zfo f.wide ([]:List Pr))) ZkF,fun _ _ hk hx hl hc=>ZcZ (ZrM hJ f.wide (QB d.vars (f.text::(YU f.hyps).map Hy.text).flatten) (by have hc':((decide (f.wide=(Zfo f.wide ([]:List Pr))))==true)=true:=hc;(try simp at hc');(omega))) Zrl rfl (Zy hS _ hk hx) (hx.1) (Zb (hl.dep 10 108 _ rfl rfl rfl hc) (Zb (hl.dep 11 109 _ rfl rfl rfl hc) Zk)) (jo hJ hx),iFo hS hJ (Ze1 hJ f.apart (f.wide.filter (inV (QB d.vars (f.text::(YU f.hyps).map Hy.text).flatten)))) ZkF,trivial⟩ ?_))
    refine ln 0 fun hl10=>?_
    exact tRo 1 (hE:=eB (by first | (rw[ZdM,q3];rfl) | (rw[ZdM,e1,q5];rfl) | (rw[ZdM,e1,e4,q7];rfl) | (rw[ZdM,e1,e4,e6];rfl)))
theorem Zou {J:WP} (hJ:Stab J) (d:Db)  :Fn Tryz.prog J 65 [.agg (dbC d)] (.int (ZaM d)):=by
 refine fE Tryz.func65 fun S w0 hS hJ0=>?_
 clear hJ0
 refine hqs tb hJ [1000] [.ptr (dbC d),_] [0] [_] rfl ⟨iBs hS hJ,trivial⟩ ?_
 refine Zd (qs tb hJ [0,1000] [_] U2 ?_)
 refine Zc (lp (ι:=Nat) (fun k=>(k≤d.consts.length)∧(∀ j,j<k→Zfp d j=0)) (fun k=>[(3,.int (k:Nat))]) (fun k=>d.consts.length-k) [0,1] [_] 0 ⟨nzl,fun j hj=>by omega⟩ ?_)
 rintro k ⟨f1_1,f1_2⟩
 refine Zd (hqs tb hJ [0,1,1002,1004] (V3 [.int (d.consts.length:Nat),_]) [3] U4 rfl ⟨ZX Zs,trivial⟩ ?_)
 refine ln 2 fun hl1=>?_
 refine cj 3 (fun hb1=>?_) fun hb1=>?_
 ·
  try simp at hb1
  refine Za (nx (Zd (Zc (Zd (hqs tb hJ [0,1,1006] (V3 [.ptr [lS (ge d.consts k)],_,.bool (Zga (ge d.consts k)),_]) [3,5] U3 rfl ⟨iIx Zf,iFn hS hJ (Zf1 hJ (ge d.consts k)) Zoj,trivial⟩ ?_)))))
  refine cj 2 (fun hb2=>?_) fun hb2=>?_
  ·
   try simp at hb2
   have q2:Zfp d k=2:=by simp[Zfp,hb2]
   refine qs tb hJ [1000] [_] [_] ?_
   exact tRn 0 (hE:=eI (by first | (have:=Yo (by omega:k<d.consts.length) f1_2 (by rw[q2];decide);rw[ZaM,this,q2];rfl) | (have:=Yo (by omega:k<d.vars.length) f2_2 (by rw[q5];decide);rw[ZaM,e1,this,q5];rfl) | (rw[ZaM,e1,e4];rfl)))
  ·
   try simp at hb2
   refine Za (nx (hqs tb hJ [0,1,1003,1009] (V3 [.rd (Zi (d.consts.take k)),_,_,_,.ptr [lS (ge d.consts k)],_,.bool (decide ((ge d.consts k)∈(d.consts.take k)))]) [3,7,9] U4 rfl ⟨fun _ _ _ hx hl _=>Xw (ys:=d.consts.take k) (lo:=0) (hi:=k) List.drop_zero Zf (fun _=>rfl) rfl (hl.dep 1 20 _ rfl rfl rfl rfl) rfl (hl.dep 2 21 _ rfl rfl rfl rfl) sfz sfz hx,iIx Zf,iFn hS hJ (ZbF hJ (d.consts.take k) (ge d.consts k)) XC,trivial⟩ ?_))
   refine ln 2 fun hl2=>?_
   refine cj 3 (fun hb3=>?_) fun hb3=>?_
   ·
    try simp at hb3
    have q2:Zfp d k=6:=by simp[Zfp,hb2,hb3]
    refine qs tb hJ [1000] [_] [_] ?_
    exact tRn 0 (hE:=eI (by first | (have:=Yo (by omega:k<d.consts.length) f1_2 (by rw[q2];decide);rw[ZaM,this,q2];rfl) | (have:=Yo (by omega:k<d.vars.length) f2_2 (by rw[q5];decide);rw[ZaM,e1,this,q5];rfl) | (rw[ZaM,e1,e4];rfl)))
   ·
    try simp at hb3
    refine Za (nx (hqp tb hJ [0,1002] [_,.int (k+1:Nat),_] [1] U2 rfl ⟨Yf,trivial⟩ ?_))
    exact lpE (k+1) [0,1] ⟨oz,ZG f1_2 (by simp_all[Zfp])⟩
 ·
  try simp at hb1
  have e1:Xf d.consts.length (Zfp d)=0:=XI fun j hj=>f1_2 j oz
  refine Zp (nx (Zd (qs tb hJ [0,1000] [_] U2 ?_)))
  refine Zc (lp (ι:=Nat) (fun k=>(k≤d.vars.length)∧(∀ j,j<k→Zf8 d j=0)) (fun k=>[(4,.int (k:Nat))]) (fun k=>d.vars.length-k) [0,1] [_] 0 ⟨nzl,fun j hj=>by omega⟩ ?_)
  rintro k ⟨f2_1,f2_2⟩
  refine Zd (hqs tb hJ [0,1,1002,1004] (V3 [.int (d.vars.length:Nat),_]) [3] U4 rfl ⟨ZX Zs,trivial⟩ ?_)
  refine ln 2 fun hl3=>?_
  refine cj 3 (fun hb4=>?_) fun hb4=>?_
  ·
   try simp at hb4
   refine Za (nx (Zd (Zc (Zd (hqs tb hJ [0,1,1006] (V3 [.ptr [lS (ge d.vars k)],_,.bool (Zga (ge d.vars k)),_]) [3,5] U3 rfl ⟨iIx Zf,iFn hS hJ (Zf1 hJ (ge d.vars k)) Zoj,trivial⟩ ?_)))))
   refine cj 2 (fun hb5=>?_) fun hb5=>?_
   ·
    try simp at hb5
    have q5:Zf8 d k=2:=by simp[Zf8,hb5]
    refine qs tb hJ [1000] [_] [_] ?_
    exact tRn 0 (hE:=eI (by first | (have:=Yo (by omega:k<d.consts.length) f1_2 (by rw[q2];decide);rw[ZaM,this,q2];rfl) | (have:=Yo (by omega:k<d.vars.length) f2_2 (by rw[q5];decide);rw[ZaM,e1,this,q5];rfl) | (rw[ZaM,e1,e4];rfl)))
   ·
    try simp at hb5
    refine Za (nx (hqs tb hJ [0,1,1019] (V5 [.ptr [lS (ge d.vars k)],_,.bool (decide ((ge d.vars k)∈d.consts)),_,_,_,_,.rd (Zi (d.vars.take k)),_,_,_,.ptr [lS (ge d.vars k)],_,.bool (decide ((ge d.vars k)∈(d.vars.take k))),_]) [5,7,12,16,18] U3 rfl ⟨iIx Zf,iFn hS hJ (ZbF hJ d.consts (ge d.vars k)) XC,fun _ _ _ hx hl hc=>Xw (ys:=d.vars.take k) (lo:=0) (hi:=k) List.drop_zero Zf (fun _=>rfl) rfl (hl.dep 10 53 _ rfl rfl rfl hc) rfl (hl.dep 11 54 _ rfl rfl rfl hc) (by have hc':((decide ((ge d.vars k)∈d.consts))==false)=true:=hc;(try simp at hc');(first | omega | (simp;omega) | grind[Zj])) (by have hc':((decide ((ge d.vars k)∈d.consts))==false)=true:=hc;(try simp at hc');(first | omega | (simp;omega) | grind[Zj])) hx,gIx Zf (hk:=fun(hc':((decide ((ge d.vars k)∈d.consts))==false)=true)=>by(try simp at hc');first | omega | (simp;omega) | grind[Zj]),iFn hS hJ (ZbF hJ (d.vars.take k) (ge d.vars k)) XC,trivial⟩ ?_))
    refine cj 2 (fun hb6=>?_) fun hb6=>?_
    ·
     try simp at hb6
     have q5:Zf8 d k=6:=by simp_all[Zf8]
     refine qs tb hJ [1000] [_] [_] ?_
     exact tRn 0 (hE:=eI (by first | (have:=Yo (by omega:k<d.consts.length) f1_2 (by rw[q2];decide);rw[ZaM,this,q2];rfl) | (have:=Yo (by omega:k<d.vars.length) f2_2 (by rw[q5];decide);rw[ZaM,e1,this,q5];rfl) | (rw[ZaM,e1,e4];rfl)))
    ·
     try simp at hb6
     refine Za (nx (hqp tb hJ [0,1002] [_,.int (k+1:Nat),_] [1] U2 rfl ⟨Yf,trivial⟩ ?_))
     exact lpE (k+1) [0,1] ⟨oz,ZG f2_2 (by simp_all[Zf8])⟩
  ·
   try simp at hb4
   have e4:Xf d.vars.length (Zf8 d)=0:=XI fun j hj=>f2_2 j oz
   refine Zp (nx (qs tb hJ [1000] [_] [_] ?_))
   exact tRn 0 (hE:=eI (by first | (have:=Yo (by omega:k<d.consts.length) f1_2 (by rw[q2];decide);rw[ZaM,this,q2];rfl) | (have:=Yo (by omega:k<d.vars.length) f2_2 (by rw[q5];decide);rw[ZaM,e1,this,q5];rfl) | (rw[ZaM,e1,e4];rfl)))
theorem ZuF {J:WP} (hJ:Stab J) (d:Db) (k:Nat) (hk0:k<d.frames.length) (hf:d.frames.length≤400) (hv:d.vars.length≤8000) (hz:∀ i,i<k→(ge d.frames i).hyps.length≤40∧(ge d.frames i).dummies.length≤40) (hw:(ge d.frames k).wide.length*32≤140737488351232):Fn Tryz.prog J 66 [.agg (dbC d),.int (k:Nat)] (.int (frE d k)):=by
 refine fE Tryz.func66 fun S w0 hS hJ0=>?_
 clear hJ0
 refine hqs tb hJ [1,1000] [.ptr (dbC d),_] [0] U2 rfl ⟨iBs hS hJ,trivial⟩ ?_
 refine tsq (snK 3 tb rfl (sy (.ptr (frC (ge d.frames k))) (fun h=>ZK (i:=(k:Int)) Z5 rfl (h.get 1 rfl) (h.get 0 rfl) nnn (ZR (xs:=d.frames) (k:=k) sfz) rfl h.x) ?_))
 refine snK 1 tb rfl (Qn (cs:=frC (ge d.frames k)) Zf7 rfl rfl rfl (lb rfl) rfl rfl rfl dz (m:=0) rfl rfl (fun a w h=>hS _ h.keep.size) (fun a w h w' hk'=>hJ _ _ hk' h.x) ?_)
 refine seK [0,4,6,7] U4 rfl (nx (ln 1 fun hl1=>?_))
 refine Zd (hqs tb hJ [0,2,3,1003] [_,_,.bool (ZdF ((ge d.frames k).label)),_] [2] U4 rfl ⟨iFn hS hJ (Ze2 hJ ((ge d.frames k).label)) Zi9,trivial⟩ ?_)
 refine cj 3 (fun hb1=>?_) fun hb1=>?_
 ·
  try simp at hb1
  refine qs tb hJ [1000] [_] [_] ?_
  exact tRn 0 (hE:=eI (by first | (show ZbK d k j=_;have q6:ZbK d k j≠0:=Zgo hb5;rw[frE,Zc4];grind) | (rw[frE,Zc4];grind)))
 ·
  try simp at hb1
  refine Za (nx (Zd (hqs tb hJ [0,1,2,1008,1009] (V4 [.tup [.bool (frL d k ((ge d.frames k).label)),.bool (hyL d k ((ge d.frames k).label))],_,_,_,_,_]) [4] U5 rfl ⟨iFn hS hJ (Zjf hJ d k ((ge d.frames k).label) sfz (hz)) Zi8,trivial⟩ ?_)))
  refine hqs tb hJ [0,1,2,1009] (V8 [.bool (ZcS d ((ge d.frames k).label)),_]) [8] U4 rfl ⟨iFn hS hJ (ZgK hJ d ((ge d.frames k).label)) Zi7,trivial⟩ ?_
  refine cj 3 (fun hb2=>?_) fun hb2=>?_
  ·
   refine qs tb hJ [1000] [_] [_] ?_
   exact tRn 0 (hE:=eI (by first | (show ZbK d k j=_;have q6:ZbK d k j≠0:=Zgo hb5;rw[frE,Zc4];grind) | (rw[frE,Zc4];grind)))
  ·
   refine Za (nx (Zd (hqs tb hJ [0,1,2,1001,1009] [_,_,.int (((ge d.frames k).hyps).length:Nat),_,_,_,_,.int (((ge d.frames k).dummies).length:Nat),_,_] [2,7] U5 rfl ⟨ZX Zx,ZX Zx,trivial⟩ ?_)))
   refine ln 3 fun hl2=>?_
   refine cj 4 (fun hb3=>?_) fun hb3=>?_
   ·
    refine qs tb hJ [1000] [_] [_] ?_
    exact tRn 0 (hE:=eI (by first | (show ZbK d k j=_;have q6:ZbK d k j≠0:=Zgo hb5;rw[frE,Zc4];grind) | (rw[frE,Zc4];grind)))
   ·
    have e3:(ge d.frames k).hyps.length≤40∧(ge d.frames k).dummies.length≤40:=by simp at hb3;omega
    refine Za (nx (hqs tb hJ [0,1,2,1001,1002] [_,.rd (Xl ((ge d.frames k).hyps++(ge d.frames k).dummies)),_] [1] U5 rfl ⟨iFn hS hJ (ZrU hJ (ge d.frames k) sfz) ZgF,trivial⟩ ?_))
    refine ln 3 fun hl3=>?_
    refine Zd (qs tb hJ [0,1,2,4,1000] [_] U5 ?_)
    refine Zc (lp (ι:=Nat) (fun j=>(j≤((ge d.frames k).hyps++(ge d.frames k).dummies).length)∧(∀ i,i<j→ZbK d k i=0)) (fun j=>[(9,.int (j:Nat))]) (fun j=>((ge d.frames k).hyps++(ge d.frames k).dummies).length-j) (r5 []) U4 0 ⟨nzl,fun j hj=>by omega⟩ ?_)
    rintro j ⟨f1_1,f1_2⟩
    refine Zd (hqs tb hJ (r5 [1003]) [_,_,.int (((ge d.frames k).hyps++(ge d.frames k).dummies).length:Nat),_] [2] U6 rfl ⟨ZX Zx,trivial⟩ ?_)
    refine cj 5 (fun hb4=>?_) fun hb4=>?_
    ·
     try simp at hb4
     refine Za (nx (Zd (Zc (hqs tb hJ (r5 [1008,1015]) (V4 [.ptr (hyC (ge ((ge d.frames k).hyps++(ge d.frames k).dummies) j)),_,_,_,.rd (Xl (((ge d.frames k).hyps++(ge d.frames k).dummies).take j)),_,_,_,.int (((ge d.frames k).hyps).length:Nat),_,.int (ZcO d k (ge ((ge d.frames k).hyps++(ge d.frames k).dummies) j) (((ge d.frames k).hyps++(ge d.frames k).dummies).take j) (decide (((((ge d.frames k).hyps).length:Nat):Int)≤(j:Int)))),_]) [4,8,12,14] U7 rfl ⟨iIx Zq,fun _ _ _ hx hl _=>Xw (ys:=((ge d.frames k).hyps++(ge d.frames k).dummies).take j) (lo:=0) (hi:=j) List.drop_zero Zq (fun _=>rfl) rfl (hl.dep 6 68 _ rfl rfl rfl rfl) rfl (hl.dep 7 69 _ rfl rfl rfl rfl) sfz sfz hx,ZX Zx,iFn hS hJ (Zh7 hJ d k (ge ((ge d.frames k).hyps++(ge d.frames k).dummies) j) (((ge d.frames k).hyps++(ge d.frames k).dummies).take j) (decide (((((ge d.frames k).hyps).length:Nat):Int)≤(j:Int))) sfz sfz (by intro i hi;by_cases e:i=k;(subst e;exact e3);exact hz i oz) (by have:=List.length_take_le' j ((ge d.frames k).hyps++(ge d.frames k).dummies);simp at this ⊢;omega)) ZrL,trivial⟩ ?_))))
     refine ln 5 fun hl4=>?_
     refine qs tb hJ (r5 [6,1001]) U2 U7 ?_
     refine cj 6 (fun hb5=>?_) fun hb5=>?_
     ·
      have q5:ZoQ d k=ZbK d k j:=Yo (by simp;omega) f1_2 (Zgo hb5)
      refine qs tb hJ [1001] U2 [_] ?_
      exact tRn 0 (hE:=eI (by first | (show ZbK d k j=_;have q6:ZbK d k j≠0:=Zgo hb5;rw[frE,Zc4];grind) | (rw[frE,Zc4];grind)))
     ·
      refine Za (nx (hqp tb hJ [0,1,2,3,1002] [_,.int (j+1:Nat),_] [1] U5 rfl ⟨Yf,trivial⟩ ?_))
      exact lpE (j+1) (r5 []) ⟨by simp;omega,ZG f1_2 (Zss hb5)⟩
    ·
     try simp at hb4
     have e4:ZoQ d k=0:=XI fun i hi=>f1_2 i (by simp at hb4 hi;omega)
     refine Zp (nx (Zd (hqs tb hJ [0,1,2,1001,1009] [_,_,.int (((ge d.frames k).text).length:Nat),_,_,_,_,.int (((ge d.frames k).text).length:Nat),_,_] [2,7] U5 rfl ⟨ZX Zs,ZX Zs,trivial⟩ ?_)))
     refine ln 3 fun hl5=>?_
     refine cj 4 (fun hb6=>?_) fun hb6=>?_
     ·
      refine qs tb hJ [1000] [_] [_] ?_
      exact tRn 0 (hE:=eI (by first | (show ZbK d k j=_;have q6:ZbK d k j≠0:=Zgo hb5;rw[frE,Zc4];grind) | (rw[frE,Zc4];grind)))
     ·
      refine Za (nx (Zd (hqs tb hJ [0,1,2,1004] (V3 [.int (ZaS d ((ge d.frames k).text)),_]) [3] U4 rfl ⟨iFn hS hJ (Zh8 hJ d ((ge d.frames k).text) sfz) ZkK,trivial⟩ ?_)))
      refine qs tb hJ [0,1,2,3,1001] U2 U5 ?_
      refine cj 4 (fun hb7=>?_) fun hb7=>?_
      ·
       try simp at hb7
       refine qs tb hJ [1001] U2 [_] ?_
       exact tRn 0 (hE:=eI (by first | (show ZbK d k j=_;have q6:ZbK d k j≠0:=Zgo hb5;rw[frE,Zc4];grind) | (rw[frE,Zc4];grind)))
      ·
       try simp at hb7
       refine Za (nx (Zd (hqs tb hJ [0,1,2,1003] [_,_,.bool (ZdM d (ge d.frames k)),_] [2] U4 rfl ⟨iFn hS hJ (Zjc hJ d (ge d.frames k) sfz sfz (hw) (fun h hh=>Zp9 e4 h (by simp[hh]))) ZrK,trivial⟩ ?_)))
       refine cj 3 (fun hb8=>?_) fun hb8=>?_
       ·
        try simp at hb8
        refine qs tb hJ [1000] [_] [_] ?_
        exact tRn 0 (hE:=eI (by first | (show ZbK d k j=_;have q6:ZbK d k j≠0:=Zgo hb5;rw[frE,Zc4];grind) | (rw[frE,Zc4];grind)))
       ·
        try simp at hb8
        refine Za (nx (Zd (hqs tb hJ [0,1,2,1001,1014] [_,_,.int (((ge d.frames k).proof).length:Nat),_,_,_,_,_,_,_,_,_,.int (((ge d.frames k).proof).length:Nat),_,_] [2,12] U5 rfl ⟨ZX Zs,ZX Zs,trivial⟩ ?_)))
        refine ln 3 fun hl6=>?_
        refine cj 4 (fun hb9=>?_) fun hb9=>?_
        ·
         refine qs tb hJ [1000] [_] [_] ?_
         exact tRn 0 (hE:=eI (by first | (show ZbK d k j=_;have q6:ZbK d k j≠0:=Zgo hb5;rw[frE,Zc4];grind) | (rw[frE,Zc4];grind)))
        ·
         refine Za (nx (Zd (qs tb hJ [0,1,2,1000] [_] U4 ?_)))
         refine Zc (lp (ι:=Nat) (fun j=>(j≤(ge d.frames k).proof.length)∧(((ge d.frames k).proof.take j).all YY=true)) (fun j=>[(12,.int (j:Nat))]) (fun j=>(ge d.frames k).proof.length-j) [0,1,2,3] U3 0 ⟨nzl,rfl⟩ ?_)
         rintro j ⟨f2_1,f2_2⟩
         refine Zd (hqs tb hJ [0,1,2,3,1004] (V3 [.int (((ge d.frames k).proof).length:Nat),_]) [3] U5 rfl ⟨ZX Zs,trivial⟩ ?_)
         refine cj 4 (fun hb10=>?_) fun hb10=>?_
         ·
          try simp at hb10
          refine Za (nx (Zd (Zc (hqs tb hJ [0,1,2,3,1006] (V3 [.ptr [lS (ge ((ge d.frames k).proof) j)],_,.bool (YY (ge ((ge d.frames k).proof) j)),_]) [3,5] U5 rfl ⟨iIx Zf,iFn hS hJ (Zoz hJ (ge ((ge d.frames k).proof) j)) ZrJ,trivial⟩ ?_))))
          refine cj 4 (fun hb11=>?_) fun hb11=>?_
          ·
           try simp at hb11
           have q11:(ge d.frames k).proof.all YY=false:=Zam hb10 hb11
           refine qs tb hJ [1000] [_] [_] ?_
           exact tRn 0 (hE:=eI (by first | (show ZbK d k j=_;have q6:ZbK d k j≠0:=Zgo hb5;rw[frE,Zc4];grind) | (rw[frE,Zc4];grind)))
          ·
           try simp at hb11
           refine Za (nx (hqp tb hJ [0,1,2,1002] [_,.int (j+1:Nat),_] [1] U4 rfl ⟨Yf,trivial⟩ ?_))
           exact lpE (j+1) [0,1,2,3] ⟨oz,by rw[Xz oz,f2_2];simpa using hb11⟩
         ·
          try simp at hb10
          have e10:(ge d.frames k).proof.all YY=true:=by rw[←Zz (xs:=(ge d.frames k).proof) oz];exact f2_2
          refine Zp (nx (hqs tb hJ [1,2,1001,1002] [_,.rd (Zi ((YU (ge d.frames k).hyps).map Hy.label)),_] [1] U4 rfl ⟨iFn hS hJ (Zdy hJ (ge d.frames k) sfz) ZkJ,trivial⟩ ?_))
          refine ln 2 fun hl7=>?_
          refine Zd (hqs tb hJ [0,1,3,1002,1005] [_,_,.rd (Zi (Zjl d k)),_,.int (ZdW (Zjl d k) ((YU (ge d.frames k).hyps).map Hy.label):Nat),_] [2,4] U5 rfl ⟨iFn hS hJ (ZrR hJ d k sfz sfz (fun h=>(hz (k-1) oz).1)) ZrH,iFn hS hJ (ZrQ hJ (Zjl d k) ((YU (ge d.frames k).hyps).map Hy.label)) ZrI,trivial⟩ ?_)
          refine ln 3 fun hl8=>?_
          refine Zc (lp (ι:=Nat) (fun m=>(ZdW (Zjl d k) ((YU (ge d.frames k).hyps).map Hy.label)≤m)∧(m≤((YU (ge d.frames k).hyps).map Hy.label).length)∧(∀ i,ZdW (Zjl d k) ((YU (ge d.frames k).hyps).map Hy.label)≤i→i<m→hyL d k (ge ((YU (ge d.frames k).hyps).map Hy.label) i)=false)) (fun m=>[(14,.int (m:Nat))]) (fun m=>((YU (ge d.frames k).hyps).map Hy.label).length-m) [0,1,2,4] U3 (ZdW (Zjl d k) ((YU (ge d.frames k).hyps).map Hy.label)) ⟨Nat.le_refl _,Zi4 _ _,fun i h1 h2=>by omega⟩ ?_)
          rintro m ⟨f3_1,f3_2,f3_3⟩
          refine Zd (hqs tb hJ [0,1,2,3,1003] [_,_,.int (((YU (ge d.frames k).hyps).map Hy.label).length:Nat),_] [2] U5 rfl ⟨ZX Zs,trivial⟩ ?_)
          refine cj 4 (fun hb12=>?_) fun hb12=>?_
          ·
           replace hb12:m< ((YU (ge d.frames k).hyps).map Hy.label).length:=by have:=of_decide_eq_true hb12;omega
           refine Za (nx (Zd (Zc (hqs tb hJ [0,1,2,3,1011] (V4 [.ptr [lS (ge ((YU (ge d.frames k).hyps).map Hy.label) m)],_,.tup [.bool (frL d k (ge ((YU (ge d.frames k).hyps).map Hy.label) m)),.bool (hyL d k (ge ((YU (ge d.frames k).hyps).map Hy.label) m))],_,_,_,_,_]) [4,6] U5 rfl ⟨iIx Zf,iFn hS hJ (Zjf hJ d k (ge ((YU (ge d.frames k).hyps).map Hy.label) m) sfz (hz)) Zi8,trivial⟩ ?_))))
           refine qs tb hJ [0,1,2,3,1000] [_] U5 ?_
           refine cj 4 (fun hb13=>?_) fun hb13=>?_
           ·
            try simp at hb13
            have q13:ordB d k (ge d.frames k)=true:=Zqz f3_1 hb12 hb13
            refine qs tb hJ [1000] [_] [_] ?_
            exact tRn 0 (hE:=eI (by first | (show ZbK d k j=_;have q6:ZbK d k j≠0:=Zgo hb5;rw[frE,Zc4];grind) | (rw[frE,Zc4];grind)))
           ·
            try simp at hb13
            refine Za (nx (hqp tb hJ [0,1,2,1002] [_,.int (m+1:Nat),_] [1] U4 rfl ⟨Yf,trivial⟩ ?_))
            exact lpE (m+1) [0,1,2,3] ⟨oz,oz,fun i h1 h2=>by by_cases e:i=m;(subst e;simpa using hb13);exact f3_3 i h1 oz⟩
          ·
           replace hb12:((YU (ge d.frames k).hyps).map Hy.label).length≤m:=by have:=of_decide_eq_false hb12;omega
           have e12:ordB d k (ge d.frames k)=false:=Zn9 fun i h1 h2=>f3_3 i h1 oz
           refine Zp (nx (qs tb hJ [1000] [_] [_] ?_))
           exact tRn 0 (hE:=eI (by first | (show ZbK d k j=_;have q6:ZbK d k j≠0:=Zgo hb5;rw[frE,Zc4];grind) | (rw[frE,Zc4];grind)))
theorem ZuH {J:WP} (hJ:Stab J) (d:Db) (hw:∀ i,i<d.frames.length→(ge d.frames i).wide.length*32≤140737488351232):Fn Tryz.prog J 37 [.agg (dbC d)] (.int (ZbN d)):=by
 refine fE Tryz.func37 fun S w0 hS hJ0=>?_
 clear hJ0
 refine hqs tb hJ [1000] [.ptr (dbC d),_] [0] [_] rfl ⟨iBs hS hJ,trivial⟩ ?_
 refine Zd (hqs tb hJ [0,1001,1015] [_,_,.int (d.frames.length:Nat),_,_,_,_,.int (d.consts.length:Nat),_,_,_,_,_,.int (d.vars.length:Nat),_,_] [2,7,13] U3 rfl ⟨ZX XS,ZX Zs,ZX Zs,trivial⟩ ?_)
 refine ln 1 fun hl1=>?_
 refine cj 2 (fun hb1=>?_) fun hb1=>?_
 ·
  refine qs tb hJ [1000] [_] [_] ?_
  exact tRn 0 (hE:=eI (by rw[ZbN];grind))
 ·
  have e1:(d.frames.length≤400∧d.consts.length≤8000)∧d.vars.length≤8000:=by simp at hb1;omega
  refine Za (nx (Zd (hqs tb hJ [0,1002] [_,.int (ZaM d),_] [1] U2 rfl ⟨iFn hS hJ (Zou hJ d) Zue,trivial⟩ ?_)))
  refine qs tb hJ [0,1,1001] U2 U3 ?_
  refine cj 2 (fun hb2=>?_) fun hb2=>?_
  ·
   try simp at hb2
   refine qs tb hJ [1001] U2 [_] ?_
   exact tRn 0 (hE:=eI (by rw[ZbN];grind))
  ·
   try simp at hb2
   refine Za (nx (Zd (qs tb hJ [0,1000] [_] U2 ?_)))
   refine Zc (lp (ι:=Nat) (fun k=>(k≤d.frames.length)∧(∀ i,i<k→frE d i=0)) (fun k=>[(4,.int (k:Nat))]) (fun k=>d.frames.length-k) [0,1] [_] 0 ⟨nzl,fun j hj=>by omega⟩ ?_)
   rintro k ⟨f1_1,f1_2⟩
   refine Zd (hqs tb hJ [0,1,1004] (V3 [.int (d.frames.length:Nat),_]) [3] U3 rfl ⟨ZX XS,trivial⟩ ?_)
   refine cj 2 (fun hb3=>?_) fun hb3=>?_
   ·
    try simp at hb3
    refine Za (nx (Zd (Zc (hqs tb hJ [0,1,1003] [_,_,.int (frE d k),_] [2] U3 rfl ⟨iFn hS hJ (ZuF hJ d k sfz (e1.1.1) (e1.2) (fun i hi=>Zgw (f1_2 i hi)) (hw k oz)) Zud,trivial⟩ ?_))))
    refine qs tb hJ [0,1,2,1001] U2 U4 ?_
    refine cj 3 (fun hb4=>?_) fun hb4=>?_
    ·
     try simp at hb4
     have q4:=Yo oz f1_2 hb4
     refine qs tb hJ [1001] U2 [_] ?_
     exact tRn 0 (hE:=eI (by rw[ZbN];grind))
    ·
     try simp at hb4
     refine Za (nx (hqp tb hJ [0,1002] [_,.int (k+1:Nat),_] [1] U2 rfl ⟨Yf,trivial⟩ ?_))
     exact lpE (k+1) [0,1] ⟨oz,ZG f1_2 hb4⟩
   ·
    try simp at hb3
    have e3:Xf d.frames.length (frE d)=0:=XI fun i hi=>f1_2 i oz
    refine Zp (nx (qs tb hJ [1000] [_] [_] ?_))
    exact tRn 0 (hE:=eI (by rw[ZbN];grind))
section
variable {J:WP} (hJ:Stab J)
include hJ
theorem Zbr (M1 M2:Nat) (M3 M4 M5:Nat) (cs vs:List BA) (s:BA)  :FnR Tryz.prog J 134 [OB.set keyS M1 cs,OB.set keyS M2 vs] [.ptr (mpC [M1,M2,M3,M4,M5]),.str s] (.bool (decide (s∈cs)||decide (s∈vs))):=by
 refine fER Tryz.func134 fun S w0 hS hJ0 hH=>?_
 clear hJ0
 refine qs tb hJ [0,1] [_] U2 ?_
 refine hqs tb hJ [1014] (V5 [.bool (decide (s∈cs)),_,_,_,_,_,_,.bool (decide (s∈vs)),_,_]) [5,12] [_] rfl ⟨fun _ _ hk hx hl _=>YG (Kd:=keyS) (xs:=cs) ZY Yi s rfl (YN hH hk (mo 0 rfl)) (hl.D 3 8 rfl rfl) (hl.D 4 9 rfl rfl) hx,fun _ _ hk hx hl hc=>YG (Kd:=keyS) (xs:=vs) ZY Yi s rfl (YN hH hk (mo 1 rfl)) (hl.D 10 15 rfl hc) (hl.D 11 16 rfl hc) hx,trivial⟩ ?_
 exact tRn 0 (hE:=eB (by first | rfl | grind[Zj]))
theorem Zti (M1 M2:Nat) (M3 M4 M5:Nat) (cs vs:List BA) (s:BA)  :FnR Tryz.prog J 189 [OB.set keyS M1 cs,OB.set keyS M2 vs] [.str s,.ptr [.ptr (mpC [M1,M2,M3,M4,M5])]] (.bool (!(decide (s∈cs)||decide (s∈vs)))):=by
 refine fER Tryz.func189 fun S w0 hS hJ0 hH=>?_
 clear hJ0
 refine qs tb hJ [0,1] [_] U2 ?_
 refine hqs tb hJ [1004] [_,_,.bool (decide (s∈cs)||decide (s∈vs)),_,_] [2] [_] rfl ⟨fun _ _ hk hx hl _=>Y6 (Zbr hJ M1 M2 M3 M4 M5 cs vs s) Zd1 rfl (nm hS hk) (hx) (ZT (YN hH hk (mo 0 rfl)) (ZT (YN hH hk (mo 1 rfl)) ZI)) (Zb (hl.D 0 4 rfl rfl) (Zb (hl.D 1 5 rfl rfl) Zk)) (js hJ hx),trivial⟩ ?_
 exact tRn 0 (hE:=rfl)
theorem Zhy (xs:List BA) (f:FuncId) (caps:List AV) (Os:List OB) (p:BA→Bool) (hf:∀ q',FnR Tryz.prog J f Os ([.str (q')]++caps) (.bool (p q'))) (hk0:Zl Tryz.prog f):FnR Tryz.prog J 59 Os [.rd (Zi xs),.fn f caps] (.int (Qc p xs)):=by
 refine fER Tryz.func59 fun S w0 hS hJ0 hH=>?_
 clear hJ0
 refine ln 0 fun hl1=>?_
 refine qs tb hJ [0,1] [_] U2 ?_
 refine Zd (hqs tb hJ [0,1,1001,1002] [_,.int (xs.length:Nat),_] [1] U4 rfl ⟨ZX Zs,trivial⟩ ?_)
 refine Zc (lp (ι:=Nat) (fun k=>(k≤xs.length)∧(∀ j,j<k→p (ge xs j)=false)) (fun k=>[(8,.int (k:Nat))]) (fun k=>xs.length-k) [0,1,2,3] U3 0 ⟨nzl,fun j hj=>by omega⟩ ?_)
 rintro k ⟨f1_1,f1_2⟩
 refine qs tb hJ [0,1,2,3,1000] [_] U5 ?_
 refine cjS 4 (fun hb1=>?_) fun hb1=>?_
 ·
  try simp at hb1
  refine Za (nx (Zd (Zc (qs tb hJ [0,1,2,3,1001] U2 U5 ?_))))
  refine hqs tb hJ (r5 [1005]) (V3 [.ptr [lS (ge xs k)],_,.bool (p (ge xs k))]) [3,5] U6 rfl ⟨iIx Zf,fun _ _ hk hx hl _=>ZbT (hf (ge xs k)) hk0 rfl (hl.D 0 11 rfl rfl) (nm hS hk) (hx) (fun _ ho=>YN hH hk ho) (Zb (hl.D 4 15 rfl rfl) Zk) (js hJ hx),trivial⟩ ?_
  refine cj 5 (fun hb2=>?_) fun hb2=>?_
  ·
   try simp at hb2
   refine qs tb hJ [1001] U2 [_] ?_
   exact tRn 0 (hE:=eI (by first | exact(Y8 hb1 hb2 f1_2).symm | exact(YP fun j hj=>f1_2 j oz).symm))
  ·
   try simp at hb2
   refine Za (nx (hqp tb hJ [0,1,2,1001] [.int (k+1:Nat),_] [0] U4 rfl ⟨Yf,trivial⟩ ?_))
   exact lpE (k+1) [0,1,2,3] ⟨oz,ZG f1_2 hb2⟩
 ·
  try simp at hb1
  refine Zp (nx (qs tb hJ [1000] [_] [_] ?_))
  exact tRn 0 (hE:=eI (by first | exact(Y8 hb1 hb2 f1_2).symm | exact(YP fun j hj=>f1_2 j oz).symm))
end
end Go.Proofs.YtaigaoflehfdcaaGreatDoor
set_option maxHeartbeats 8000000
set_option maxRecDepth 100000
namespace Go.Proofs.YtaigaoflehfdcaaGreatDoor
open Go.Proofs.Tryz (prog)
open Go.RowKit
section
variable {J:WP} (hJ:Stab J)
include hJ
theorem Xs (xs:List BA) (f:FuncId) (caps:List AV) (Os:List OB) (p:BA→Bool) (hf:∀ q',FnR prog J f Os ([.str (q')]++caps) (.bool (p q'))) (hk0:Zl prog f):FnR prog J 28 Os [.rd (Zi xs),.fn f caps] (.bool (xs.any p)):=by
 refine fER Tryz.func28 fun S w0 hS hJ0 hH=>?_
 clear hJ0
 refine ln 0 fun hl1=>?_
 refine qs tb hJ [0,1] [_] U2 ?_
 refine hqs tb hJ [1004] [_,_,.int (Qc p xs),_,_] [2] [_] rfl ⟨fun _ _ hk hx hl _=>Y6 (Zhy hJ xs f caps Os p (hf) (hk0)) Zuk rfl (nm hS hk) (hx) (fun _ ho=>YN hH hk ho) (Zb (hl.D 0 5 rfl rfl) (Zb (hl.D 1 6 rfl rfl) Zk)) (js hJ hx),trivial⟩ ?_
 exact tRn 0 (hE:=eB (by rw[←ZaG]))
theorem Zdq (xs:List Hy) (f:FuncId) (caps:List AV) (Os:List OB) (p:Hy→Bool) (hf:∀ q',FnR prog J f Os ([.agg (hyC (q'))]++caps) (.bool (p q'))) (hk0:Zl prog f):FnR prog J 58 Os [.rd (Xl xs),.fn f caps] (.int (Qc p xs)):=by
 refine fER Tryz.func58 fun S w0 hS hJ0 hH=>?_
 clear hJ0
 refine ln 0 fun hl1=>?_
 refine qs tb hJ [0,1] [_] U2 ?_
 refine Zd (hqs tb hJ [0,1,1001,1002] [_,.int (xs.length:Nat),_] [1] U4 rfl ⟨ZX Zx,trivial⟩ ?_)
 refine Zc (lp (ι:=Nat) (fun k=>(k≤xs.length)∧(∀ j,j<k→p (ge xs j)=false)) (fun k=>[(8,.int (k:Nat))]) (fun k=>xs.length-k) [0,1,2,3] U3 0 ⟨nzl,fun j hj=>by omega⟩ ?_)
 rintro k ⟨f1_1,f1_2⟩
 refine qs tb hJ [0,1,2,3,1000] [_] U5 ?_
 refine cjS 4 (fun hb1=>?_) fun hb1=>?_
 ·
  try simp at hb1
  refine Za (nx (Zd (Zc (qs tb hJ [0,1,2,3,1001] U2 U5 ?_))))
  refine hqs tb hJ (r5 [1005]) (V3 [.ptr (hyC (ge xs k)),_,.bool (p (ge xs k))]) [3,5] U6 rfl ⟨iIx Zq,fun _ _ hk hx hl _=>ZbT (hf (ge xs k)) hk0 rfl (hl.D 0 11 rfl rfl) (nm hS hk) (hx) (fun _ ho=>YN hH hk ho) (Zb (hl.D 4 15 rfl rfl) Zk) (js hJ hx),trivial⟩ ?_
  refine cj 5 (fun hb2=>?_) fun hb2=>?_
  ·
   try simp at hb2
   refine qs tb hJ [1001] U2 [_] ?_
   exact tRn 0 (hE:=eI (by first | exact(Y8 hb1 hb2 f1_2).symm | exact(YP fun j hj=>f1_2 j oz).symm))
  ·
   try simp at hb2
   refine Za (nx (hqp tb hJ [0,1,2,1001] [.int (k+1:Nat),_] [0] U4 rfl ⟨Yf,trivial⟩ ?_))
   exact lpE (k+1) [0,1,2,3] ⟨oz,ZG f1_2 hb2⟩
 ·
  try simp at hb1
  refine Zp (nx (qs tb hJ [1000] [_] [_] ?_))
  exact tRn 0 (hE:=eI (by first | exact(Y8 hb1 hb2 f1_2).symm | exact(YP fun j hj=>f1_2 j oz).symm))
theorem QM (xs:List Hy) (f:FuncId) (caps:List AV) (Os:List OB) (p:Hy→Bool) (hf:∀ q',FnR prog J f Os ([.agg (hyC (q'))]++caps) (.bool (p q'))) (hk0:Zl prog f):FnR prog J 27 Os [.rd (Xl xs),.fn f caps] (.bool (xs.any p)):=by
 refine fER Tryz.func27 fun S w0 hS hJ0 hH=>?_
 clear hJ0
 refine ln 0 fun hl1=>?_
 refine qs tb hJ [0,1] [_] U2 ?_
 refine hqs tb hJ [1004] [_,_,.int (Qc p xs),_,_] [2] [_] rfl ⟨fun _ _ hk hx hl _=>Y6 (Zdq hJ xs f caps Os p (hf) (hk0)) Zop rfl (nm hS hk) (hx) (fun _ ho=>YN hH hk ho) (Zb (hl.D 0 5 rfl rfl) (Zb (hl.D 1 6 rfl rfl) Zk)) (js hJ hx),trivial⟩ ?_
 exact tRn 0 (hE:=eB (by rw[←ZaG]))
theorem Zhz (xs:List Pr) (f:FuncId) (caps:List AV) (Os:List OB) (p:Pr→Bool) (hf:∀ q',FnR prog J f Os ([.agg (prC (q'))]++caps) (.bool (p q'))) (hk0:Zl prog f):FnR prog J 233 Os [.rd (Xa xs),.fn f caps] (.int (Qc p xs)):=by
 refine fER Tryz.func233 fun S w0 hS hJ0 hH=>?_
 clear hJ0
 refine ln 0 fun hl1=>?_
 refine qs tb hJ [0,1] [_] U2 ?_
 refine Zd (hqs tb hJ [0,1,1001,1002] [_,.int (xs.length:Nat),_] [1] U4 rfl ⟨ZX ZH,trivial⟩ ?_)
 refine Zc (lp (ι:=Nat) (fun k=>(k≤xs.length)∧(∀ j,j<k→p (ge xs j)=false)) (fun k=>[(8,.int (k:Nat))]) (fun k=>xs.length-k) [0,1,2,3] U3 0 ⟨nzl,fun j hj=>by omega⟩ ?_)
 rintro k ⟨f1_1,f1_2⟩
 refine qs tb hJ [0,1,2,3,1000] [_] U5 ?_
 refine cjS 4 (fun hb1=>?_) fun hb1=>?_
 ·
  try simp at hb1
  refine Za (nx (Zd (Zc (qs tb hJ [0,1,2,3,1001] U2 U5 ?_))))
  refine hqs tb hJ (r5 [1005]) (V3 [.ptr (prC (ge xs k)),_,.bool (p (ge xs k))]) [3,5] U6 rfl ⟨iIx Zo,fun _ _ hk hx hl _=>ZbT (hf (ge xs k)) hk0 rfl (hl.D 0 11 rfl rfl) (nm hS hk) (hx) (fun _ ho=>YN hH hk ho) (Zb (hl.D 4 15 rfl rfl) Zk) (js hJ hx),trivial⟩ ?_
  refine cj 5 (fun hb2=>?_) fun hb2=>?_
  ·
   try simp at hb2
   refine qs tb hJ [1001] U2 [_] ?_
   exact tRn 0 (hE:=eI (by first | exact(Y8 hb1 hb2 f1_2).symm | exact(YP fun j hj=>f1_2 j oz).symm))
  ·
   try simp at hb2
   refine Za (nx (hqp tb hJ [0,1,2,1001] [.int (k+1:Nat),_] [0] U4 rfl ⟨Yf,trivial⟩ ?_))
   exact lpE (k+1) [0,1,2,3] ⟨oz,ZG f1_2 hb2⟩
 ·
  try simp at hb1
  refine Zp (nx (qs tb hJ [1000] [_] [_] ?_))
  exact tRn 0 (hE:=eI (by first | exact(Y8 hb1 hb2 f1_2).symm | exact(YP fun j hj=>f1_2 j oz).symm))
theorem ZhA (xs:List Int) (f:FuncId) (caps:List AV) (Os:List OB) (p:Int→Bool) (hf:∀ q',FnR prog J f Os ([.int (q')]++caps) (.bool (p q'))) (hk0:Zl prog f):FnR prog J 93 Os [.rd (Qx xs),.fn f caps] (.int (Qc p xs)):=by
 refine fER Tryz.func93 fun S w0 hS hJ0 hH=>?_
 clear hJ0
 refine ln 0 fun hl1=>?_
 refine qs tb hJ [0,1] [_] U2 ?_
 refine Zd (hqs tb hJ [0,1,1001,1002] [_,.int (xs.length:Nat),_] [1] U4 rfl ⟨ZX YV,trivial⟩ ?_)
 refine Zc (lp (ι:=Nat) (fun k=>(k≤xs.length)∧(∀ j,j<k→p (ge xs j)=false)) (fun k=>[(8,.int (k:Nat))]) (fun k=>xs.length-k) [0,1,2,3] U3 0 ⟨nzl,fun j hj=>by omega⟩ ?_)
 rintro k ⟨f1_1,f1_2⟩
 refine qs tb hJ [0,1,2,3,1000] [_] U5 ?_
 refine cjS 4 (fun hb1=>?_) fun hb1=>?_
 ·
  try simp at hb1
  refine Za (nx (Zd (Zc (qs tb hJ [0,1,2,3,1001] U2 U5 ?_))))
  refine hqs tb hJ (r5 [1005]) (V3 [.ptr [lI (ge xs k)],_,.bool (p (ge xs k))]) [3,5] U6 rfl ⟨iIx ZP,fun _ _ hk hx hl _=>ZbT (hf (ge xs k)) hk0 rfl (hl.D 0 11 rfl rfl) (nm hS hk) (hx) (fun _ ho=>YN hH hk ho) (Zb (hl.D 4 15 rfl rfl) Zk) (js hJ hx),trivial⟩ ?_
  refine cj 5 (fun hb2=>?_) fun hb2=>?_
  ·
   try simp at hb2
   refine qs tb hJ [1001] U2 [_] ?_
   exact tRn 0 (hE:=eI (by first | exact(Y8 hb1 hb2 f1_2).symm | exact(YP fun j hj=>f1_2 j oz).symm))
  ·
   try simp at hb2
   refine Za (nx (hqp tb hJ [0,1,2,1001] [.int (k+1:Nat),_] [0] U4 rfl ⟨Yf,trivial⟩ ?_))
   exact lpE (k+1) [0,1,2,3] ⟨oz,ZG f1_2 hb2⟩
 ·
  try simp at hb1
  refine Zp (nx (qs tb hJ [1000] [_] [_] ?_))
  exact tRn 0 (hE:=eI (by first | exact(Y8 hb1 hb2 f1_2).symm | exact(YP fun j hj=>f1_2 j oz).symm))
theorem Zeq (xs:List Int) (f:FuncId) (caps:List AV) (Os:List OB) (p:Int→Bool) (hf:∀ q',FnR prog J f Os ([.int (q')]++caps) (.bool (p q'))) (hk0:Zl prog f):FnR prog J 63 Os [.rd (Qx xs),.fn f caps] (.bool (xs.any p)):=by
 refine fER Tryz.func63 fun S w0 hS hJ0 hH=>?_
 clear hJ0
 refine ln 0 fun hl1=>?_
 refine qs tb hJ [0,1] [_] U2 ?_
 refine hqs tb hJ [1004] [_,_,.int (Qc p xs),_,_] [2] [_] rfl ⟨fun _ _ hk hx hl _=>Y6 (ZhA hJ xs f caps Os p (hf) (hk0)) Zt5 rfl (nm hS hk) (hx) (fun _ ho=>YN hH hk ho) (Zb (hl.D 0 5 rfl rfl) (Zb (hl.D 1 6 rfl rfl) Zk)) (js hJ hx),trivial⟩ ?_
 exact tRn 0 (hE:=eB (by rw[←ZaG]))
theorem Zdr (xs:List Fr) (f:FuncId) (caps:List AV) (Os:List OB) (p:Fr→Bool) (hf:∀ q',FnR prog J f Os ([.agg (frC (q'))]++caps) (.bool (p q'))) (hk0:Zl prog f):FnR prog J 57 Os [.rd (Zg1 xs),.fn f caps] (.int (Qc p xs)):=by
 refine fER Tryz.func57 fun S w0 hS hJ0 hH=>?_
 clear hJ0
 refine ln 0 fun hl1=>?_
 refine qs tb hJ [0,1] [_] U2 ?_
 refine Zd (hqs tb hJ [0,1,1001,1002] [_,.int (xs.length:Nat),_] [1] U4 rfl ⟨ZX XS,trivial⟩ ?_)
 refine Zc (lp (ι:=Nat) (fun k=>(k≤xs.length)∧(∀ j,j<k→p (ge xs j)=false)) (fun k=>[(8,.int (k:Nat))]) (fun k=>xs.length-k) [0,1,2,3] U3 0 ⟨nzl,fun j hj=>by omega⟩ ?_)
 rintro k ⟨f1_1,f1_2⟩
 refine qs tb hJ [0,1,2,3,1000] [_] U5 ?_
 refine cjS 4 (fun hb1=>?_) fun hb1=>?_
 ·
  try simp at hb1
  refine Za (nx (Zd (Zc (qs tb hJ [0,1,2,3,1001] U2 U5 ?_))))
  refine hqs tb hJ (r5 [1005]) (V3 [.ptr (frC (ge xs k)),_,.bool (p (ge xs k))]) [3,5] U6 rfl ⟨iIx Z5,fun _ _ hk hx hl _=>ZbT (hf (ge xs k)) hk0 rfl (hl.D 0 11 rfl rfl) (nm hS hk) (hx) (fun _ ho=>YN hH hk ho) (Zb (hl.D 4 15 rfl rfl) Zk) (js hJ hx),trivial⟩ ?_
  refine cj 5 (fun hb2=>?_) fun hb2=>?_
  ·
   try simp at hb2
   refine qs tb hJ [1001] U2 [_] ?_
   exact tRn 0 (hE:=eI (by first | exact(Y8 hb1 hb2 f1_2).symm | exact(YP fun j hj=>f1_2 j oz).symm))
  ·
   try simp at hb2
   refine Za (nx (hqp tb hJ [0,1,2,1001] [.int (k+1:Nat),_] [0] U4 rfl ⟨Yf,trivial⟩ ?_))
   exact lpE (k+1) [0,1,2,3] ⟨oz,ZG f1_2 hb2⟩
 ·
  try simp at hb1
  refine Zp (nx (qs tb hJ [1000] [_] [_] ?_))
  exact tRn 0 (hE:=eI (by first | exact(Y8 hb1 hb2 f1_2).symm | exact(YP fun j hj=>f1_2 j oz).symm))
theorem Zer (xs:List Fr) (f:FuncId) (caps:List AV) (Os:List OB) (p:Fr→Bool) (hf:∀ q',FnR prog J f Os ([.agg (frC (q'))]++caps) (.bool (p q'))) (hk0:Zl prog f):FnR prog J 24 Os [.rd (Zg1 xs),.fn f caps] (.bool (xs.any p)):=by
 refine fER Tryz.func24 fun S w0 hS hJ0 hH=>?_
 clear hJ0
 refine ln 0 fun hl1=>?_
 refine qs tb hJ [0,1] [_] U2 ?_
 refine hqs tb hJ [1004] [_,_,.int (Qc p xs),_,_] [2] [_] rfl ⟨fun _ _ hk hx hl _=>Y6 (Zdr hJ xs f caps Os p (hf) (hk0)) Zoq rfl (nm hS hk) (hx) (fun _ ho=>YN hH hk ho) (Zb (hl.D 0 5 rfl rfl) (Zb (hl.D 1 6 rfl rfl) Zk)) (js hJ hx),trivial⟩ ?_
 exact tRn 0 (hE:=eB (by rw[←ZaG]))
theorem ZdR (xs ys:List BA)  :Fn prog J 15 [.rd (Zi xs),.rd (Zi ys)] (.bool (decide (xs=ys))):=by
 refine fE Tryz.func15 fun S w0 hS hJ0=>?_
 clear hJ0
 refine ln 0 fun hl1=>?_
 refine ln 1 fun hl2=>?_
 refine qs tb hJ [0,1] [_] U2 ?_
 refine Zd (hqs tb hJ [0,1,1004] [_,.int (xs.length:Nat),_,.int (ys.length:Nat),_] [1,3] U3 rfl ⟨ZX Zs,ZX Zs,trivial⟩ ?_)
 refine cj 2 (fun hb1=>?_) fun hb1=>?_
 ·
  try simp at hb1
  refine qs tb hJ [1000] [_] [_] ?_
  exact tRn 0 (hE:=eB (by first | (have:=Zap (xs:=xs) (ys:=ys) oz (fun j hj=>f1_2 j oz);simp[this];done) | (symm;rw[decide_eq_false_iff_not];intro e;subst e;simp_all;done)))
 ·
  try simp at hb1
  refine Za (nx (Zd (hqs tb hJ [0,1,1001,1002] [_,.int (xs.length:Nat),_] [1] U4 rfl ⟨ZX Zs,trivial⟩ ?_)))
  refine Zc (lp (ι:=Nat) (fun k=>(k≤xs.length)∧(∀ j,j<k→ge xs j=ge ys j)) (fun k=>[(13,.int (k:Nat))]) (fun k=>xs.length-k) [0,1,2,3] U3 0 ⟨nzl,fun j hj=>by omega⟩ ?_)
  rintro k ⟨f1_1,f1_2⟩
  refine qs tb hJ [0,1,2,3,1000] [_] U5 ?_
  refine cjS 4 (fun hb2=>?_) fun hb2=>?_
  ·
   try simp at hb2
   refine Za (nx (Zd (Zc (qs tb hJ [0,1,2,3,1001] U2 U5 ?_))))
   refine hqs tb hJ [0,1,2,3,1008] [_,_,.ptr [lS (ge xs k)],_,_,_,.ptr [lS (ge ys k)],_,_] [2,6] U5 rfl ⟨iIx Zf,iIx Zf,trivial⟩ ?_
   refine cj 4 (fun hb3=>?_) fun hb3=>?_
   ·
    try simp at hb3
    refine qs tb hJ [1000] [_] [_] ?_
    exact tRn 0 (hE:=eB (by first | (have:=Zap (xs:=xs) (ys:=ys) oz (fun j hj=>f1_2 j oz);simp[this];done) | (symm;rw[decide_eq_false_iff_not];intro e;subst e;simp_all;done)))
   ·
    try simp at hb3
    refine Za (nx (hqp tb hJ [0,1,2,1001] [.int (k+1:Nat),_] [0] U4 rfl ⟨Yf,trivial⟩ ?_))
    exact lpE (k+1) [0,1,2,3] ⟨oz,ZG f1_2 hb3⟩
  ·
   try simp at hb2
   refine Zp (nx (qs tb hJ [1000] [_] [_] ?_))
   exact tRn 0 (hE:=eB (by first | (have:=Zap (xs:=xs) (ys:=ys) oz (fun j hj=>f1_2 j oz);simp[this];done) | (symm;rw[decide_eq_false_iff_not];intro e;subst e;simp_all;done)))
theorem ZjY (xs:List BA) (b:xs.length*16≤140737488351232):FnM (ι:=Value) prog J 71 [] [.rd (Zi xs)] [] (fun i'=>.lit (i')) (fun i'=>[OB.row i' 9 1 (xs.map Q3)]):=by
 refine fEM Tryz.func71 fun S w0 R hS hJ0 hH=>?_
 refine Xq (B:=So J S w0 8 (R) [(0,.rd (Zi xs))]) ?_ fun a w h=>h
 refine ln 0 fun hl1=>?_
 refine qso tb hJ [0] [_] [_] ?_
 refine Zd (tsq (snK 1 tb rfl (Zgb (f:=Q3) (xs:=xs) Zs rfl rfl rfl (lb rfl) (fun a w h=>(h.get 0 rfl)) fun g1 hg1=>?_)))
 refine seK [0,2] U2 rfl (nx (cj 0 (fun hb1=>?_) fun hb1=>?_))
 ·
  try simp at hb1
  refine qso tb hJ [1000] [_] [_] ?_
  refine tw (YJ 9 1 hJ) (tw (ob0 (congrArg (fun z'=>OB.row (.slice none 0 0) 9 1 ((z').map Q3)) (show([]:List BA)=xs from by first | exact(hg1 (by assumption)).symm | simp))) ?_)
  exact ZB (fun a w h=>Yl  (m:=0) (.slice none 0 0) rfl h rfl rfl)
 ·
  try simp at hb1
  refine Za (nx (Zd (fun a w h=>ZaA (id:=3) (t:=22) (e:=9) (size:=1) (bytes:=16) (i0:=0) (fol:=3) (d:=2) (ch:=[(2,(xs.map Q3))]) (fun ix'=>([.any,.rd (Zi xs),.any,.any]:List AV).getD ix' .any) (fun _=>true) [] (xs.map Q3) yz ?r3_1 hJ hJ0 h YZ rfl rfl rfl rfl ⟨?_,?_,?_,?_,trivial⟩ trivial (fun v2=>?n3_1))))
  case r3_1=>
   refine Row.mk' Y3 ⟨_,rfl,rfl,rfl,rfl,rfl⟩ ⟨?x3_1_0,trivial⟩ ⟨_,_,_,_,rfl,rfl,rfl,rfl,rfl,rfl,rfl,rfl,rfl⟩ rfl rfl rfl
   case x3_1_0=>exact⟨_,_,_,_,rfl,rfl,rfl,rfl,rfl,rfl,rfl,rfl,XB (f:=Q3) (fun _=>rfl),(by have hm:maxLen=9223372036854775807:=rfl;simp[upto];first | omega | (simp;omega)),(by have hm:maxLen=9223372036854775807:=rfl;simp[upto];first | omega | (simp;omega)),fun _ _ _ _ _ hl=>(hl.D 1 6 rfl rfl)⟩
  exact fun h=>Zr rfl h
  exact fun _ _=>⟨rfl,fun _ _ _ hx hl _=>Z7 rfl (hl.env 1 0 _ rfl rfl) hx⟩
  exact fun h=>Zr rfl h
  exact fun h=>Zr rfl h
  clear a w h
  exact nx (ZB (fun a w h=>Yl  (m:=0) v2 rfl h rfl rfl))
theorem ZpY (xs:List Hy) (b:xs.length*48≤140737488351232):FnM (ι:=Value) prog J 146 [] [.rd (Xl xs)] [] (fun i'=>.lit (i')) (fun i'=>[OB.row i' 60 3 (xs.map hyC)]):=by
 refine fEM Tryz.func146 fun S w0 R hS hJ0 hH=>?_
 refine Xq (B:=So J S w0 8 (R) [(0,.rd (Xl xs))]) ?_ fun a w h=>h
 refine ln 0 fun hl1=>?_
 refine qso tb hJ [0] [_] [_] ?_
 refine Zd (tsq (snK 1 tb rfl (Zgb (f:=hyC) (xs:=xs) Zx rfl rfl rfl (lb rfl) (fun a w h=>(h.get 0 rfl)) fun g1 hg1=>?_)))
 refine seK [0,2] U2 rfl (nx (cj 0 (fun hb1=>?_) fun hb1=>?_))
 ·
  try simp at hb1
  refine qso tb hJ [1000] [_] [_] ?_
  refine tw (YJ 60 3 hJ) (tw (ob0 (congrArg (fun z'=>OB.row (.slice none 0 0) 60 3 ((z').map hyC)) (show([]:List Hy)=xs from by first | exact(hg1 (by assumption)).symm | simp))) ?_)
  exact ZB (fun a w h=>Yl  (m:=0) (.slice none 0 0) rfl h rfl rfl)
 ·
  try simp at hb1
  refine Za (nx (Zd (fun a w h=>ZaA (id:=3) (t:=50) (e:=60) (size:=3) (bytes:=48) (i0:=0) (fol:=3) (d:=2) (ch:=[(2,(xs.map hyC))]) (fun ix'=>([.any,.rd (Xl xs),.any,.any]:List AV).getD ix' .any) (fun _=>true) [] (xs.map hyC) yz ?r3_1 hJ hJ0 h YZ rfl rfl rfl rfl ⟨?_,?_,?_,?_,trivial⟩ trivial (fun v2=>?n3_1))))
  case r3_1=>
   refine Row.mk' Qq ⟨_,rfl,rfl,rfl,rfl,rfl⟩ ⟨?x3_1_0,trivial⟩ ⟨_,_,_,_,rfl,rfl,rfl,rfl,rfl,rfl,rfl,rfl,rfl⟩ rfl rfl rfl
   case x3_1_0=>exact⟨_,_,_,_,rfl,rfl,rfl,rfl,rfl,rfl,rfl,rfl,XB (f:=hyC) (fun _=>rfl),(by have hm:maxLen=9223372036854775807:=rfl;simp[upto];first | omega | (simp;omega)),(by have hm:maxLen=9223372036854775807:=rfl;simp[upto];first | omega | (simp;omega)),fun _ _ _ _ _ hl=>(hl.D 1 6 rfl rfl)⟩
  exact fun h=>Zr rfl h
  exact fun _ _=>⟨rfl,fun _ _ _ hx hl _=>Z7 rfl (hl.env 1 0 _ rfl rfl) hx⟩
  exact fun h=>Zr rfl h
  exact fun h=>Zr rfl h
  clear a w h
  exact nx (ZB (fun a w h=>Yl  (m:=0) v2 rfl h rfl rfl))
theorem ZpX (xs:List Pr) (b:xs.length*32≤140737488351232):FnM (ι:=Value) prog J 217 [] [.rd (Xa xs)] [] (fun i'=>.lit (i')) (fun i'=>[OB.row i' 173 2 (xs.map prC)]):=by
 refine fEM Tryz.func217 fun S w0 R hS hJ0 hH=>?_
 refine Xq (B:=So J S w0 8 (R) [(0,.rd (Xa xs))]) ?_ fun a w h=>h
 refine ln 0 fun hl1=>?_
 refine qso tb hJ [0] [_] [_] ?_
 refine Zd (tsq (snK 1 tb rfl (Zgb (f:=prC) (xs:=xs) ZH rfl rfl rfl (lb rfl) (fun a w h=>(h.get 0 rfl)) fun g1 hg1=>?_)))
 refine seK [0,2] U2 rfl (nx (cj 0 (fun hb1=>?_) fun hb1=>?_))
 ·
  try simp at hb1
  refine qso tb hJ [1000] [_] [_] ?_
  refine tw (YJ 173 2 hJ) (tw (ob0 (congrArg (fun z'=>OB.row (.slice none 0 0) 173 2 ((z').map prC)) (show([]:List Pr)=xs from by first | exact(hg1 (by assumption)).symm | simp))) ?_)
  exact ZB (fun a w h=>Yl  (m:=0) (.slice none 0 0) rfl h rfl rfl)
 ·
  try simp at hb1
  refine Za (nx (Zd (fun a w h=>ZaA (id:=3) (t:=51) (e:=173) (size:=2) (bytes:=32) (i0:=0) (fol:=3) (d:=2) (ch:=[(2,(xs.map prC))]) (fun ix'=>([.any,.rd (Xa xs),.any,.any]:List AV).getD ix' .any) (fun _=>true) [] (xs.map prC) yz ?r3_1 hJ hJ0 h YZ rfl rfl rfl rfl ⟨?_,?_,?_,?_,trivial⟩ trivial (fun v2=>?n3_1))))
  case r3_1=>
   refine Row.mk' ZbC ⟨_,rfl,rfl,rfl,rfl,rfl⟩ ⟨?x3_1_0,trivial⟩ ⟨_,_,_,_,rfl,rfl,rfl,rfl,rfl,rfl,rfl,rfl,rfl⟩ rfl rfl rfl
   case x3_1_0=>exact⟨_,_,_,_,rfl,rfl,rfl,rfl,rfl,rfl,rfl,rfl,XB (f:=prC) (fun _=>rfl),(by have hm:maxLen=9223372036854775807:=rfl;simp[upto];first | omega | (simp;omega)),(by have hm:maxLen=9223372036854775807:=rfl;simp[upto];first | omega | (simp;omega)),fun _ _ _ _ _ hl=>(hl.D 1 6 rfl rfl)⟩
  exact fun h=>Zr rfl h
  exact fun _ _=>⟨rfl,fun _ _ _ hx hl _=>Z7 rfl (hl.env 1 0 _ rfl rfl) hx⟩
  exact fun h=>Zr rfl h
  exact fun h=>Zr rfl h
  clear a w h
  exact nx (ZB (fun a w h=>Yl  (m:=0) v2 rfl h rfl rfl))
end
theorem Zgm {J:WP} (hJ:Stab J) (v:Value) (xs:List Hy) (f:FuncId) (caps:List AV) (Os Hs:List OB) (p:Hy→Bool) (hf:∀ q',FnR prog J f (Os++Hs) ([.agg (hyC (q'))]++caps) (.bool (p q'))) (hk0:Zl prog f) (hn:xs.length≤9223372036854775807):FnM (ι:=Unit) prog J 145 Hs [.lit v,.fn f caps] (OB.row v 60 3 (xs.map hyC)::Os) (fun _=>.rd (Xl (xs.filter fun x'=>!p x'))) (fun _=>(Os)):=by
 refine fEM Tryz.func145 fun S w0 R hS hJ0 hH=>?_
 refine Xq (B:=So J S w0 42 (OB.row v 60 3 (xs.map hyC)::(Os++R)) [(0,.lit v),(1,.fn f caps)]) ?_ fun a w h=>h
 refine qso tb hJ [0,1] [_] U2 ?_
 refine ZtH tb hJ [0,1,1003] [_,_,.int (Qc p xs),_] [2] U3 rfl ⟨fun _ _ hk hx hl _=>Y6 (Zdq hJ xs f caps (Os++Hs) p (hf) (hk0)) Zop rfl (nm hS hk) (hx.1) (Zgv (fun _ ho=>ZjZ hx (List.mem_cons_of_mem _ (List.mem_append_left _ ho))) (fun _ ho=>Zkc hH hk hx ho)) (Zb (ZaB hS hx (mo 0 rfl) (hl.D 0 8 rfl rfl)) (Zb (hl.D 1 9 rfl rfl) Zk)) (jo hJ hx),trivial⟩ ?_
 refine Zd (qso tb hJ [0,1,2,1001] U2 U4 ?_)
 refine cj 3 (fun hb1=>?_) fun hb1=>?_
 ·
  have e1:=of_decide_eq_true hb1
  refine qso tb hJ [1001] U2 [_] ?_
  exact tw (fun h=>ZF hS h (m:=0) (s:=4) rfl) (ZB (fun a w h=>Yl  (m:=0) () rfl h rfl (congrArg (fun z=>AV.rd (Xl z)) (show xs=(xs.filter fun x'=>!p x')from by first | exact DelF.none e1 | exact f1_1.fin (by have:=f1_1.len;omega)))))
 ·
  have e1:=of_decide_eq_false hb1
  refine Za (nx (Zd (tw (sa 2 rfl (congrArg AV.int (show Qc p xs=(((Qc p xs).toNat:Nat):Int)from by have:=QR e1;omega))) (ZE tb hJ [0,1,2,1002] [_,.int ((Qc p xs).toNat+1:Nat),_] [1] U4 rfl ⟨Yf (h0:=by have:=(QR e1).2.1;omega),trivial⟩ ?_))))
  refine Zc (lpo (ι:=Nat×Nat×(List Hy)×Value) (fun(i,j,ys,_)=>(DelF p xs ys i j)) (fun(_,_,ys,vo)=>(OB.row vo 60 3 (ys.map hyC)::(Os++R))) (fun(i,j,_,vo)=>[(5,.int (i:Nat)),(6,.int (j:Nat)),(0,.lit vo)]) (fun(_,j,_,_)=>xs.length-j) [1,2,3,0] [_] ((Qc p xs).toNat,(Qc p xs).toNat+1,xs,v) (show(DelF p xs xs ((Qc p xs).toNat) ((Qc p xs).toNat+1))from DelF.init e1) ?_)
  rintro⟨i,j,ys,vo⟩ hF
  have f1_1:DelF p xs ys i j:=hF
  refine Zd (ZtH tb hJ [0,1,2,3,1003] [_,_,.int (ys.length:Nat),_] [2] U5 rfl ⟨fun _ _ _ hx hl _=>Zel Zx rfl (ZaB hS hx (mo 0 rfl) (hl.D 1 17 rfl rfl)) hx,trivial⟩ ?_)
  refine cj 4 (fun hb2=>?_) fun hb2=>?_
  ·
   try simp at hb2
   refine Za (nx (Zd (Zc (tsq (snK 2 tb rfl (sy (.lit (XG vo (j*3))) (fun h=>YC (i:=(j:Int)) Zq rfl (Zu h.x (mo 0 rfl)) (h.get 1 rfl) (h.get 0 rfl) nnn (by rw[List.length_map];exact Int.ofNat_lt.2 oz) h.x) ?_))))))
   refine sy (.agg (hyC (ge ys j))) (fun h=>Qh (i:=j) Qz rfl (Zu h.x (mo 0 rfl)) (h.get 0 rfl) (QJ (xs:=ys) (k:=j) oz) rfl h.x) ?_
   refine Qn (cs:=hyC (ge ys j)) Zb9 rfl rfl rfl (lb rfl) rfl rfl rfl dz (m:=0) rfl rfl (fun a w h=>Zy hS _ h.keep h.x _ nlr) (fun a w h w' hk'=>YL hJ _ _ hk' h.x) ?_
   refine seK [0,5,6,7,8] U5 rfl (nx (ZE tb hJ (r5 [1003]) [_,_,.bool (p (ge ys j)),_] [2] U6 rfl ⟨fun _ _ hk hx hl _=>ZbT (hf (ge ys j)) hk0 rfl (hl.D 0 26 rfl rfl) (Zy hS _ hk hx) (hx.1) (Zgv (fun _ ho=>Zu hx (List.mem_cons_of_mem _ (List.mem_append_left _ ho))) (fun _ ho=>ZS hH hk hx ho)) (Zb (hl.D 1 27 rfl rfl) Zk) (jo hJ hx),trivial⟩ ?_))
   refine cj 5 (fun hb3=>?_) fun hb3=>?_
   ·
    try simp at hb3
    refine tsq (snK 3 tb rfl (sy (.lit (XG vo (i*3))) (fun h=>YC (i:=(i:Int)) Zq rfl (Zu h.x (mo 0 rfl)) (h.get 2 rfl) (h.get 1 rfl) nnn (by rw[List.length_map];exact Int.ofNat_lt.2 (by have:=f1_1.le;omega)) h.x) ?_))
    refine Q4 (i:=i) hJ hJ0 YO rfl rfl rfl (by rw[List.length_map];exact(by have:=f1_1.le;omega)) rfl (fun a w h=>⟨(h.get 0 rfl),(h.get 1 rfl)⟩) ?_
    rw[show(ys.map hyC).set i (hyC (ge ys j))=(ys.set i (ge ys j)).map hyC from List.map_set.symm]
    refine seK [5,6,7,8] U4 rfl (nx (YA tb hJ [0,2,3,1002] [_,.int (i+1:Nat),_] [1] U4 rfl ⟨Yf (h0:=by have:=f1_1.le;have:=f1_1.len;omega),trivial⟩ ?_))
    refine nx (YA tb hJ [0,2,3,1002] [_,.int (j+1:Nat),_] [1] U4 rfl ⟨Yf (h0:=by have:=f1_1.lt;have:=f1_1.len;omega),trivial⟩ ?_)
    exact YK (i+1,j+1,ys.set i (ge ys j),vo) [0,2,3,1] (show(DelF p xs (ys.set i (ge ys j)) (i+1) (j+1))from f1_1.keep (by have:=f1_1.len;omega) (by simpa using hb3)) (hm:=(show xs.length-(j+1)<xs.length-j from by have:=f1_1.lt;have:=f1_1.len;omega))
   ·
    try simp at hb3
    refine Za (nx (YA tb hJ [1,2,4,1002] [_,.int (j+1:Nat),_] [1] U4 rfl ⟨Yf (h0:=by have:=f1_1.lt;have:=f1_1.len;omega),trivial⟩ ?_))
    exact YK (i,j+1,ys,vo) [0,1,3,2] (show(DelF p xs ys i (j+1))from f1_1.skip (by have:=f1_1.len;omega) (by simpa using hb3)) (hm:=(show xs.length-(j+1)<xs.length-j from by have:=f1_1.lt;have:=f1_1.len;omega))
  ·
   try simp at hb2
   refine Zp (nx (tsq (snK 2 tb rfl (sy (.lit (Zhb vo i 3)) (fun h=>ZjO (lo:=i) Zq rfl (Zu h.x (mo 0 rfl)) (h.get 1 rfl) (h.get 0 rfl) (by rw[List.length_map];exact(by have:=f1_1.le;have:=f1_1.lt;have:=f1_1.len;omega)) h.x) ?_))))
   refine Zgc (lo:=i) ZkR Zx dz hJ hJ0 rfl rfl rfl (by rw[List.length_map];exact(by have:=f1_1.le;have:=f1_1.lt;have:=f1_1.len;omega)) (fun a w h=>(h.get 0 rfl)) ?_
   rw[←List.map_take]
   refine seK [4,6] U2 rfl (nx (ZE tb hJ [1003] [_,_,.lit (ZfY vo i),_] [2] [_] rfl ⟨fun _ _ _ hx hl _=>ZjQ (m:=i) Zq rfl (Zu hx (mo 0 rfl)) (by first | rfl | (rw[List.length_map];exact(by have:=f1_1.le;have:=f1_1.lt;have:=f1_1.len;simp;omega))) (hl.D 0 39 rfl rfl) (hl.D 1 40 rfl rfl) hx,trivial⟩ ?_))
   exact tw (fun h=>ZF hS h (m:=0) (s:=4) rfl) (ZB (fun a w h=>Yl  (m:=0) () rfl h rfl (congrArg (fun z=>AV.rd (Xl z)) (show(ys.take i)=(xs.filter fun x'=>!p x')from by first | exact DelF.none e1 | exact f1_1.fin (by have:=f1_1.len;omega)))))
theorem Zgl {J:WP} (hJ:Stab J) (v:Value) (xs:List Pr) (f:FuncId) (caps:List AV) (Os Hs:List OB) (p:Pr→Bool) (hf:∀ q',FnR prog J f (Os++Hs) ([.agg (prC (q'))]++caps) (.bool (p q'))) (hk0:Zl prog f) (hn:xs.length≤9223372036854775807):FnM (ι:=Unit) prog J 216 Hs [.lit v,.fn f caps] (OB.row v 173 2 (xs.map prC)::Os) (fun _=>.rd (Xa (xs.filter fun x'=>!p x'))) (fun _=>(Os)):=by
 refine fEM Tryz.func216 fun S w0 R hS hJ0 hH=>?_
 refine Xq (B:=So J S w0 42 (OB.row v 173 2 (xs.map prC)::(Os++R)) [(0,.lit v),(1,.fn f caps)]) ?_ fun a w h=>h
 refine qso tb hJ [0,1] [_] U2 ?_
 refine ZtH tb hJ [0,1,1003] [_,_,.int (Qc p xs),_] [2] U3 rfl ⟨fun _ _ hk hx hl _=>Y6 (Zhz hJ xs f caps (Os++Hs) p (hf) (hk0)) ZqN rfl (nm hS hk) (hx.1) (Zgv (fun _ ho=>ZjZ hx (List.mem_cons_of_mem _ (List.mem_append_left _ ho))) (fun _ ho=>Zkc hH hk hx ho)) (Zb (ZaB hS hx (mo 0 rfl) (hl.D 0 8 rfl rfl)) (Zb (hl.D 1 9 rfl rfl) Zk)) (jo hJ hx),trivial⟩ ?_
 refine Zd (qso tb hJ [0,1,2,1001] U2 U4 ?_)
 refine cj 3 (fun hb1=>?_) fun hb1=>?_
 ·
  have e1:=of_decide_eq_true hb1
  refine qso tb hJ [1001] U2 [_] ?_
  exact tw (fun h=>ZF hS h (m:=0) (s:=4) rfl) (ZB (fun a w h=>Yl  (m:=0) () rfl h rfl (congrArg (fun z=>AV.rd (Xa z)) (show xs=(xs.filter fun x'=>!p x')from by first | exact DelF.none e1 | exact f1_1.fin (by have:=f1_1.len;omega)))))
 ·
  have e1:=of_decide_eq_false hb1
  refine Za (nx (Zd (tw (sa 2 rfl (congrArg AV.int (show Qc p xs=(((Qc p xs).toNat:Nat):Int)from by have:=QR e1;omega))) (ZE tb hJ [0,1,2,1002] [_,.int ((Qc p xs).toNat+1:Nat),_] [1] U4 rfl ⟨Yf (h0:=by have:=(QR e1).2.1;omega),trivial⟩ ?_))))
  refine Zc (lpo (ι:=Nat×Nat×(List Pr)×Value) (fun(i,j,ys,_)=>(DelF p xs ys i j)) (fun(_,_,ys,vo)=>(OB.row vo 173 2 (ys.map prC)::(Os++R))) (fun(i,j,_,vo)=>[(5,.int (i:Nat)),(6,.int (j:Nat)),(0,.lit vo)]) (fun(_,j,_,_)=>xs.length-j) [1,2,3,0] [_] ((Qc p xs).toNat,(Qc p xs).toNat+1,xs,v) (show(DelF p xs xs ((Qc p xs).toNat) ((Qc p xs).toNat+1))from DelF.init e1) ?_)
  rintro⟨i,j,ys,vo⟩ hF
  have f1_1:DelF p xs ys i j:=hF
  refine Zd (ZtH tb hJ [0,1,2,3,1003] [_,_,.int (ys.length:Nat),_] [2] U5 rfl ⟨fun _ _ _ hx hl _=>Zel ZH rfl (ZaB hS hx (mo 0 rfl) (hl.D 1 17 rfl rfl)) hx,trivial⟩ ?_)
  refine cj 4 (fun hb2=>?_) fun hb2=>?_
  ·
   try simp at hb2
   refine Za (nx (Zd (Zc (tsq (snK 2 tb rfl (sy (.lit (XG vo (j*2))) (fun h=>YC (i:=(j:Int)) Zo rfl (Zu h.x (mo 0 rfl)) (h.get 1 rfl) (h.get 0 rfl) nnn (by rw[List.length_map];exact Int.ofNat_lt.2 oz) h.x) ?_))))))
   refine sy (.agg (prC (ge ys j))) (fun h=>Qh (i:=j) YI rfl (Zu h.x (mo 0 rfl)) (h.get 0 rfl) (QJ (xs:=ys) (k:=j) oz) rfl h.x) ?_
   refine Qn (cs:=prC (ge ys j)) Zca rfl rfl rfl (lb rfl) rfl rfl rfl dz (m:=0) rfl rfl (fun a w h=>Zy hS _ h.keep h.x _ nlr) (fun a w h w' hk'=>YL hJ _ _ hk' h.x) ?_
   refine seK [0,5,6,7,8] U5 rfl (nx (ZE tb hJ (r5 [1003]) [_,_,.bool (p (ge ys j)),_] [2] U6 rfl ⟨fun _ _ hk hx hl _=>ZbT (hf (ge ys j)) hk0 rfl (hl.D 0 26 rfl rfl) (Zy hS _ hk hx) (hx.1) (Zgv (fun _ ho=>Zu hx (List.mem_cons_of_mem _ (List.mem_append_left _ ho))) (fun _ ho=>ZS hH hk hx ho)) (Zb (hl.D 1 27 rfl rfl) Zk) (jo hJ hx),trivial⟩ ?_))
   refine cj 5 (fun hb3=>?_) fun hb3=>?_
   ·
    try simp at hb3
    refine tsq (snK 3 tb rfl (sy (.lit (XG vo (i*2))) (fun h=>YC (i:=(i:Int)) Zo rfl (Zu h.x (mo 0 rfl)) (h.get 2 rfl) (h.get 1 rfl) nnn (by rw[List.length_map];exact Int.ofNat_lt.2 (by have:=f1_1.le;omega)) h.x) ?_))
    refine Q4 (i:=i) hJ hJ0 YF rfl rfl rfl (by rw[List.length_map];exact(by have:=f1_1.le;omega)) rfl (fun a w h=>⟨(h.get 0 rfl),(h.get 1 rfl)⟩) ?_
    rw[show(ys.map prC).set i (prC (ge ys j))=(ys.set i (ge ys j)).map prC from List.map_set.symm]
    refine seK [5,6,7,8] U4 rfl (nx (YA tb hJ [0,2,3,1002] [_,.int (i+1:Nat),_] [1] U4 rfl ⟨Yf (h0:=by have:=f1_1.le;have:=f1_1.len;omega),trivial⟩ ?_))
    refine nx (YA tb hJ [0,2,3,1002] [_,.int (j+1:Nat),_] [1] U4 rfl ⟨Yf (h0:=by have:=f1_1.lt;have:=f1_1.len;omega),trivial⟩ ?_)
    exact YK (i+1,j+1,ys.set i (ge ys j),vo) [0,2,3,1] (show(DelF p xs (ys.set i (ge ys j)) (i+1) (j+1))from f1_1.keep (by have:=f1_1.len;omega) (by simpa using hb3)) (hm:=(show xs.length-(j+1)<xs.length-j from by have:=f1_1.lt;have:=f1_1.len;omega))
   ·
    try simp at hb3
    refine Za (nx (YA tb hJ [1,2,4,1002] [_,.int (j+1:Nat),_] [1] U4 rfl ⟨Yf (h0:=by have:=f1_1.lt;have:=f1_1.len;omega),trivial⟩ ?_))
    exact YK (i,j+1,ys,vo) [0,1,3,2] (show(DelF p xs ys i (j+1))from f1_1.skip (by have:=f1_1.len;omega) (by simpa using hb3)) (hm:=(show xs.length-(j+1)<xs.length-j from by have:=f1_1.lt;have:=f1_1.len;omega))
  ·
   try simp at hb2
   refine Zp (nx (tsq (snK 2 tb rfl (sy (.lit (Zhb vo i 2)) (fun h=>ZjO (lo:=i) Zo rfl (Zu h.x (mo 0 rfl)) (h.get 1 rfl) (h.get 0 rfl) (by rw[List.length_map];exact(by have:=f1_1.le;have:=f1_1.lt;have:=f1_1.len;omega)) h.x) ?_))))
   refine Zgc (lo:=i) Zd6 ZH dz hJ hJ0 rfl rfl rfl (by rw[List.length_map];exact(by have:=f1_1.le;have:=f1_1.lt;have:=f1_1.len;omega)) (fun a w h=>(h.get 0 rfl)) ?_
   rw[←List.map_take]
   refine seK [4,6] U2 rfl (nx (ZE tb hJ [1003] [_,_,.lit (ZfY vo i),_] [2] [_] rfl ⟨fun _ _ _ hx hl _=>ZjQ (m:=i) Zo rfl (Zu hx (mo 0 rfl)) (by first | rfl | (rw[List.length_map];exact(by have:=f1_1.le;have:=f1_1.lt;have:=f1_1.len;simp;omega))) (hl.D 0 39 rfl rfl) (hl.D 1 40 rfl rfl) hx,trivial⟩ ?_))
   exact tw (fun h=>ZF hS h (m:=0) (s:=4) rfl) (ZB (fun a w h=>Yl  (m:=0) () rfl h rfl (congrArg (fun z=>AV.rd (Xa z)) (show(ys.take i)=(xs.filter fun x'=>!p x')from by first | exact DelF.none e1 | exact f1_1.fin (by have:=f1_1.len;omega)))))
end Go.Proofs.YtaigaoflehfdcaaGreatDoor
