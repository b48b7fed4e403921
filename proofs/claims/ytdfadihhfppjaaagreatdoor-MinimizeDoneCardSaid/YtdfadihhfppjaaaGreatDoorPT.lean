/-
  FACTS of the program's types and functions.
  CONTRACTS of the program: look-ups, functions that take functions.
  CONTRACTS of the library: slices' functions.
  CONTRACTS of the library: slices.DeleteFunc.
-/
import Derived.Test.YtdfadihhfppjaaaGreatDoorPS
import Derived.Laws.StructEq
import Derived.Test.YtdfadihhfppjaaaGreatDoorPN
set_option maxHeartbeats 8000000
set_option maxRecDepth 100000
namespace Go.Proofs.YtdfadihhfppjaaaGreatDoor
open Go.Proofs.Tryz (prog)
open Go.RowKit
theorem Yk:prog.follows .mixedOrders=true:=by kernel_rfl
theorem Zni:(prog.fieldsOf 162).toList=[{ name:= "A",type:=9,offset:=0,embedded:=false,tag:= "",pkgPath:= "",byteOffset:=0 }, { name:= "B",type:=9,offset:=1,embedded:=false,tag:= "",pkgPath:= "",byteOffset:=16 }]:=by kernel_rfl
theorem Zng:prog.underlying 162=some (.struct (prog.fieldsOf 162)):=by kernel_rfl
theorem Zsf:prog.underlying 9=some .string:=by kernel_rfl
theorem Zg2 (c:Array Value) (i:Nat) (v:Value) (h:c[i]?=some v) (w:World):(part 9 c i).run prog w= .ok v w:=by
 simp[part,Tryz.isAgg9,h]
theorem Zow:Zph prog 162:=by
 intro a b c d w x y
 refine⟨by simp[eqGuard],by simp[eqGuard],?_⟩
 unfold Op.equal Op.maxDepth
 rw[run_equalIn_struct w 9999 162 _ _ Zng (by kernel_rfl),Zni]
 have e1:=fun(c:Array Value) (v:Value) (i:Nat) (h:c[i]?=some v)=>Zg2 c i v h
 have q1:=run_equalIn_string (P:=prog) w 9998 9 a c Zsf
 have q2:=run_equalIn_string (P:=prog) w 9998 9 b d Zsf
 rw[QC]at q1 q2
 simp only[Op.eqFields]
 rw[if_pos dz,if_pos dz]
 simp only[Sem.run_bind]
 rw[e1 _ (.string a) 0 rfl w,Result.andThen_ok,e1 _ (.string c) 0 rfl w,Result.andThen_ok,q1,Result.andThen_ok]
 by_cases h1:a=c
 · simp only[h1,decide_true,Bool.not_true,Bool.false_eq_true,if_false,Sem.run_bind]
   rw[e1 _ (.string b) 1 rfl w,Result.andThen_ok,e1 _ (.string d) 1 rfl w,Result.andThen_ok,q2,Result.andThen_ok]
   by_cases h2:b=d
   · simp[h2,Sem.run_pure]
   · simp[h2,Sem.run_pure]
 · simp[h1,Sem.run_pure]
theorem Zx:prog.underlying 22=some (.slice 9):=by kernel_rfl
theorem Zl:Yl prog 22 9 1:=⟨by kernel_rfl,fun w=>by kernel_rfl⟩
theorem Qf:XH prog 9:=fun w=>by kernel_rfl
theorem Yf:prog.underlying 70=some (.slice 162):=by kernel_rfl
theorem ZD:Yl prog 70 162 2:=⟨by kernel_rfl,fun w=>by kernel_rfl⟩
theorem Xh:Xl prog 162 2:=⟨fun w=>by kernel_rfl,fun w=>by kernel_rfl⟩
theorem ZaV:prog.underlying 9=some .string:=by kernel_rfl
theorem ZcD:ZV prog 72 2 2:=fun b off w=>by kernel_rfl
theorem ZnA:XH prog 69:=fun w=>by kernel_rfl
theorem Zbr:Zir prog 69 119 3 48:=Zs6 (.agg #[.string ⟨#[]⟩,.bool false,.slice none 0 0]) (by kernel_rfl) (by kernel_rfl) rfl dz (fun w=>by kernel_rfl)
theorem ZtY:XH prog 4:=fun w=>by kernel_rfl
theorem Y0:ZV prog 119 2 2:=fun b off w=>by kernel_rfl
theorem Qg:XH prog 22:=fun w=>by kernel_rfl
theorem ZaM:ZV prog 119 0 0:=fun b off w=>by kernel_rfl
theorem undb_4:prog.underlying 4=some .bool:=by kernel_rfl
theorem Zfs:ZV prog 25 1 1:=fun b off w=>by kernel_rfl
theorem ZgG:Xl prog 25 3:=⟨fun w=>by kernel_rfl,fun w=>by kernel_rfl⟩
theorem QL:ZV prog 162 0 0:=fun b off w=>by kernel_rfl
theorem QK:ZV prog 162 1 1:=fun b off w=>by kernel_rfl
theorem Zmk:Zir prog 70 162 2 32:=Zs6 (.agg #[.string ⟨#[]⟩,.string ⟨#[]⟩]) (by kernel_rfl) (by kernel_rfl) rfl dz (fun w=>by kernel_rfl)
theorem ZeU:prog.underlying 62=some (.slice 22):=by kernel_rfl
theorem Yh:Yl prog 62 22 1:=⟨by kernel_rfl,fun w=>by kernel_rfl⟩
theorem ZaR:Zcl prog 9:=⟨.string ⟨#[]⟩,fun w=>by kernel_rfl⟩
theorem Qc:Zir prog 22 9 1 16:=Zs6 (.string ⟨#[]⟩) (by kernel_rfl) (by kernel_rfl) rfl dz (fun w=>by kernel_rfl)
theorem ZB:prog.underlying 69=some (.slice 119):=by kernel_rfl
theorem ZG:Yl prog 69 119 3:=⟨by kernel_rfl,fun w=>by kernel_rfl⟩
theorem Zis:Zcl prog 22:=⟨.slice none 0 0,fun w=>by kernel_rfl⟩
theorem Zif:Zir prog 62 22 1 24:=Zs6 (.slice none 0 0) (by kernel_rfl) (by kernel_rfl) rfl dz (fun w=>by kernel_rfl)
theorem Zau:ZV prog 25 2 2:=fun b off w=>by kernel_rfl
theorem Zho:XH prog 23:=fun w=>by kernel_rfl
theorem YH:Yl prog 23 72 8:=⟨by kernel_rfl,fun w=>by kernel_rfl⟩
theorem Zbs:Xl prog 72 8:=⟨fun w=>by kernel_rfl,fun w=>by kernel_rfl⟩
theorem Zfp:ZV prog 72 0 0:=fun b off w=>by kernel_rfl
theorem Zay:Xl prog 119 3:=⟨fun w=>by kernel_rfl,fun w=>by kernel_rfl⟩
theorem Zl9:ZV prog 72 4 4:=fun b off w=>by kernel_rfl
theorem Zfn:ZV prog 72 6 6:=fun b off w=>by kernel_rfl
theorem Zks:XH prog 70:=fun w=>by kernel_rfl
theorem Zdr:Zsa prog 162 2:=⟨(#[.string ⟨#[]⟩,.string ⟨#[]⟩]),rfl,by kernel_rfl⟩
theorem Zfo:ZV prog 72 3 3:=fun b off w=>by kernel_rfl
theorem ZjE:Zsa prog 72 8:=⟨(#[.string ⟨#[]⟩,.bool false,.slice none 0 0,.slice none 0 0,.slice none 0 0,.slice none 0 0,.slice none 0 0,.slice none 0 0]),rfl,by kernel_rfl⟩
theorem Zma:ZV prog 72 1 1:=fun b off w=>by kernel_rfl
theorem QA:prog.underlying 23=some (.slice 72):=by kernel_rfl
theorem ZnB:XH prog 215:=fun w=>by kernel_rfl
theorem ZP:Zjz prog 215 9 4 keyS.kind:=⟨by kernel_rfl,by kernel_rfl⟩
theorem Z8:Zij prog 4 (.bool false):=⟨(.bool false),fun w=>by kernel_rfl,fun S w=>Rel.of_lit _⟩
theorem Zjd:ZV prog 219 1 1:=fun b off w=>by kernel_rfl
theorem ZdU:XH prog 213:=fun w=>by kernel_rfl
theorem Zdg:Zj prog 171:=Zn Tryz.func171 rfl rfl
theorem ZrE:Zj prog 169:=Zn Tryz.func169 rfl rfl
theorem Zgq:Zj prog 187:=Zn Tryz.func187 rfl rfl
theorem YE:prog.underlying 29=some (.slice 3):=by kernel_rfl
theorem ZC:Yl prog 29 3 1:=⟨by kernel_rfl,fun w=>by kernel_rfl⟩
theorem Zcv:XH prog 3:=fun w=>by kernel_rfl
theorem ZuQ:Zj prog 92:=Zn Tryz.func92 rfl rfl
theorem ZoY:Zj prog 59:=Zn Tryz.func59 rfl rfl
theorem Zaf:Zsa prog 119 3:=⟨(#[.string ⟨#[]⟩,.bool false,.slice none 0 0]),rfl,by kernel_rfl⟩
theorem YI:Y9 prog 119 3:=fun w=>by kernel_rfl
theorem Zit:ZeP prog 119 3:=⟨(.agg #[.string ⟨#[]⟩,.bool false,.slice none 0 0]),fun w=>by kernel_rfl,rfl,by simp[Value.cells,Value.oneCell']⟩
theorem Zrb:Zj prog 257:=Zn Tryz.func257 rfl rfl
theorem Y6:Y9 prog 162 2:=fun w=>by kernel_rfl
theorem Zdn:ZeP prog 162 2:=⟨(.agg #[.string ⟨#[]⟩,.string ⟨#[]⟩]),fun w=>by kernel_rfl,rfl,by simp[Value.cells,Value.oneCell']⟩
theorem ZkY:Zj prog 241:=Zn Tryz.func241 rfl rfl
theorem Zjn:Zj prog 58:=Zn Tryz.func58 rfl rfl
theorem Zrh:Zj prog 244:=Zn Tryz.func244 rfl rfl
theorem Zri:Zj prog 243:=Zn Tryz.func243 rfl rfl
theorem Zrj:Zj prog 242:=Zn Tryz.func242 rfl rfl
theorem Zru:Zj prog 184:=Zn Tryz.func184 rfl rfl
theorem Zrv:Zj prog 183:=Zn Tryz.func183 rfl rfl
theorem Zrw:Zj prog 182:=Zn Tryz.func182 rfl rfl
theorem Yr:Zc2 prog 119 [.lit (.string ⟨#[]⟩),.lit (.bool false),.sl []]:=⟨(.agg #[.string ⟨#[]⟩,.bool false,.slice none 0 0]),fun w=>by kernel_rfl,fun S w=>(show RdL S w [.lit (.string ⟨#[]⟩),.lit (.bool false),.sl []] [.string ⟨#[]⟩,.bool false,.slice none 0 0]from⟨.lit _ nzl,.lit _ True.intro,.nil _ _ nzl,trivial⟩)⟩
theorem ZoT:Zj prog 87:=Zn Tryz.func87 rfl rfl
theorem Zm3:Y9 prog 22 1:=fun w=>by kernel_rfl
theorem Zrs:Zj prog 214:=Zn Tryz.func214 rfl rfl
theorem Zcd:Zj prog 135:=Zn Tryz.func135 rfl rfl
theorem ZbO:Zc2 prog 304 ((List.replicate 256 (0:UInt8)).map u8D):=Zpv (.agg (Array.replicate 256 (.int .u8 0))) (fun w=>by kernel_rfl) (by simp[Value.cells])
theorem Zbf:prog.underlying 3=some (.int .i64):=by kernel_rfl
theorem ZmH:prog.underlying 5=some (.int .u8):=by kernel_rfl
theorem XG:ArrT prog 304 5 256:=⟨by kernel_rfl,fun w=>by kernel_rfl,by decide⟩
theorem Zc4:Y9 prog 5 1:=fun w=>by kernel_rfl
theorem Zey:Xl prog 304 256:=⟨fun w=>by kernel_rfl,fun w=>by kernel_rfl⟩
theorem ZcM:Y9 prog 304 256:=fun w=>by kernel_rfl
theorem Zls:prog.underlying 186=some (.slice 5):=by kernel_rfl
theorem Zba:Yl prog 186 5 1:=⟨by kernel_rfl,fun w=>by kernel_rfl⟩
theorem one_5:XH prog 5:=fun w=>by kernel_rfl
theorem Zrc:Zj prog 255:=Zn Tryz.func255 rfl rfl
theorem Zrl:Zj prog 239:=Zn Tryz.func239 rfl rfl
theorem Zrk:Zj prog 240:=Zn Tryz.func240 rfl rfl
theorem zero_5:Zcl prog 5:=⟨.int .u8 0,fun w=>by kernel_rfl⟩
theorem Zk0:Zj prog 211:=Zn Tryz.func211 rfl rfl
theorem Zmu:ZeP prog 5 1:=⟨(.int .u8 0),fun w=>by kernel_rfl,rfl,by simp[Value.cells,Value.oneCell']⟩
theorem ZkW:Zj prog 260:=Zn Tryz.func260 rfl rfl
theorem Zgs:Zj prog 170:=Zn Tryz.func170 rfl rfl
theorem Zq9:Zj prog 261:=Zn Tryz.func261 rfl rfl
theorem ZkX:Zj prog 259:=Zn Tryz.func259 rfl rfl
theorem ZaU:prog.underlying 322=some (.array 10 321):=by kernel_rfl
theorem Zbg:Y9 prog 321 4:=fun w=>by kernel_rfl
theorem Zii:Xl prog 321 4:=⟨fun w=>by kernel_rfl,fun w=>by kernel_rfl⟩
theorem ZbN:Zc2 prog 321 [.lit (.string ⟨#[]⟩),.lit (.bool false),.lit (.int .i64 0),.lit (.int .i64 0)]:=⟨(.agg #[.string ⟨#[]⟩,.bool false,.int .i64 0,.int .i64 0]),fun w=>by kernel_rfl,fun S w=>(show RdL S w [.lit (.string ⟨#[]⟩),.lit (.bool false),.lit (.int .i64 0),.lit (.int .i64 0)] [.string ⟨#[]⟩,.bool false,.int .i64 0,.int .i64 0]from⟨.lit _ nzl,.lit _ True.intro,.lit _ True.intro,.lit _ True.intro,trivial⟩)⟩
theorem Zgr:Zj prog 172:=Zn Tryz.func172 rfl rfl
theorem Zja:ZV prog 287 2 2:=fun b off w=>by kernel_rfl
theorem Zi9:ZV prog 287 3 3:=fun b off w=>by kernel_rfl
theorem Zre:Zj prog 247:=Zn Tryz.func247 rfl rfl
theorem ZaT:prog.underlying 288=some (.slice 287):=by kernel_rfl
theorem Q9:Yl prog 288 287 4:=⟨by kernel_rfl,fun w=>by kernel_rfl⟩
theorem Zra:Zj prog 258:=Zn Tryz.func258 rfl rfl
theorem Zi8:ZV prog 321 0 0:=fun b off w=>by kernel_rfl
theorem Zrf:Zj prog 246:=Zn Tryz.func246 rfl rfl
theorem Zrg:Zj prog 245:=Zn Tryz.func245 rfl rfl
theorem Zmz:Zsa prog 287 4:=⟨(#[.int .i64 0,.string ⟨#[]⟩,.slice none 0 0,.slice none 0 0]),rfl,by kernel_rfl⟩
theorem Zrd:Zj prog 248:=Zn Tryz.func248 rfl rfl
theorem Zpq:Zcl prog 287:=⟨.agg #[.int .i64 0,.string ⟨#[]⟩,.slice none 0 0,.slice none 0 0],fun w=>by kernel_rfl⟩
theorem Zrm:Zj prog 220:=Zn Tryz.func220 rfl rfl
theorem Zjc:ZV prog 219 2 2:=fun b off w=>by kernel_rfl
theorem Zef:ZV prog 244 1 1:=fun b off w=>by kernel_rfl
theorem ZiU:XH prog 217:=fun w=>by kernel_rfl
theorem Q2:Zjz prog 217 9 9 keyS.kind:=⟨by kernel_rfl,by kernel_rfl⟩
theorem Zdo:Zij prog 9 (.str default):=⟨(.string ⟨#[]⟩),fun w=>by kernel_rfl,fun S w=>(show Rel S w (.str ⟨#[]⟩) _ from Rel.of_lit _ nzl)⟩
theorem Zjb:ZV prog 219 4 4:=fun b off w=>by kernel_rfl
theorem QJ:ZV prog 219 3 3:=fun b off w=>by kernel_rfl
theorem ZdT:XH prog 216:=fun w=>by kernel_rfl
theorem XF:Zjz prog 216 9 119 keyS.kind:=⟨by kernel_rfl,by kernel_rfl⟩
theorem QV:Zij prog 119 (.agg (hyC default)):=⟨(.agg #[.string ⟨#[]⟩,.bool false,.slice none 0 0]),fun w=>by kernel_rfl,fun S w=>(show Rel S w (.agg [.lit (.string ⟨#[]⟩),.lit (.bool false),.sl []]) _ from(by simp only[Rel];exact⟨[.string ⟨#[]⟩,.bool false,.slice none 0 0],rfl,.lit _ nzl,.lit _ True.intro,.nil _ _ nzl,trivial⟩))⟩
theorem ZkZ:Zj prog 213:=Zn Tryz.func213 rfl rfl
theorem Zk1:Zj prog 175:=Zn Tryz.func175 rfl rfl
theorem Zrq:Zj prog 216:=Zn Tryz.func216 rfl rfl
theorem Zrr:Zj prog 215:=Zn Tryz.func215 rfl rfl
theorem ZgT:prog.underlying 215=some (.map 9 4):=by kernel_rfl
theorem XM:Zc2 prog 162 [.lit (.string ⟨#[]⟩),.lit (.string ⟨#[]⟩)]:=⟨(.agg #[.string ⟨#[]⟩,.string ⟨#[]⟩]),fun w=>by kernel_rfl,fun S w=>(show RdL S w [.lit (.string ⟨#[]⟩),.lit (.string ⟨#[]⟩)] [.string ⟨#[]⟩,.string ⟨#[]⟩]from⟨.lit _ nzl,.lit _ nzl,trivial⟩)⟩
theorem Zrp:Zj prog 217:=Zn Tryz.func217 rfl rfl
theorem Zrn:Zj prog 219:=Zn Tryz.func219 rfl rfl
theorem Zro:Zj prog 218:=Zn Tryz.func218 rfl rfl
theorem ZrA:Zj prog 178:=Zn Tryz.func178 rfl rfl
theorem Zds:prog.underlying 281=some (.slice 69):=by kernel_rfl
theorem Qy:Yl prog 281 69 1:=⟨by kernel_rfl,fun w=>by kernel_rfl⟩
theorem Zrt:Zj prog 212:=Zn Tryz.func212 rfl rfl
theorem ZgS:prog.underlying 217=some (.map 9 9):=by kernel_rfl
theorem ZrB:Zj prog 177:=Zn Tryz.func177 rfl rfl
theorem Zry:Zj prog 180:=Zn Tryz.func180 rfl rfl
theorem Ziv:Zc2 prog 244 [.lit (.map none),.lit (.map none)]:=⟨(.agg #[.map none,.map none]),fun w=>by kernel_rfl,fun S w=>(show RdL S w [.lit (.map none),.lit (.map none)] [.map none,.map none]from⟨.lit _ True.intro,.lit _ True.intro,trivial⟩)⟩
theorem Zlx:Y9 prog 244 2:=fun w=>by kernel_rfl
theorem ZeT:ZeP prog 69 1:=⟨(.slice none 0 0),fun w=>by kernel_rfl,rfl,by simp[Value.cells,Value.oneCell']⟩
theorem Zk2:Zj prog 173:=Zn Tryz.func173 rfl rfl
theorem ZrD:Zj prog 174:=Zn Tryz.func174 rfl rfl
theorem ZrC:Zj prog 176:=Zn Tryz.func176 rfl rfl
theorem Zk7:Zj prog 139:=Zn Tryz.func139 rfl rfl
theorem Zrz:Zj prog 179:=Zn Tryz.func179 rfl rfl
theorem Zk6:Zj prog 142:=Zn Tryz.func142 rfl rfl
theorem Zk9:Zj prog 113:=Zn Tryz.func113 rfl rfl
theorem Zrx:Zj prog 181:=Zn Tryz.func181 rfl rfl
theorem ZrL:Zj prog 137:=Zn Tryz.func137 rfl rfl
theorem ZrK:Zj prog 138:=Zn Tryz.func138 rfl rfl
theorem ZgR:prog.underlying 165=some (.slice 182):=by kernel_rfl
theorem Zaa:Yl prog 165 182 2:=⟨by kernel_rfl,fun w=>by kernel_rfl⟩
theorem ZmA:Zsa prog 182 2:=⟨(#[.string ⟨#[]⟩,.slice none 0 0]),rfl,by kernel_rfl⟩
theorem Zeg:ZV prog 182 0 0:=fun b off w=>by kernel_rfl
theorem ZaJ:Zjz prog 208 9 22 keyS.kind:=⟨by kernel_rfl,by kernel_rfl⟩
theorem Qr:Zij prog 22 (.rd (Zb default)):=⟨(.slice none 0 0),fun w=>by kernel_rfl,fun S w=>(show Rel S w (.rd (.sl [])) _ from(by simp only[Rel];exact .nil _ _ nzl))⟩
theorem Zce:Zj prog 133:=Zn Tryz.func133 rfl rfl
theorem Q3:Zjz prog 214 9 4 keyS.kind:=⟨by kernel_rfl,by kernel_rfl⟩
theorem Zgt:Zj prog 132:=Zn Tryz.func132 rfl rfl
theorem ZrN:Zj prog 134:=Zn Tryz.func134 rfl rfl
theorem ZjW:Y9 prog 9 1:=fun w=>by kernel_rfl
theorem Zk3:Zj prog 152:=Zn Tryz.func152 rfl rfl
theorem Zcf:Zj prog 126:=Zn Tryz.func126 rfl rfl
theorem Zdm:ZeP prog 3 1:=⟨(.int .i64 0),fun w=>by kernel_rfl,rfl,by simp[Value.cells,Value.oneCell']⟩
theorem Zjq:Zj prog 44:=Zn Tryz.func44 rfl rfl
theorem ZcK:prog.underlying 230=some (.int .u64):=by kernel_rfl
theorem ZrF:Zj prog 148:=Zn Tryz.func148 rfl rfl
theorem Zk4:Zj prog 149:=Zn Tryz.func149 rfl rfl
theorem Zk5:Zj prog 144:=Zn Tryz.func144 rfl rfl
theorem ZrI:Zj prog 145:=Zn Tryz.func145 rfl rfl
theorem ZrH:Zj prog 146:=Zn Tryz.func146 rfl rfl
theorem ZrP:Zj prog 123:=Zn Tryz.func123 rfl rfl
theorem Zpw:Zc2 prog 4 [.lit (.bool false)]:=⟨(.bool false),fun w=>by kernel_rfl,fun S w=>(show RdL S w [.lit (.bool false)] [.bool false]from⟨.lit _ True.intro,trivial⟩)⟩
theorem ZrS:Zj prog 120:=Zn Tryz.func120 rfl rfl
theorem ZmB:Zc2 prog 70 [.sl []]:=⟨(.slice none 0 0),fun w=>by kernel_rfl,fun S w=>(show RdL S w [.sl []] [.slice none 0 0]from⟨.nil _ _ nzl,trivial⟩)⟩
theorem ZmZ:Y9 prog 70 1:=fun w=>by kernel_rfl
theorem ZrR:Zj prog 121:=Zn Tryz.func121 rfl rfl
theorem ZrG:Zj prog 147:=Zn Tryz.func147 rfl rfl
theorem ZrQ:Zj prog 122:=Zn Tryz.func122 rfl rfl
theorem ZbT:Y9 prog 4 1:=fun w=>by kernel_rfl
theorem ZfF:prog.underlying 179=some (.array 2 69):=by kernel_rfl
theorem Zg0:Y9 prog 69 1:=fun w=>by kernel_rfl
theorem ZjA:Zcl prog 182:=⟨.agg #[.string ⟨#[]⟩,.slice none 0 0],fun w=>by kernel_rfl⟩
theorem Zex:Zir prog 165 182 2 40:=Zs6 (.agg #[.string ⟨#[]⟩,.slice none 0 0]) (by kernel_rfl) (by kernel_rfl) rfl dz (fun w=>by kernel_rfl)
theorem Yz:ZV prog 28 0 0:=fun b off w=>by kernel_rfl
theorem Zaq:XH prog 26:=fun w=>by kernel_rfl
theorem Z1:prog.underlying 26=some (.slice 88):=by kernel_rfl
theorem Z3:Yl prog 26 88 2:=⟨by kernel_rfl,fun w=>by kernel_rfl⟩
theorem Qa:ZV prog 88 1 1:=fun b off w=>by kernel_rfl
theorem QG:XH prog 29:=fun w=>by kernel_rfl
theorem Yu:Xl prog 28 1:=⟨fun w=>by kernel_rfl,fun w=>by kernel_rfl⟩
theorem ZrW:Zj prog 109:=Zn Tryz.func109 rfl rfl
theorem Zck:Xl prog 88 2:=⟨fun w=>by kernel_rfl,fun w=>by kernel_rfl⟩
theorem Zpx:Zc2 prog 3 [.lit (.int .i64 0)]:=⟨(.int .i64 0),fun w=>by kernel_rfl,fun S w=>(show RdL S w [.lit (.int .i64 0)] [.int .i64 0]from⟨.lit _ True.intro,trivial⟩)⟩
theorem Xv:Zc2 prog 88 [.lit (.string ⟨#[]⟩),.sl []]:=⟨(.agg #[.string ⟨#[]⟩,.slice none 0 0]),fun w=>by kernel_rfl,fun S w=>(show RdL S w [.lit (.string ⟨#[]⟩),.sl []] [.string ⟨#[]⟩,.slice none 0 0]from⟨.lit _ nzl,.nil _ _ nzl,trivial⟩)⟩
theorem ZbU:Y9 prog 3 1:=fun w=>by kernel_rfl
theorem Qe:Y9 prog 88 2:=fun w=>by kernel_rfl
theorem Zu2:Zj prog 65:=Zn Tryz.func65 rfl rfl
theorem ZrV:Zj prog 112:=Zn Tryz.func112 rfl rfl
theorem ZuW:Zj prog 85:=Zn Tryz.func85 rfl rfl
theorem ZuX:Zj prog 81:=Zn Tryz.func81 rfl rfl
theorem Xq:ZV prog 113 2 4:=fun b off w=>by kernel_rfl
theorem ZdS:XH prog 62:=fun w=>by kernel_rfl
theorem ZrU:Zj prog 114:=Zn Tryz.func114 rfl rfl
theorem Zla:Zj prog 103:=Zn Tryz.func103 rfl rfl
theorem Qb:ZV prog 113 0 0:=fun b off w=>by kernel_rfl
theorem ZbJ:ZV prog 113 1 3:=fun b off w=>by kernel_rfl
theorem ZoR:Zj prog 95:=Zn Tryz.func95 rfl rfl
theorem ZuP:Zj prog 93:=Zn Tryz.func93 rfl rfl
theorem Zl8:ZV prog 88 0 0:=fun b off w=>by kernel_rfl
theorem ZuV:Zj prog 86:=Zn Tryz.func86 rfl rfl
theorem Zu1:Zj prog 67:=Zn Tryz.func67 rfl rfl
theorem ZuU:Zj prog 88:=Zn Tryz.func88 rfl rfl
theorem Zcn:Zc2 prog 64 [.lit (.int .i64 0),.lit (.int .i64 0)]:=⟨(.agg #[.int .i64 0,.int .i64 0]),fun w=>by kernel_rfl,fun S w=>(show RdL S w [.lit (.int .i64 0),.lit (.int .i64 0)] [.int .i64 0,.int .i64 0]from⟨.lit _ True.intro,.lit _ True.intro,trivial⟩)⟩
theorem Zjo:Zj prog 56:=Zn Tryz.func56 rfl rfl
theorem Zai:Y9 prog 64 2:=fun w=>by kernel_rfl
theorem Zdi:Xl prog 64 2:=⟨fun w=>by kernel_rfl,fun w=>by kernel_rfl⟩
theorem Zu5:Zj prog 57:=Zn Tryz.func57 rfl rfl
theorem Zm0:Y9 prog 62 1:=fun w=>by kernel_rfl
theorem ZdV:XH prog 122:=fun w=>by kernel_rfl
theorem Ql:Yl prog 122 4 1:=⟨by kernel_rfl,fun w=>by kernel_rfl⟩
theorem Zlp:Zc2 prog 122 [.sl []]:=⟨(.slice none 0 0),fun w=>by kernel_rfl,fun S w=>(show RdL S w [.sl []] [.slice none 0 0]from⟨.nil _ _ nzl,trivial⟩)⟩
theorem ZlA:Y9 prog 122 1:=fun w=>by kernel_rfl
set_option maxRecDepth 100000 in
theorem tb_one:∀ t∈[3,4,5,9,22,23,26,29,33,34,42,48,62,69,70,77,90,134,158,165,174,189,208,212,213,215,216,217],XH prog t:=by
 intro t h
 simp only[List.mem_cons,List.not_mem_nil,or_false]at h
 rcases h with rfl | rfl | rfl | rfl | rfl | rfl | rfl | rfl | rfl | rfl | rfl | rfl | rfl | rfl | rfl | rfl | rfl | rfl | rfl | rfl | rfl | rfl | rfl | rfl | rfl | rfl | rfl | rfl<;>exact fun w=>by kernel_rfl
set_option maxRecDepth 100000 in
theorem tb_agg:∀ q∈[(25,3),(28,1),(31,6),(37,6),(64,2),(72,8),(88,2),(119,3),(162,2),(182,2),(244,2),(287,4),(321,4)],Xl prog q.1 q.2:=by
 intro q h
 simp only[List.mem_cons,List.not_mem_nil,or_false]at h
 rcases h with rfl | rfl | rfl | rfl | rfl | rfl | rfl | rfl | rfl | rfl | rfl | rfl | rfl<;>exact⟨fun w=>by kernel_rfl,fun w=>by kernel_rfl⟩
set_option maxRecDepth 100000 in
theorem tb_fld:∀ q∈[(25,0,0),(25,1,1),(25,2,2),(28,0,0),(31,0,0),(31,1,1),(31,2,2),(31,3,3),(31,4,4),(31,5,5),(37,0,0),(37,1,1),(37,2,2),(37,3,3),(37,4,4),(37,5,5),(64,0,0),(64,1,1),(72,0,0),(72,1,1),(72,2,2),(72,3,3),(72,4,4),(72,5,5),(72,6,6),(72,7,7),(88,0,0),(88,1,1),(92,0,0),(92,1,3),(92,2,4),(92,3,5),(92,4,6),(92,5,7),(113,0,0),(113,1,3),(113,2,4),(119,0,0),(119,1,1),(119,2,2),(162,0,0),(162,1,1),(182,0,0),(182,1,1),(219,0,0),(219,1,1),(219,2,2),(219,3,3),(219,4,4),(244,0,0),(244,1,1),(287,0,0),(287,1,1),(287,2,2),(287,3,3),(321,0,0),(321,1,1),(321,2,2),(321,3,3)],ZV prog q.1 q.2.1 q.2.2:=by
 intro q h
 simp only[List.mem_cons,List.not_mem_nil,or_false]at h
 rcases h with rfl | rfl | rfl | rfl | rfl | rfl | rfl | rfl | rfl | rfl | rfl | rfl | rfl | rfl | rfl | rfl | rfl | rfl | rfl | rfl | rfl | rfl | rfl | rfl | rfl | rfl | rfl | rfl | rfl | rfl | rfl | rfl | rfl | rfl | rfl | rfl | rfl | rfl | rfl | rfl | rfl | rfl | rfl | rfl | rfl | rfl | rfl | rfl | rfl | rfl | rfl | rfl | rfl | rfl | rfl | rfl | rfl | rfl | rfl<;>exact fun b off w=>by kernel_rfl
def tb:Tbl prog where
 one:=Zuh [3,4,5,9,22,23,26,29,33,34,42,48,62,69,70,77,90,134,158,165,174,189,208,212,213,215,216,217]
 agg:=lk1 [(25,3),(28,1),(31,6),(37,6),(64,2),(72,8),(88,2),(119,3),(162,2),(182,2),(244,2),(287,4),(321,4)]
 fld:=lk2 [(25,0,0),(25,1,1),(25,2,2),(28,0,0),(31,0,0),(31,1,1),(31,2,2),(31,3,3),(31,4,4),(31,5,5),(37,0,0),(37,1,1),(37,2,2),(37,3,3),(37,4,4),(37,5,5),(64,0,0),(64,1,1),(72,0,0),(72,1,1),(72,2,2),(72,3,3),(72,4,4),(72,5,5),(72,6,6),(72,7,7),(88,0,0),(88,1,1),(92,0,0),(92,1,3),(92,2,4),(92,3,5),(92,4,6),(92,5,7),(113,0,0),(113,1,3),(113,2,4),(119,0,0),(119,1,1),(119,2,2),(162,0,0),(162,1,1),(182,0,0),(182,1,1),(219,0,0),(219,1,1),(219,2,2),(219,3,3),(219,4,4),(244,0,0),(244,1,1),(287,0,0),(287,1,1),(287,2,2),(287,3,3),(321,0,0),(321,1,1),(321,2,2),(321,3,3)]
 h1:=fun t h=>tb_one t (ZkC h)
 h2:=fun t k h=>tb_agg (t,k+1) (ZnQ h)
 h3:=fun s f d h=>tb_fld (s,f,d) (ZnP h)
 mix:=Yk
end Go.Proofs.YtdfadihhfppjaaaGreatDoor
set_option maxHeartbeats 8000000
set_option maxRecDepth 100000
namespace Go.Proofs.YtdfadihhfppjaaaGreatDoor
open Go.RowKit
section
variable {J:WP} (hJ:Stab J)
include hJ
theorem Zbk (M1 M2:Nat) (M3 M4 M5:Nat) (cs vs:List BA) (s:BA)  :FnR Tryz.prog J 171 [OB.set keyS M1 cs,OB.set keyS M2 vs] [.ptr (mpC [M1,M2,M3,M4,M5]),.str s] (.bool (decide (s∈cs)||decide (s∈vs))):=by
 refine fER Tryz.func171 fun S w0 hS hJ0 hH=>?_
 clear hJ0
 refine qs tb hJ [0,1] [_] U2 ?_
 refine hqs tb hJ [1014] (V5 [.bool (decide (s∈cs)),_,_,_,_,_,_,.bool (decide (s∈vs)),_,_]) [5,12] [_] rfl ⟨fun _ _ hk hx hl _=>YF (Kd:=keyS) (xs:=cs) ZP Z8 s rfl (YQ hH hk (mo 0 rfl)) (hl.D 3 8 rfl rfl) (hl.D 4 9 rfl rfl) hx,fun _ _ hk hx hl hc=>YF (Kd:=keyS) (xs:=vs) ZP Z8 s rfl (YQ hH hk (mo 1 rfl)) (hl.D 10 15 rfl hc) (hl.D 11 16 rfl hc) hx,trivial⟩ ?_
 exact tRn 0 (hE:=eB (by first | rfl | grind[Zg]))
theorem ZtG (M1 M2:Nat) (M3 M4 M5:Nat) (cs vs:List BA) (s:BA)  :FnR Tryz.prog J 214 [OB.set keyS M1 cs,OB.set keyS M2 vs] [.str s,.ptr [.ptr (mpC [M1,M2,M3,M4,M5])]] (.bool (!(decide (s∈cs)||decide (s∈vs)))):=by
 refine fER Tryz.func214 fun S w0 hS hJ0 hH=>?_
 clear hJ0
 refine qs tb hJ [0,1] [_] U2 ?_
 refine hqs tb hJ [1004] [_,_,.bool (decide (s∈cs)||decide (s∈vs)),_,_] [2] [_] rfl ⟨fun _ _ hk hx hl _=>YX (Zbk hJ M1 M2 M3 M4 M5 cs vs s) Zdg rfl (nm hS hk) (hx) (ZF (YQ hH hk (mo 0 rfl)) (ZF (YQ hH hk (mo 1 rfl)) Zq)) (Za (hl.D 0 4 rfl rfl) (Za (hl.D 1 5 rfl rfl) Zd)) (js hJ hx),trivial⟩ ?_
 exact tRn 0 (hE:=rfl)
theorem Zhh (xs:List BA) (f:FuncId) (caps:List AV) (Os:List OB) (p:BA→Bool) (hf:∀ q',FnR Tryz.prog J f Os ([.str (q')]++caps) (.bool (p q'))) (hk0:Zj Tryz.prog f):FnR Tryz.prog J 169 Os [.rd (Zb xs),.fn f caps] (.int (XZ p xs)):=by
 refine fER Tryz.func169 fun S w0 hS hJ0 hH=>?_
 clear hJ0
 refine ln 0 fun hl1=>?_
 refine qs tb hJ [0,1] [_] U2 ?_
 refine Zh (hqs tb hJ [0,1,1001,1002] [_,.int (xs.length:Nat),_] [1] U4 rfl ⟨Ym Zx,trivial⟩ ?_)
 refine Ze (lp (ι:=Nat) (fun k=>(k≤xs.length)∧(∀ j,j<k→p (ge xs j)=false)) (fun k=>[(8,.int (k:Nat))]) (fun k=>xs.length-k) [0,1,2,3] U3 0 ⟨nzl,fun j hj=>by omega⟩ ?_)
 rintro k ⟨f1_1,f1_2⟩
 refine qs tb hJ [0,1,2,3,1000] [_] U5 ?_
 refine cjS 4 (fun hb1=>?_) fun hb1=>?_
 ·
  try simp at hb1
  refine Zc (nx (Zh (Ze (qs tb hJ [0,1,2,3,1001] U2 U5 ?_))))
  refine hqs tb hJ (r5 [1005]) (V3 [.ptr [lS (ge xs k)],_,.bool (p (ge xs k))]) [3,5] U6 rfl ⟨iIx Zl,fun _ _ hk hx hl _=>Zan (hf (ge xs k)) hk0 rfl (hl.D 0 11 rfl rfl) (nm hS hk) (hx) (fun _ ho=>YQ hH hk ho) (Za (hl.D 4 15 rfl rfl) Zd) (js hJ hx),trivial⟩ ?_
  refine cj 5 (fun hb2=>?_) fun hb2=>?_
  ·
   try simp at hb2
   refine qs tb hJ [1001] U2 [_] ?_
   exact tRn 0 (hE:=eI (by first | exact(Y2 hb1 hb2 f1_2).symm | exact(YM fun j hj=>f1_2 j oz).symm))
  ·
   try simp at hb2
   refine Zc (nx (hqp tb hJ [0,1,2,1001] [.int (k+1:Nat),_] [0] U4 rfl ⟨YN,trivial⟩ ?_))
   exact lpE (k+1) [0,1,2,3] ⟨oz,ZY f1_2 hb2⟩
 ·
  try simp at hb1
  refine Zu (nx (qs tb hJ [1000] [_] [_] ?_))
  exact tRn 0 (hE:=eI (by first | exact(Y2 hb1 hb2 f1_2).symm | exact(YM fun j hj=>f1_2 j oz).symm))
end
end Go.Proofs.YtdfadihhfppjaaaGreatDoor
set_option maxHeartbeats 8000000
set_option maxRecDepth 100000
namespace Go.Proofs.YtdfadihhfppjaaaGreatDoor
open Go.Proofs.Tryz (prog)
open Go.RowKit
section
variable {J:WP} (hJ:Stab J)
include hJ
theorem Xn (xs:List BA) (f:FuncId) (caps:List AV) (Os:List OB) (p:BA→Bool) (hf:∀ q',FnR prog J f Os ([.str (q')]++caps) (.bool (p q'))) (hk0:Zj prog f):FnR prog J 135 Os [.rd (Zb xs),.fn f caps] (.bool (xs.any p)):=by
 refine fER Tryz.func135 fun S w0 hS hJ0 hH=>?_
 clear hJ0
 refine ln 0 fun hl1=>?_
 refine qs tb hJ [0,1] [_] U2 ?_
 refine hqs tb hJ [1004] [_,_,.int (XZ p xs),_,_] [2] [_] rfl ⟨fun _ _ hk hx hl _=>YX (Zhh hJ xs f caps Os p (hf) (hk0)) ZrE rfl (nm hS hk) (hx) (fun _ ho=>YQ hH hk ho) (Za (hl.D 0 5 rfl rfl) (Za (hl.D 1 6 rfl rfl) Zd)) (js hJ hx),trivial⟩ ?_
 exact tRn 0 (hE:=eB (by rw[←ZaL]))
theorem ZcP (xs:List Hy) (f:FuncId) (caps:List AV) (Os:List OB) (p:Hy→Bool) (hf:∀ q',FnR prog J f Os ([.agg (hyC (q'))]++caps) (.bool (p q'))) (hk0:Zj prog f):FnR prog J 187 Os [.rd (XC xs),.fn f caps] (.int (XZ p xs)):=by
 refine fER Tryz.func187 fun S w0 hS hJ0 hH=>?_
 clear hJ0
 refine ln 0 fun hl1=>?_
 refine qs tb hJ [0,1] [_] U2 ?_
 refine Zh (hqs tb hJ [0,1,1001,1002] [_,.int (xs.length:Nat),_] [1] U4 rfl ⟨Ym ZB,trivial⟩ ?_)
 refine Ze (lp (ι:=Nat) (fun k=>(k≤xs.length)∧(∀ j,j<k→p (ge xs j)=false)) (fun k=>[(8,.int (k:Nat))]) (fun k=>xs.length-k) [0,1,2,3] U3 0 ⟨nzl,fun j hj=>by omega⟩ ?_)
 rintro k ⟨f1_1,f1_2⟩
 refine qs tb hJ [0,1,2,3,1000] [_] U5 ?_
 refine cjS 4 (fun hb1=>?_) fun hb1=>?_
 ·
  try simp at hb1
  refine Zc (nx (Zh (Ze (qs tb hJ [0,1,2,3,1001] U2 U5 ?_))))
  refine hqs tb hJ (r5 [1005]) (V3 [.ptr (hyC (ge xs k)),_,.bool (p (ge xs k))]) [3,5] U6 rfl ⟨iIx ZG,fun _ _ hk hx hl _=>Zan (hf (ge xs k)) hk0 rfl (hl.D 0 11 rfl rfl) (nm hS hk) (hx) (fun _ ho=>YQ hH hk ho) (Za (hl.D 4 15 rfl rfl) Zd) (js hJ hx),trivial⟩ ?_
  refine cj 5 (fun hb2=>?_) fun hb2=>?_
  ·
   try simp at hb2
   refine qs tb hJ [1001] U2 [_] ?_
   exact tRn 0 (hE:=eI (by first | exact(Y2 hb1 hb2 f1_2).symm | exact(YM fun j hj=>f1_2 j oz).symm))
  ·
   try simp at hb2
   refine Zc (nx (hqp tb hJ [0,1,2,1001] [.int (k+1:Nat),_] [0] U4 rfl ⟨YN,trivial⟩ ?_))
   exact lpE (k+1) [0,1,2,3] ⟨oz,ZY f1_2 hb2⟩
 ·
  try simp at hb1
  refine Zu (nx (qs tb hJ [1000] [_] [_] ?_))
  exact tRn 0 (hE:=eI (by first | exact(Y2 hb1 hb2 f1_2).symm | exact(YM fun j hj=>f1_2 j oz).symm))
theorem ZdQ (xs:List Hy) (f:FuncId) (caps:List AV) (Os:List OB) (p:Hy→Bool) (hf:∀ q',FnR prog J f Os ([.agg (hyC (q'))]++caps) (.bool (p q'))) (hk0:Zj prog f):FnR prog J 142 Os [.rd (XC xs),.fn f caps] (.bool (xs.any p)):=by
 refine fER Tryz.func142 fun S w0 hS hJ0 hH=>?_
 clear hJ0
 refine ln 0 fun hl1=>?_
 refine qs tb hJ [0,1] [_] U2 ?_
 refine hqs tb hJ [1004] [_,_,.int (XZ p xs),_,_] [2] [_] rfl ⟨fun _ _ hk hx hl _=>YX (ZcP hJ xs f caps Os p (hf) (hk0)) Zgq rfl (nm hS hk) (hx) (fun _ ho=>YQ hH hk ho) (Za (hl.D 0 5 rfl rfl) (Za (hl.D 1 6 rfl rfl) Zd)) (js hJ hx),trivial⟩ ?_
 exact tRn 0 (hE:=eB (by rw[←ZaL]))
theorem Zhi (xs:List Pr) (f:FuncId) (caps:List AV) (Os:List OB) (p:Pr→Bool) (hf:∀ q',FnR prog J f Os ([.agg (prC (q'))]++caps) (.bool (p q'))) (hk0:Zj prog f):FnR prog J 257 Os [.rd (XS xs),.fn f caps] (.int (XZ p xs)):=by
 refine fER Tryz.func257 fun S w0 hS hJ0 hH=>?_
 clear hJ0
 refine ln 0 fun hl1=>?_
 refine qs tb hJ [0,1] [_] U2 ?_
 refine Zh (hqs tb hJ [0,1,1001,1002] [_,.int (xs.length:Nat),_] [1] U4 rfl ⟨Ym Yf,trivial⟩ ?_)
 refine Ze (lp (ι:=Nat) (fun k=>(k≤xs.length)∧(∀ j,j<k→p (ge xs j)=false)) (fun k=>[(8,.int (k:Nat))]) (fun k=>xs.length-k) [0,1,2,3] U3 0 ⟨nzl,fun j hj=>by omega⟩ ?_)
 rintro k ⟨f1_1,f1_2⟩
 refine qs tb hJ [0,1,2,3,1000] [_] U5 ?_
 refine cjS 4 (fun hb1=>?_) fun hb1=>?_
 ·
  try simp at hb1
  refine Zc (nx (Zh (Ze (qs tb hJ [0,1,2,3,1001] U2 U5 ?_))))
  refine hqs tb hJ (r5 [1005]) (V3 [.ptr (prC (ge xs k)),_,.bool (p (ge xs k))]) [3,5] U6 rfl ⟨iIx ZD,fun _ _ hk hx hl _=>Zan (hf (ge xs k)) hk0 rfl (hl.D 0 11 rfl rfl) (nm hS hk) (hx) (fun _ ho=>YQ hH hk ho) (Za (hl.D 4 15 rfl rfl) Zd) (js hJ hx),trivial⟩ ?_
  refine cj 5 (fun hb2=>?_) fun hb2=>?_
  ·
   try simp at hb2
   refine qs tb hJ [1001] U2 [_] ?_
   exact tRn 0 (hE:=eI (by first | exact(Y2 hb1 hb2 f1_2).symm | exact(YM fun j hj=>f1_2 j oz).symm))
  ·
   try simp at hb2
   refine Zc (nx (hqp tb hJ [0,1,2,1001] [.int (k+1:Nat),_] [0] U4 rfl ⟨YN,trivial⟩ ?_))
   exact lpE (k+1) [0,1,2,3] ⟨oz,ZY f1_2 hb2⟩
 ·
  try simp at hb1
  refine Zu (nx (qs tb hJ [1000] [_] [_] ?_))
  exact tRn 0 (hE:=eI (by first | exact(Y2 hb1 hb2 f1_2).symm | exact(YM fun j hj=>f1_2 j oz).symm))
theorem Zhj (xs:List Int) (f:FuncId) (caps:List AV) (Os:List OB) (p:Int→Bool) (hf:∀ q',FnR prog J f Os ([.int (q')]++caps) (.bool (p q'))) (hk0:Zj prog f):FnR prog J 92 Os [.rd (ZX xs),.fn f caps] (.int (XZ p xs)):=by
 refine fER Tryz.func92 fun S w0 hS hJ0 hH=>?_
 clear hJ0
 refine ln 0 fun hl1=>?_
 refine qs tb hJ [0,1] [_] U2 ?_
 refine Zh (hqs tb hJ [0,1,1001,1002] [_,.int (xs.length:Nat),_] [1] U4 rfl ⟨Ym YE,trivial⟩ ?_)
 refine Ze (lp (ι:=Nat) (fun k=>(k≤xs.length)∧(∀ j,j<k→p (ge xs j)=false)) (fun k=>[(8,.int (k:Nat))]) (fun k=>xs.length-k) [0,1,2,3] U3 0 ⟨nzl,fun j hj=>by omega⟩ ?_)
 rintro k ⟨f1_1,f1_2⟩
 refine qs tb hJ [0,1,2,3,1000] [_] U5 ?_
 refine cjS 4 (fun hb1=>?_) fun hb1=>?_
 ·
  try simp at hb1
  refine Zc (nx (Zh (Ze (qs tb hJ [0,1,2,3,1001] U2 U5 ?_))))
  refine hqs tb hJ (r5 [1005]) (V3 [.ptr [lI (ge xs k)],_,.bool (p (ge xs k))]) [3,5] U6 rfl ⟨iIx ZC,fun _ _ hk hx hl _=>Zan (hf (ge xs k)) hk0 rfl (hl.D 0 11 rfl rfl) (nm hS hk) (hx) (fun _ ho=>YQ hH hk ho) (Za (hl.D 4 15 rfl rfl) Zd) (js hJ hx),trivial⟩ ?_
  refine cj 5 (fun hb2=>?_) fun hb2=>?_
  ·
   try simp at hb2
   refine qs tb hJ [1001] U2 [_] ?_
   exact tRn 0 (hE:=eI (by first | exact(Y2 hb1 hb2 f1_2).symm | exact(YM fun j hj=>f1_2 j oz).symm))
  ·
   try simp at hb2
   refine Zc (nx (hqp tb hJ [0,1,2,1001] [.int (k+1:Nat),_] [0] U4 rfl ⟨YN,trivial⟩ ?_))
   exact lpE (k+1) [0,1,2,3] ⟨oz,ZY f1_2 hb2⟩
 ·
  try simp at hb1
  refine Zu (nx (qs tb hJ [1000] [_] [_] ?_))
  exact tRn 0 (hE:=eI (by first | exact(Y2 hb1 hb2 f1_2).symm | exact(YM fun j hj=>f1_2 j oz).symm))
theorem ZdP (xs:List Int) (f:FuncId) (caps:List AV) (Os:List OB) (p:Int→Bool) (hf:∀ q',FnR prog J f Os ([.int (q')]++caps) (.bool (p q'))) (hk0:Zj prog f):FnR prog J 65 Os [.rd (ZX xs),.fn f caps] (.bool (xs.any p)):=by
 refine fER Tryz.func65 fun S w0 hS hJ0 hH=>?_
 clear hJ0
 refine ln 0 fun hl1=>?_
 refine qs tb hJ [0,1] [_] U2 ?_
 refine hqs tb hJ [1004] [_,_,.int (XZ p xs),_,_] [2] [_] rfl ⟨fun _ _ hk hx hl _=>YX (Zhj hJ xs f caps Os p (hf) (hk0)) ZuQ rfl (nm hS hk) (hx) (fun _ ho=>YQ hH hk ho) (Za (hl.D 0 5 rfl rfl) (Za (hl.D 1 6 rfl rfl) Zd)) (js hJ hx),trivial⟩ ?_
 exact tRn 0 (hE:=eB (by rw[←ZaL]))
theorem ZcQ (xs:List Fr) (f:FuncId) (caps:List AV) (Os:List OB) (p:Fr→Bool) (hf:∀ q',FnR prog J f Os ([.agg (frC (q'))]++caps) (.bool (p q'))) (hk0:Zj prog f):FnR prog J 59 Os [.rd (Yq xs),.fn f caps] (.int (XZ p xs)):=by
 refine fER Tryz.func59 fun S w0 hS hJ0 hH=>?_
 clear hJ0
 refine ln 0 fun hl1=>?_
 refine qs tb hJ [0,1] [_] U2 ?_
 refine Zh (hqs tb hJ [0,1,1001,1002] [_,.int (xs.length:Nat),_] [1] U4 rfl ⟨Ym QA,trivial⟩ ?_)
 refine Ze (lp (ι:=Nat) (fun k=>(k≤xs.length)∧(∀ j,j<k→p (ge xs j)=false)) (fun k=>[(8,.int (k:Nat))]) (fun k=>xs.length-k) [0,1,2,3] U3 0 ⟨nzl,fun j hj=>by omega⟩ ?_)
 rintro k ⟨f1_1,f1_2⟩
 refine qs tb hJ [0,1,2,3,1000] [_] U5 ?_
 refine cjS 4 (fun hb1=>?_) fun hb1=>?_
 ·
  try simp at hb1
  refine Zc (nx (Zh (Ze (qs tb hJ [0,1,2,3,1001] U2 U5 ?_))))
  refine hqs tb hJ (r5 [1005]) (V3 [.ptr (frC (ge xs k)),_,.bool (p (ge xs k))]) [3,5] U6 rfl ⟨iIx YH,fun _ _ hk hx hl _=>Zan (hf (ge xs k)) hk0 rfl (hl.D 0 11 rfl rfl) (nm hS hk) (hx) (fun _ ho=>YQ hH hk ho) (Za (hl.D 4 15 rfl rfl) Zd) (js hJ hx),trivial⟩ ?_
  refine cj 5 (fun hb2=>?_) fun hb2=>?_
  ·
   try simp at hb2
   refine qs tb hJ [1001] U2 [_] ?_
   exact tRn 0 (hE:=eI (by first | exact(Y2 hb1 hb2 f1_2).symm | exact(YM fun j hj=>f1_2 j oz).symm))
  ·
   try simp at hb2
   refine Zc (nx (hqp tb hJ [0,1,2,1001] [.int (k+1:Nat),_] [0] U4 rfl ⟨YN,trivial⟩ ?_))
   exact lpE (k+1) [0,1,2,3] ⟨oz,ZY f1_2 hb2⟩
 ·
  try simp at hb1
  refine Zu (nx (qs tb hJ [1000] [_] [_] ?_))
  exact tRn 0 (hE:=eI (by first | exact(Y2 hb1 hb2 f1_2).symm | exact(YM fun j hj=>f1_2 j oz).symm))
theorem ZdR (xs:List Fr) (f:FuncId) (caps:List AV) (Os:List OB) (p:Fr→Bool) (hf:∀ q',FnR prog J f Os ([.agg (frC (q'))]++caps) (.bool (p q'))) (hk0:Zj prog f):FnR prog J 28 Os [.rd (Yq xs),.fn f caps] (.bool (xs.any p)):=by
 refine fER Tryz.func28 fun S w0 hS hJ0 hH=>?_
 clear hJ0
 refine ln 0 fun hl1=>?_
 refine qs tb hJ [0,1] [_] U2 ?_
 refine hqs tb hJ [1004] [_,_,.int (XZ p xs),_,_] [2] [_] rfl ⟨fun _ _ hk hx hl _=>YX (ZcQ hJ xs f caps Os p (hf) (hk0)) ZoY rfl (nm hS hk) (hx) (fun _ ho=>YQ hH hk ho) (Za (hl.D 0 5 rfl rfl) (Za (hl.D 1 6 rfl rfl) Zd)) (js hJ hx),trivial⟩ ?_
 exact tRn 0 (hE:=eB (by rw[←ZaL]))
theorem ZfX (xs ys:List BA)  :Fn prog J 58 [.rd (Zb xs),.rd (Zb ys)] (.bool (decide (xs=ys))):=by
 refine fE Tryz.func58 fun S w0 hS hJ0=>?_
 clear hJ0
 refine ln 0 fun hl1=>?_
 refine ln 1 fun hl2=>?_
 refine qs tb hJ [0,1] [_] U2 ?_
 refine Zh (hqs tb hJ [0,1,1004] [_,.int (xs.length:Nat),_,.int (ys.length:Nat),_] [1,3] U3 rfl ⟨Ym Zx,Ym Zx,trivial⟩ ?_)
 refine cj 2 (fun hb1=>?_) fun hb1=>?_
 ·
  try simp at hb1
  refine qs tb hJ [1000] [_] [_] ?_
  exact tRn 0 (hE:=eB (by first | (have:=Zbz (xs:=xs) (ys:=ys) oz (fun j hj=>f1_2 j oz);simp[this];done) | (symm;rw[decide_eq_false_iff_not];intro e;subst e;simp_all;done)))
 ·
  try simp at hb1
  refine Zc (nx (Zh (hqs tb hJ [0,1,1001,1002] [_,.int (xs.length:Nat),_] [1] U4 rfl ⟨Ym Zx,trivial⟩ ?_)))
  refine Ze (lp (ι:=Nat) (fun k=>(k≤xs.length)∧(∀ j,j<k→ge xs j=ge ys j)) (fun k=>[(13,.int (k:Nat))]) (fun k=>xs.length-k) [0,1,2,3] U3 0 ⟨nzl,fun j hj=>by omega⟩ ?_)
  rintro k ⟨f1_1,f1_2⟩
  refine qs tb hJ [0,1,2,3,1000] [_] U5 ?_
  refine cjS 4 (fun hb2=>?_) fun hb2=>?_
  ·
   try simp at hb2
   refine Zc (nx (Zh (Ze (qs tb hJ [0,1,2,3,1001] U2 U5 ?_))))
   refine hqs tb hJ [0,1,2,3,1008] [_,_,.ptr [lS (ge xs k)],_,_,_,.ptr [lS (ge ys k)],_,_] [2,6] U5 rfl ⟨iIx Zl,iIx Zl,trivial⟩ ?_
   refine cj 4 (fun hb3=>?_) fun hb3=>?_
   ·
    try simp at hb3
    refine qs tb hJ [1000] [_] [_] ?_
    exact tRn 0 (hE:=eB (by first | (have:=Zbz (xs:=xs) (ys:=ys) oz (fun j hj=>f1_2 j oz);simp[this];done) | (symm;rw[decide_eq_false_iff_not];intro e;subst e;simp_all;done)))
   ·
    try simp at hb3
    refine Zc (nx (hqp tb hJ [0,1,2,1001] [.int (k+1:Nat),_] [0] U4 rfl ⟨YN,trivial⟩ ?_))
    exact lpE (k+1) [0,1,2,3] ⟨oz,ZY f1_2 hb3⟩
  ·
   try simp at hb2
   refine Zu (nx (qs tb hJ [1000] [_] [_] ?_))
   exact tRn 0 (hE:=eB (by first | (have:=Zbz (xs:=xs) (ys:=ys) oz (fun j hj=>f1_2 j oz);simp[this];done) | (symm;rw[decide_eq_false_iff_not];intro e;subst e;simp_all;done)))
theorem Zqc (xs ys:List Int)  :Fn prog J 31 [.rd (ZX xs),.rd (ZX ys)] (.bool (decide (xs=ys))):=by
 refine fE Tryz.func31 fun S w0 hS hJ0=>?_
 clear hJ0
 refine ln 0 fun hl1=>?_
 refine ln 1 fun hl2=>?_
 refine qs tb hJ [0,1] [_] U2 ?_
 refine Zh (hqs tb hJ [0,1,1004] [_,.int (xs.length:Nat),_,.int (ys.length:Nat),_] [1,3] U3 rfl ⟨Ym YE,Ym YE,trivial⟩ ?_)
 refine cj 2 (fun hb1=>?_) fun hb1=>?_
 ·
  try simp at hb1
  refine qs tb hJ [1000] [_] [_] ?_
  exact tRn 0 (hE:=eB (by first | (have:=Zbz (xs:=xs) (ys:=ys) oz (fun j hj=>f1_2 j oz);simp[this];done) | (symm;rw[decide_eq_false_iff_not];intro e;subst e;simp_all;done)))
 ·
  try simp at hb1
  refine Zc (nx (Zh (hqs tb hJ [0,1,1001,1002] [_,.int (xs.length:Nat),_] [1] U4 rfl ⟨Ym YE,trivial⟩ ?_)))
  refine Ze (lp (ι:=Nat) (fun k=>(k≤xs.length)∧(∀ j,j<k→ge xs j=ge ys j)) (fun k=>[(13,.int (k:Nat))]) (fun k=>xs.length-k) [0,1,2,3] U3 0 ⟨nzl,fun j hj=>by omega⟩ ?_)
  rintro k ⟨f1_1,f1_2⟩
  refine qs tb hJ [0,1,2,3,1000] [_] U5 ?_
  refine cjS 4 (fun hb2=>?_) fun hb2=>?_
  ·
   try simp at hb2
   refine Zc (nx (Zh (Ze (qs tb hJ [0,1,2,3,1001] U2 U5 ?_))))
   refine hqs tb hJ [0,1,2,3,1008] [_,_,.ptr [lI (ge xs k)],_,_,_,.ptr [lI (ge ys k)],_,_] [2,6] U5 rfl ⟨iIx ZC,iIx ZC,trivial⟩ ?_
   refine cj 4 (fun hb3=>?_) fun hb3=>?_
   ·
    try simp at hb3
    refine qs tb hJ [1000] [_] [_] ?_
    exact tRn 0 (hE:=eB (by first | (have:=Zbz (xs:=xs) (ys:=ys) oz (fun j hj=>f1_2 j oz);simp[this];done) | (symm;rw[decide_eq_false_iff_not];intro e;subst e;simp_all;done)))
   ·
    try simp at hb3
    refine Zc (nx (hqp tb hJ [0,1,2,1001] [.int (k+1:Nat),_] [0] U4 rfl ⟨YN,trivial⟩ ?_))
    exact lpE (k+1) [0,1,2,3] ⟨oz,ZY f1_2 hb3⟩
  ·
   try simp at hb2
   refine Zu (nx (qs tb hJ [1000] [_] [_] ?_))
   exact tRn 0 (hE:=eB (by first | (have:=Zbz (xs:=xs) (ys:=ys) oz (fun j hj=>f1_2 j oz);simp[this];done) | (symm;rw[decide_eq_false_iff_not];intro e;subst e;simp_all;done)))
theorem Zko (xs:List BA) (b:xs.length*16≤140737488351232):FnM (ι:=Value) prog J 87 [] [.rd (Zb xs)] [] (fun i'=>.lit (i')) (fun i'=>[OB.row i' 9 1 (xs.map Zbt)]):=by
 refine fEM Tryz.func87 fun S w0 R hS hJ0 hH=>?_
 refine YT (B:=So J S w0 8 (R) [(0,.rd (Zb xs))]) ?_ fun a w h=>h
 refine ln 0 fun hl1=>?_
 refine qso tb hJ [0] [_] [_] ?_
 refine Zh (tsq (snK 1 tb rfl (ZbS (f:=Zbt) (xs:=xs) Zx rfl rfl rfl (lb rfl) (fun a w h=>(h.get 0 rfl)) fun g1 hg1=>?_)))
 refine seK [0,2] U2 rfl (nx (cj 0 (fun hb1=>?_) fun hb1=>?_))
 ·
  try simp at hb1
  refine qso tb hJ [1000] [_] [_] ?_
  refine tw (Z7 9 1 hJ) (tw (ob0 (congrArg (fun z'=>OB.row (.slice none 0 0) 9 1 ((z').map Zbt)) (show([]:List BA)=xs from by first | exact(hg1 (by assumption)).symm | simp))) ?_)
  exact Zv (fun a w h=>ZN  (m:=0) (.slice none 0 0) rfl h rfl rfl)
 ·
  try simp at hb1
  refine Zc (nx (Zh (fun a w h=>ZbZ (id:=3) (t:=22) (e:=9) (size:=1) (bytes:=16) (i0:=0) (fol:=3) (d:=2) (ch:=[(2,(xs.map Zbt))]) (fun ix'=>([.any,.rd (Zb xs),.any,.any]:List AV).getD ix' .any) (fun _=>true) [] (xs.map Zbt) yz ?r3_1 hJ hJ0 h Yk rfl rfl rfl rfl ⟨?_,?_,?_,?_,trivial⟩ trivial (fun v2=>?n3_1))))
  case r3_1=>
   refine Row.mk' Qc ⟨_,rfl,rfl,rfl,rfl,rfl⟩ ⟨?x3_1_0,trivial⟩ ⟨_,_,_,_,rfl,rfl,rfl,rfl,rfl,rfl,rfl,rfl,rfl⟩ rfl rfl rfl
   case x3_1_0=>exact⟨_,_,_,_,rfl,rfl,rfl,rfl,rfl,rfl,rfl,rfl,ZaK (f:=Zbt) (fun _=>rfl),(by have hm:maxLen=9223372036854775807:=rfl;simp[upto];first | omega | (simp;omega)),(by have hm:maxLen=9223372036854775807:=rfl;simp[upto];first | omega | (simp;omega)),fun _ _ _ _ _ hl=>(hl.D 1 6 rfl rfl)⟩
  exact fun h=>Zi rfl h
  exact fun _ _=>⟨rfl,fun _ _ _ hx hl _=>ZW rfl (hl.env 1 0 _ rfl rfl) hx⟩
  exact fun h=>Zi rfl h
  exact fun h=>Zi rfl h
  clear a w h
  exact nx (Zv (fun a w h=>ZN  (m:=0) v2 rfl h rfl rfl))
theorem Zqf (xs:List Hy) (b:xs.length*48≤140737488351232):FnM (ι:=Value) prog J 183 [] [.rd (XC xs)] [] (fun i'=>.lit (i')) (fun i'=>[OB.row i' 119 3 (xs.map hyC)]):=by
 refine fEM Tryz.func183 fun S w0 R hS hJ0 hH=>?_
 refine YT (B:=So J S w0 8 (R) [(0,.rd (XC xs))]) ?_ fun a w h=>h
 refine ln 0 fun hl1=>?_
 refine qso tb hJ [0] [_] [_] ?_
 refine Zh (tsq (snK 1 tb rfl (ZbS (f:=hyC) (xs:=xs) ZB rfl rfl rfl (lb rfl) (fun a w h=>(h.get 0 rfl)) fun g1 hg1=>?_)))
 refine seK [0,2] U2 rfl (nx (cj 0 (fun hb1=>?_) fun hb1=>?_))
 ·
  try simp at hb1
  refine qso tb hJ [1000] [_] [_] ?_
  refine tw (Z7 119 3 hJ) (tw (ob0 (congrArg (fun z'=>OB.row (.slice none 0 0) 119 3 ((z').map hyC)) (show([]:List Hy)=xs from by first | exact(hg1 (by assumption)).symm | simp))) ?_)
  exact Zv (fun a w h=>ZN  (m:=0) (.slice none 0 0) rfl h rfl rfl)
 ·
  try simp at hb1
  refine Zc (nx (Zh (fun a w h=>ZbZ (id:=3) (t:=69) (e:=119) (size:=3) (bytes:=48) (i0:=0) (fol:=3) (d:=2) (ch:=[(2,(xs.map hyC))]) (fun ix'=>([.any,.rd (XC xs),.any,.any]:List AV).getD ix' .any) (fun _=>true) [] (xs.map hyC) yz ?r3_1 hJ hJ0 h Yk rfl rfl rfl rfl ⟨?_,?_,?_,?_,trivial⟩ trivial (fun v2=>?n3_1))))
  case r3_1=>
   refine Row.mk' Zbr ⟨_,rfl,rfl,rfl,rfl,rfl⟩ ⟨?x3_1_0,trivial⟩ ⟨_,_,_,_,rfl,rfl,rfl,rfl,rfl,rfl,rfl,rfl,rfl⟩ rfl rfl rfl
   case x3_1_0=>exact⟨_,_,_,_,rfl,rfl,rfl,rfl,rfl,rfl,rfl,rfl,ZaK (f:=hyC) (fun _=>rfl),(by have hm:maxLen=9223372036854775807:=rfl;simp[upto];first | omega | (simp;omega)),(by have hm:maxLen=9223372036854775807:=rfl;simp[upto];first | omega | (simp;omega)),fun _ _ _ _ _ hl=>(hl.D 1 6 rfl rfl)⟩
  exact fun h=>Zi rfl h
  exact fun _ _=>⟨rfl,fun _ _ _ hx hl _=>ZW rfl (hl.env 1 0 _ rfl rfl) hx⟩
  exact fun h=>Zi rfl h
  exact fun h=>Zi rfl h
  clear a w h
  exact nx (Zv (fun a w h=>ZN  (m:=0) v2 rfl h rfl rfl))
theorem Zqe (xs:List Pr) (b:xs.length*32≤140737488351232):FnM (ι:=Value) prog J 243 [] [.rd (XS xs)] [] (fun i'=>.lit (i')) (fun i'=>[OB.row i' 162 2 (xs.map prC)]):=by
 refine fEM Tryz.func243 fun S w0 R hS hJ0 hH=>?_
 refine YT (B:=So J S w0 8 (R) [(0,.rd (XS xs))]) ?_ fun a w h=>h
 refine ln 0 fun hl1=>?_
 refine qso tb hJ [0] [_] [_] ?_
 refine Zh (tsq (snK 1 tb rfl (ZbS (f:=prC) (xs:=xs) Yf rfl rfl rfl (lb rfl) (fun a w h=>(h.get 0 rfl)) fun g1 hg1=>?_)))
 refine seK [0,2] U2 rfl (nx (cj 0 (fun hb1=>?_) fun hb1=>?_))
 ·
  try simp at hb1
  refine qso tb hJ [1000] [_] [_] ?_
  refine tw (Z7 162 2 hJ) (tw (ob0 (congrArg (fun z'=>OB.row (.slice none 0 0) 162 2 ((z').map prC)) (show([]:List Pr)=xs from by first | exact(hg1 (by assumption)).symm | simp))) ?_)
  exact Zv (fun a w h=>ZN  (m:=0) (.slice none 0 0) rfl h rfl rfl)
 ·
  try simp at hb1
  refine Zc (nx (Zh (fun a w h=>ZbZ (id:=3) (t:=70) (e:=162) (size:=2) (bytes:=32) (i0:=0) (fol:=3) (d:=2) (ch:=[(2,(xs.map prC))]) (fun ix'=>([.any,.rd (XS xs),.any,.any]:List AV).getD ix' .any) (fun _=>true) [] (xs.map prC) yz ?r3_1 hJ hJ0 h Yk rfl rfl rfl rfl ⟨?_,?_,?_,?_,trivial⟩ trivial (fun v2=>?n3_1))))
  case r3_1=>
   refine Row.mk' Zmk ⟨_,rfl,rfl,rfl,rfl,rfl⟩ ⟨?x3_1_0,trivial⟩ ⟨_,_,_,_,rfl,rfl,rfl,rfl,rfl,rfl,rfl,rfl,rfl⟩ rfl rfl rfl
   case x3_1_0=>exact⟨_,_,_,_,rfl,rfl,rfl,rfl,rfl,rfl,rfl,rfl,ZaK (f:=prC) (fun _=>rfl),(by have hm:maxLen=9223372036854775807:=rfl;simp[upto];first | omega | (simp;omega)),(by have hm:maxLen=9223372036854775807:=rfl;simp[upto];first | omega | (simp;omega)),fun _ _ _ _ _ hl=>(hl.D 1 6 rfl rfl)⟩
  exact fun h=>Zi rfl h
  exact fun _ _=>⟨rfl,fun _ _ _ hx hl _=>ZW rfl (hl.env 1 0 _ rfl rfl) hx⟩
  exact fun h=>Zi rfl h
  exact fun h=>Zi rfl h
  clear a w h
  exact nx (Zv (fun a w h=>ZN  (m:=0) v2 rfl h rfl rfl))
end
theorem ZfZ {J:WP} (hJ:Stab J) (v:Value) (xs:List Hy) (f:FuncId) (caps:List AV) (Os Hs:List OB) (p:Hy→Bool) (hf:∀ q',FnR prog J f (Os++Hs) ([.agg (hyC (q'))]++caps) (.bool (p q'))) (hk0:Zj prog f) (hn:xs.length≤9223372036854775807):FnM (ι:=Unit) prog J 182 Hs [.lit v,.fn f caps] (OB.row v 119 3 (xs.map hyC)::Os) (fun _=>.rd (XC (xs.filter fun x'=>!p x'))) (fun _=>(Os)):=by
 refine fEM Tryz.func182 fun S w0 R hS hJ0 hH=>?_
 refine YT (B:=So J S w0 42 (OB.row v 119 3 (xs.map hyC)::(Os++R)) [(0,.lit v),(1,.fn f caps)]) ?_ fun a w h=>h
 refine qso tb hJ [0,1] [_] U2 ?_
 refine ZqG tb hJ [0,1,1003] [_,_,.int (XZ p xs),_] [2] U3 rfl ⟨fun _ _ hk hx hl _=>YX (ZcP hJ xs f caps (Os++Hs) p (hf) (hk0)) Zgq rfl (nm hS hk) (hx.1) (Zge (fun _ ho=>Zb3 hx (List.mem_cons_of_mem _ (List.mem_append_left _ ho))) (fun _ ho=>ZkB hH hk hx ho)) (Za (XK hS hx (mo 0 rfl) (hl.D 0 8 rfl rfl)) (Za (hl.D 1 9 rfl rfl) Zd)) (jo hJ hx),trivial⟩ ?_
 refine Zh (qso tb hJ [0,1,2,1001] U2 U4 ?_)
 refine cj 3 (fun hb1=>?_) fun hb1=>?_
 ·
  have e1:=of_decide_eq_true hb1
  refine qso tb hJ [1001] U2 [_] ?_
  exact tw (fun h=>Ya hS h (m:=0) (s:=4) rfl) (Zv (fun a w h=>ZN  (m:=0) () rfl h rfl (congrArg (fun z=>AV.rd (XC z)) (show xs=(xs.filter fun x'=>!p x')from by first | exact DelF.none e1 | exact f1_1.fin (by have:=f1_1.len;omega)))))
 ·
  have e1:=of_decide_eq_false hb1
  refine Zc (nx (Zh (tw (sa 2 rfl (congrArg AV.int (show XZ p xs=(((XZ p xs).toNat:Nat):Int)from by have:=QI e1;omega))) (ZK tb hJ [0,1,2,1002] [_,.int ((XZ p xs).toNat+1:Nat),_] [1] U4 rfl ⟨YN (h0:=by have:=(QI e1).2.1;omega),trivial⟩ ?_))))
  refine Ze (lpo (ι:=Nat×Nat×(List Hy)×Value) (fun(i,j,ys,_)=>(DelF p xs ys i j)) (fun(_,_,ys,vo)=>(OB.row vo 119 3 (ys.map hyC)::(Os++R))) (fun(i,j,_,vo)=>[(5,.int (i:Nat)),(6,.int (j:Nat)),(0,.lit vo)]) (fun(_,j,_,_)=>xs.length-j) [1,2,3,0] [_] ((XZ p xs).toNat,(XZ p xs).toNat+1,xs,v) (show(DelF p xs xs ((XZ p xs).toNat) ((XZ p xs).toNat+1))from DelF.init e1) ?_)
  rintro⟨i,j,ys,vo⟩ hF
  have f1_1:DelF p xs ys i j:=hF
  refine Zh (ZqG tb hJ [0,1,2,3,1003] [_,_,.int (ys.length:Nat),_] [2] U5 rfl ⟨fun _ _ _ hx hl _=>Zam ZB rfl (XK hS hx (mo 0 rfl) (hl.D 1 17 rfl rfl)) hx,trivial⟩ ?_)
  refine cj 4 (fun hb2=>?_) fun hb2=>?_
  ·
   try simp at hb2
   refine Zc (nx (Zh (Ze (tsq (snK 2 tb rfl (sy (.lit (YS vo (j*3))) (fun h=>Yc (i:=(j:Int)) ZG rfl (Zf h.x (mo 0 rfl)) (h.get 1 rfl) (h.get 0 rfl) nnn (by rw[List.length_map];exact Int.ofNat_lt.2 oz) h.x) ?_))))))
   refine sy (.agg (hyC (ge ys j))) (fun h=>Xw (i:=j) Zay rfl (Zf h.x (mo 0 rfl)) (h.get 0 rfl) (Qq (xs:=ys) (k:=j) oz) rfl h.x) ?_
   refine X1 (cs:=hyC (ge ys j)) Zaf rfl rfl rfl (lb rfl) rfl rfl rfl dz (m:=0) rfl rfl (fun a w h=>Zm hS _ h.keep h.x _ nlr) (fun a w h w' hk'=>Yn hJ _ _ hk' h.x) ?_
   refine seK [0,5,6,7,8] U5 rfl (nx (ZK tb hJ (r5 [1003]) [_,_,.bool (p (ge ys j)),_] [2] U6 rfl ⟨fun _ _ hk hx hl _=>Zan (hf (ge ys j)) hk0 rfl (hl.D 0 26 rfl rfl) (Zm hS _ hk hx) (hx.1) (Zge (fun _ ho=>Zf hx (List.mem_cons_of_mem _ (List.mem_append_left _ ho))) (fun _ ho=>ZI hH hk hx ho)) (Za (hl.D 1 27 rfl rfl) Zd) (jo hJ hx),trivial⟩ ?_))
   refine cj 5 (fun hb3=>?_) fun hb3=>?_
   ·
    try simp at hb3
    refine tsq (snK 3 tb rfl (sy (.lit (YS vo (i*3))) (fun h=>Yc (i:=(i:Int)) ZG rfl (Zf h.x (mo 0 rfl)) (h.get 2 rfl) (h.get 1 rfl) nnn (by rw[List.length_map];exact Int.ofNat_lt.2 (by have:=f1_1.le;omega)) h.x) ?_))
    refine QX (i:=i) hJ hJ0 YI rfl rfl rfl (by rw[List.length_map];exact(by have:=f1_1.le;omega)) rfl (fun a w h=>⟨(h.get 0 rfl),(h.get 1 rfl)⟩) ?_
    rw[show(ys.map hyC).set i (hyC (ge ys j))=(ys.set i (ge ys j)).map hyC from List.map_set.symm]
    refine seK [5,6,7,8] U4 rfl (nx (YR tb hJ [0,2,3,1002] [_,.int (i+1:Nat),_] [1] U4 rfl ⟨YN (h0:=by have:=f1_1.le;have:=f1_1.len;omega),trivial⟩ ?_))
    refine nx (YR tb hJ [0,2,3,1002] [_,.int (j+1:Nat),_] [1] U4 rfl ⟨YN (h0:=by have:=f1_1.lt;have:=f1_1.len;omega),trivial⟩ ?_)
    exact Xf (i+1,j+1,ys.set i (ge ys j),vo) [0,2,3,1] (show(DelF p xs (ys.set i (ge ys j)) (i+1) (j+1))from f1_1.keep (by have:=f1_1.len;omega) (by simpa using hb3)) (hm:=(show xs.length-(j+1)<xs.length-j from by have:=f1_1.lt;have:=f1_1.len;omega))
   ·
    try simp at hb3
    refine Zc (nx (YR tb hJ [1,2,4,1002] [_,.int (j+1:Nat),_] [1] U4 rfl ⟨YN (h0:=by have:=f1_1.lt;have:=f1_1.len;omega),trivial⟩ ?_))
    exact Xf (i,j+1,ys,vo) [0,1,3,2] (show(DelF p xs ys i (j+1))from f1_1.skip (by have:=f1_1.len;omega) (by simpa using hb3)) (hm:=(show xs.length-(j+1)<xs.length-j from by have:=f1_1.lt;have:=f1_1.len;omega))
  ·
   try simp at hb2
   refine Zu (nx (tsq (snK 2 tb rfl (sy (.lit (ZgZ vo i 3)) (fun h=>Zj9 (lo:=i) ZG rfl (Zf h.x (mo 0 rfl)) (h.get 1 rfl) (h.get 0 rfl) (by rw[List.length_map];exact(by have:=f1_1.le;have:=f1_1.lt;have:=f1_1.len;omega)) h.x) ?_))))
   refine ZfJ (lo:=i) Zit ZB dz hJ hJ0 rfl rfl rfl (by rw[List.length_map];exact(by have:=f1_1.le;have:=f1_1.lt;have:=f1_1.len;omega)) (fun a w h=>(h.get 0 rfl)) ?_
   rw[←List.map_take]
   refine seK [4,6] U2 rfl (nx (ZK tb hJ [1003] [_,_,.lit (QR vo i),_] [2] [_] rfl ⟨fun _ _ _ hx hl _=>ZdJ (m:=i) ZG rfl (Zf hx (mo 0 rfl)) (by first | rfl | (rw[List.length_map];exact(by have:=f1_1.le;have:=f1_1.lt;have:=f1_1.len;simp;omega))) (hl.D 0 39 rfl rfl) (hl.D 1 40 rfl rfl) hx,trivial⟩ ?_))
   exact tw (fun h=>Ya hS h (m:=0) (s:=4) rfl) (Zv (fun a w h=>ZN  (m:=0) () rfl h rfl (congrArg (fun z=>AV.rd (XC z)) (show(ys.take i)=(xs.filter fun x'=>!p x')from by first | exact DelF.none e1 | exact f1_1.fin (by have:=f1_1.len;omega)))))
theorem ZfY {J:WP} (hJ:Stab J) (v:Value) (xs:List Pr) (f:FuncId) (caps:List AV) (Os Hs:List OB) (p:Pr→Bool) (hf:∀ q',FnR prog J f (Os++Hs) ([.agg (prC (q'))]++caps) (.bool (p q'))) (hk0:Zj prog f) (hn:xs.length≤9223372036854775807):FnM (ι:=Unit) prog J 242 Hs [.lit v,.fn f caps] (OB.row v 162 2 (xs.map prC)::Os) (fun _=>.rd (XS (xs.filter fun x'=>!p x'))) (fun _=>(Os)):=by
 refine fEM Tryz.func242 fun S w0 R hS hJ0 hH=>?_
 refine YT (B:=So J S w0 42 (OB.row v 162 2 (xs.map prC)::(Os++R)) [(0,.lit v),(1,.fn f caps)]) ?_ fun a w h=>h
 refine qso tb hJ [0,1] [_] U2 ?_
 refine ZqG tb hJ [0,1,1003] [_,_,.int (XZ p xs),_] [2] U3 rfl ⟨fun _ _ hk hx hl _=>YX (Zhi hJ xs f caps (Os++Hs) p (hf) (hk0)) Zrb rfl (nm hS hk) (hx.1) (Zge (fun _ ho=>Zb3 hx (List.mem_cons_of_mem _ (List.mem_append_left _ ho))) (fun _ ho=>ZkB hH hk hx ho)) (Za (XK hS hx (mo 0 rfl) (hl.D 0 8 rfl rfl)) (Za (hl.D 1 9 rfl rfl) Zd)) (jo hJ hx),trivial⟩ ?_
 refine Zh (qso tb hJ [0,1,2,1001] U2 U4 ?_)
 refine cj 3 (fun hb1=>?_) fun hb1=>?_
 ·
  have e1:=of_decide_eq_true hb1
  refine qso tb hJ [1001] U2 [_] ?_
  exact tw (fun h=>Ya hS h (m:=0) (s:=4) rfl) (Zv (fun a w h=>ZN  (m:=0) () rfl h rfl (congrArg (fun z=>AV.rd (XS z)) (show xs=(xs.filter fun x'=>!p x')from by first | exact DelF.none e1 | exact f1_1.fin (by have:=f1_1.len;omega)))))
 ·
  have e1:=of_decide_eq_false hb1
  refine Zc (nx (Zh (tw (sa 2 rfl (congrArg AV.int (show XZ p xs=(((XZ p xs).toNat:Nat):Int)from by have:=QI e1;omega))) (ZK tb hJ [0,1,2,1002] [_,.int ((XZ p xs).toNat+1:Nat),_] [1] U4 rfl ⟨YN (h0:=by have:=(QI e1).2.1;omega),trivial⟩ ?_))))
  refine Ze (lpo (ι:=Nat×Nat×(List Pr)×Value) (fun(i,j,ys,_)=>(DelF p xs ys i j)) (fun(_,_,ys,vo)=>(OB.row vo 162 2 (ys.map prC)::(Os++R))) (fun(i,j,_,vo)=>[(5,.int (i:Nat)),(6,.int (j:Nat)),(0,.lit vo)]) (fun(_,j,_,_)=>xs.length-j) [1,2,3,0] [_] ((XZ p xs).toNat,(XZ p xs).toNat+1,xs,v) (show(DelF p xs xs ((XZ p xs).toNat) ((XZ p xs).toNat+1))from DelF.init e1) ?_)
  rintro⟨i,j,ys,vo⟩ hF
  have f1_1:DelF p xs ys i j:=hF
  refine Zh (ZqG tb hJ [0,1,2,3,1003] [_,_,.int (ys.length:Nat),_] [2] U5 rfl ⟨fun _ _ _ hx hl _=>Zam Yf rfl (XK hS hx (mo 0 rfl) (hl.D 1 17 rfl rfl)) hx,trivial⟩ ?_)
  refine cj 4 (fun hb2=>?_) fun hb2=>?_
  ·
   try simp at hb2
   refine Zc (nx (Zh (Ze (tsq (snK 2 tb rfl (sy (.lit (YS vo (j*2))) (fun h=>Yc (i:=(j:Int)) ZD rfl (Zf h.x (mo 0 rfl)) (h.get 1 rfl) (h.get 0 rfl) nnn (by rw[List.length_map];exact Int.ofNat_lt.2 oz) h.x) ?_))))))
   refine sy (.agg (prC (ge ys j))) (fun h=>Xw (i:=j) Xh rfl (Zf h.x (mo 0 rfl)) (h.get 0 rfl) (Qq (xs:=ys) (k:=j) oz) rfl h.x) ?_
   refine X1 (cs:=prC (ge ys j)) Zdr rfl rfl rfl (lb rfl) rfl rfl rfl dz (m:=0) rfl rfl (fun a w h=>Zm hS _ h.keep h.x _ nlr) (fun a w h w' hk'=>Yn hJ _ _ hk' h.x) ?_
   refine seK [0,5,6,7,8] U5 rfl (nx (ZK tb hJ (r5 [1003]) [_,_,.bool (p (ge ys j)),_] [2] U6 rfl ⟨fun _ _ hk hx hl _=>Zan (hf (ge ys j)) hk0 rfl (hl.D 0 26 rfl rfl) (Zm hS _ hk hx) (hx.1) (Zge (fun _ ho=>Zf hx (List.mem_cons_of_mem _ (List.mem_append_left _ ho))) (fun _ ho=>ZI hH hk hx ho)) (Za (hl.D 1 27 rfl rfl) Zd) (jo hJ hx),trivial⟩ ?_))
   refine cj 5 (fun hb3=>?_) fun hb3=>?_
   ·
    try simp at hb3
    refine tsq (snK 3 tb rfl (sy (.lit (YS vo (i*2))) (fun h=>Yc (i:=(i:Int)) ZD rfl (Zf h.x (mo 0 rfl)) (h.get 2 rfl) (h.get 1 rfl) nnn (by rw[List.length_map];exact Int.ofNat_lt.2 (by have:=f1_1.le;omega)) h.x) ?_))
    refine QX (i:=i) hJ hJ0 Y6 rfl rfl rfl (by rw[List.length_map];exact(by have:=f1_1.le;omega)) rfl (fun a w h=>⟨(h.get 0 rfl),(h.get 1 rfl)⟩) ?_
    rw[show(ys.map prC).set i (prC (ge ys j))=(ys.set i (ge ys j)).map prC from List.map_set.symm]
    refine seK [5,6,7,8] U4 rfl (nx (YR tb hJ [0,2,3,1002] [_,.int (i+1:Nat),_] [1] U4 rfl ⟨YN (h0:=by have:=f1_1.le;have:=f1_1.len;omega),trivial⟩ ?_))
    refine nx (YR tb hJ [0,2,3,1002] [_,.int (j+1:Nat),_] [1] U4 rfl ⟨YN (h0:=by have:=f1_1.lt;have:=f1_1.len;omega),trivial⟩ ?_)
    exact Xf (i+1,j+1,ys.set i (ge ys j),vo) [0,2,3,1] (show(DelF p xs (ys.set i (ge ys j)) (i+1) (j+1))from f1_1.keep (by have:=f1_1.len;omega) (by simpa using hb3)) (hm:=(show xs.length-(j+1)<xs.length-j from by have:=f1_1.lt;have:=f1_1.len;omega))
   ·
    try simp at hb3
    refine Zc (nx (YR tb hJ [1,2,4,1002] [_,.int (j+1:Nat),_] [1] U4 rfl ⟨YN (h0:=by have:=f1_1.lt;have:=f1_1.len;omega),trivial⟩ ?_))
    exact Xf (i,j+1,ys,vo) [0,1,3,2] (show(DelF p xs ys i (j+1))from f1_1.skip (by have:=f1_1.len;omega) (by simpa using hb3)) (hm:=(show xs.length-(j+1)<xs.length-j from by have:=f1_1.lt;have:=f1_1.len;omega))
  ·
   try simp at hb2
   refine Zu (nx (tsq (snK 2 tb rfl (sy (.lit (ZgZ vo i 2)) (fun h=>Zj9 (lo:=i) ZD rfl (Zf h.x (mo 0 rfl)) (h.get 1 rfl) (h.get 0 rfl) (by rw[List.length_map];exact(by have:=f1_1.le;have:=f1_1.lt;have:=f1_1.len;omega)) h.x) ?_))))
   refine ZfJ (lo:=i) Zdn Yf dz hJ hJ0 rfl rfl rfl (by rw[List.length_map];exact(by have:=f1_1.le;have:=f1_1.lt;have:=f1_1.len;omega)) (fun a w h=>(h.get 0 rfl)) ?_
   rw[←List.map_take]
   refine seK [4,6] U2 rfl (nx (ZK tb hJ [1003] [_,_,.lit (QR vo i),_] [2] [_] rfl ⟨fun _ _ _ hx hl _=>ZdJ (m:=i) ZD rfl (Zf hx (mo 0 rfl)) (by first | rfl | (rw[List.length_map];exact(by have:=f1_1.le;have:=f1_1.lt;have:=f1_1.len;simp;omega))) (hl.D 0 39 rfl rfl) (hl.D 1 40 rfl rfl) hx,trivial⟩ ?_))
   exact tw (fun h=>Ya hS h (m:=0) (s:=4) rfl) (Zv (fun a w h=>ZN  (m:=0) () rfl h rfl (congrArg (fun z=>AV.rd (XS z)) (show(ys.take i)=(xs.filter fun x'=>!p x')from by first | exact DelF.none e1 | exact f1_1.fin (by have:=f1_1.len;omega)))))
end Go.Proofs.YtdfadihhfppjaaaGreatDoor
