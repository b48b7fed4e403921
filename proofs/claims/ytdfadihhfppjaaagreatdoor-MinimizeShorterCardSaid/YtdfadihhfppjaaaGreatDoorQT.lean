/-
  FACTS of the program's types and functions.
  CONTRACTS of the program: look-ups, functions that take functions.
  CONTRACTS of the library: slices' functions.
  CONTRACTS of the library: slices.DeleteFunc.
-/
import Derived.Test.YtdfadihhfppjaaaGreatDoorQS
import Derived.Laws.StructEq
import Derived.Test.YtdfadihhfppjaaaGreatDoorQN
set_option maxHeartbeats 8000000
set_option maxRecDepth 100000
namespace Go.Proofs.YtdfadihhfppjaaaGreatDoor
open Go.Proofs.Tryz (prog)
open Go.RowKit
theorem fO {s k o:Nat} (h:ZW prog s k o:=by exact fun b off w=>by kernel_rfl):ZW prog s k o:=h
theorem eO {s k o:Nat} (h:Yp prog s k o:=by exact⟨by kernel_rfl,fun w=>by kernel_rfl⟩):Yp prog s k o:=h
theorem nO {s:Nat} (h:XA prog s:=by exact fun w=>by kernel_rfl):XA prog s:=h
theorem aO {s k:Nat} (h:Xl prog s k:=by exact⟨fun w=>by kernel_rfl,fun w=>by kernel_rfl⟩):Xl prog s k:=h
theorem zO {s k:Nat} (h:Xf prog s k:=by exact fun w=>by kernel_rfl):Xf prog s k:=h
theorem Yo:prog.follows .mixedOrders=true:=by kernel_rfl
theorem Zo1:(prog.fieldsOf 162).toList=[{ name:= "A",type:=9,offset:=0,embedded:=false,tag:= "",pkgPath:= "",byteOffset:=0 }, { name:= "B",type:=9,offset:=1,embedded:=false,tag:= "",pkgPath:= "",byteOffset:=16 }]:=by kernel_rfl
theorem ZoZ:prog.underlying 162=some (.struct (prog.fieldsOf 162)):=by kernel_rfl
theorem Zuu:prog.underlying 9=some .string:=by kernel_rfl
theorem Zh3 (c:Array Value) (i:Nat) (v:Value) (h:c[i]?=some v) (w:World):(part 9 c i).run prog w= .ok v w:=by
 simp[part,Tryz.isAgg9,h]
theorem Zqo:Zre prog 162:=by
 intro a b c d w x y
 refine⟨by simp[eqGuard],by simp[eqGuard],?_⟩
 unfold Op.equal Op.maxDepth
 rw[run_equalIn_struct w 9999 162 _ _ ZoZ (by kernel_rfl),Zo1]
 have e1:=fun(c:Array Value) (v:Value) (i:Nat) (h:c[i]?=some v)=>Zh3 c i v h
 have q1:=run_equalIn_string (P:=prog) w 9998 9 a c Zuu
 have q2:=run_equalIn_string (P:=prog) w 9998 9 b d Zuu
 rw[QW]at q1 q2
 simp only[Op.eqFields]
 rw[if_pos dz,if_pos dz]
 simp only[Sem.run_bind]
 rw[e1 _ (.string a) 0 rfl w,Result.andThen_ok,e1 _ (.string c) 0 rfl w,Result.andThen_ok,q1,Result.andThen_ok]
 by_cases h1:a=c
 · simp only[h1,decide_true,Bool.not_true,Bool.false_eq_true,if_false,Sem.run_bind]
   rw[e1 _ (.string b) 1 rfl w,Result.andThen_ok,e1 _ (.string d) 1 rfl w,Result.andThen_ok,q2,Result.andThen_ok]
   by_cases h2:b=d
   · simp[h2,Sem.run_pure]
   · simp[h2,Sem.run_pure]
 · simp[h1,Sem.run_pure]
theorem ZA:prog.underlying 22=some (.slice 9):=by kernel_rfl
theorem Zj:Yp prog 22 9 1:=eO
theorem Qx:XA prog 9:=nO
theorem Yl:prog.underlying 70=some (.slice 162):=by kernel_rfl
theorem ZE:Yp prog 70 162 2:=eO
theorem Xt:Xl prog 162 2:=aO
theorem Zbq:prog.underlying 9=some .string:=by kernel_rfl
theorem Zdn:ZW prog 72 2 2:=fO
theorem Zpp:XA prog 69:=nO
theorem ZbX:Zjz prog 69 119 3 48:=Zvi (.agg #[.string ⟨#[]⟩,.bool false,.slice none 0 0]) (by kernel_rfl) (by kernel_rfl) rfl dz (fun w=>by kernel_rfl)
theorem Zsp:XA prog 4:=nO
theorem Xb:ZW prog 119 2 2:=fO
theorem Qy:XA prog 22:=nO
theorem Zbg:ZW prog 119 0 0:=fO
theorem undb_4:prog.underlying 4=some .bool:=by kernel_rfl
theorem Zgk:ZW prog 25 1 1:=fO
theorem ZhD:Xl prog 25 3:=aO
theorem Q8:ZW prog 162 0 0:=fO
theorem Q7:ZW prog 162 1 1:=fO
theorem ZnL:Zjz prog 70 162 2 32:=Zvi (.agg #[.string ⟨#[]⟩,.string ⟨#[]⟩]) (by kernel_rfl) (by kernel_rfl) rfl dz (fun w=>by kernel_rfl)
theorem ZfL:prog.underlying 62=some (.slice 22):=by kernel_rfl
theorem Z8:Yp prog 62 22 1:=eO
theorem Zbn:Zc3 prog 9:=⟨.string ⟨#[]⟩,fun w=>by kernel_rfl⟩
theorem Qu:Zjz prog 22 9 1 16:=Zvi (.string ⟨#[]⟩) (by kernel_rfl) (by kernel_rfl) rfl dz (fun w=>by kernel_rfl)
theorem ZC:prog.underlying 69=some (.slice 119):=by kernel_rfl
theorem ZI:Yp prog 69 119 3:=eO
theorem ZjA:Zc3 prog 22:=⟨.slice none 0 0,fun w=>by kernel_rfl⟩
theorem Zjo:Zjz prog 62 22 1 24:=Zvi (.slice none 0 0) (by kernel_rfl) (by kernel_rfl) rfl dz (fun w=>by kernel_rfl)
theorem ZaV:ZW prog 25 2 2:=fO
theorem Zis:XA prog 23:=nO
theorem Yu:Yp prog 23 72 8:=eO
theorem ZbY:Xl prog 72 8:=aO
theorem Zgj:ZW prog 72 0 0:=fO
theorem Za2:Xl prog 119 3:=aO
theorem ZnA:ZW prog 72 4 4:=fO
theorem Zgh:ZW prog 72 6 6:=fO
theorem ZlF:XA prog 70:=nO
theorem Zeg:Zup prog 162 2:=⟨(#[.string ⟨#[]⟩,.string ⟨#[]⟩]),rfl,by kernel_rfl⟩
theorem Zgi:ZW prog 72 3 3:=fO
theorem ZkT:Zup prog 72 8:=⟨(#[.string ⟨#[]⟩,.bool false,.slice none 0 0,.slice none 0 0,.slice none 0 0,.slice none 0 0,.slice none 0 0,.slice none 0 0]),rfl,by kernel_rfl⟩
theorem ZnB:ZW prog 72 1 1:=fO
theorem QT:prog.underlying 23=some (.slice 72):=by kernel_rfl
theorem Zpq:XA prog 215:=nO
theorem ZR:ZkO prog 215 9 4 keyS.kind:=⟨by kernel_rfl,by kernel_rfl⟩
theorem Yf:Zjt prog 4 (.bool false):=⟨(.bool false),fun w=>by kernel_rfl,fun S w=>Rel.of_lit _⟩
theorem Zko:ZW prog 219 1 1:=fO
theorem ZeK:XA prog 213:=nO
theorem Zd6:Zi prog 171:=Zm Tryz.func171 rfl rfl
theorem ZtT:Zi prog 169:=Zm Tryz.func169 rfl rfl
theorem Zho:Zi prog 187:=Zm Tryz.func187 rfl rfl
theorem YL:prog.underlying 29=some (.slice 3):=by kernel_rfl
theorem Zw:Yp prog 29 3 1:=eO
theorem Q2:XA prog 3:=nO
theorem Zxo:Zi prog 92:=Zm Tryz.func92 rfl rfl
theorem ZqT:Zi prog 59:=Zm Tryz.func59 rfl rfl
theorem ZaG:Zup prog 119 3:=⟨(#[.string ⟨#[]⟩,.bool false,.slice none 0 0]),rfl,by kernel_rfl⟩
theorem YQ:Xf prog 119 3:=zO
theorem ZjB:ZfF prog 119 3:=⟨(.agg #[.string ⟨#[]⟩,.bool false,.slice none 0 0]),fun w=>by kernel_rfl,rfl,by simp[Value.cells,Value.oneCell']⟩
theorem Ztq:Zi prog 257:=Zm Tryz.func257 rfl rfl
theorem Xj:Xf prog 162 2:=zO
theorem Zed:ZfF prog 162 2:=⟨(.agg #[.string ⟨#[]⟩,.string ⟨#[]⟩]),fun w=>by kernel_rfl,rfl,by simp[Value.cells,Value.oneCell']⟩
theorem Zmh:Zi prog 241:=Zm Tryz.func241 rfl rfl
theorem Zhm:Zi prog 58:=Zm Tryz.func58 rfl rfl
theorem Ztw:Zi prog 244:=Zm Tryz.func244 rfl rfl
theorem Ztx:Zi prog 243:=Zm Tryz.func243 rfl rfl
theorem Zty:Zi prog 242:=Zm Tryz.func242 rfl rfl
theorem ZtJ:Zi prog 184:=Zm Tryz.func184 rfl rfl
theorem ZtK:Zi prog 183:=Zm Tryz.func183 rfl rfl
theorem ZtL:Zi prog 182:=Zm Tryz.func182 rfl rfl
theorem Yy:ZdG prog 119 [.lit (.string ⟨#[]⟩),.lit (.bool false),.sl []]:=⟨(.agg #[.string ⟨#[]⟩,.bool false,.slice none 0 0]),fun w=>by kernel_rfl,fun S w=>(show RdL S w [.lit (.string ⟨#[]⟩),.lit (.bool false),.sl []] [.string ⟨#[]⟩,.bool false,.slice none 0 0]from⟨.lit _ nzl,.lit _ True.intro,.nil _ _ nzl,trivial⟩)⟩
theorem ZqM:Zi prog 87:=Zm Tryz.func87 rfl rfl
theorem ZoC:Xf prog 22 1:=zO
theorem ZtH:Zi prog 214:=Zm Tryz.func214 rfl rfl
theorem ZcV:Zi prog 135:=Zm Tryz.func135 rfl rfl
theorem Zcq:ZdG prog 304 ((List.replicate 256 (0:UInt8)).map u8D):=Zrs (.agg (Array.replicate 256 (.int .u8 0))) (fun w=>by kernel_rfl) (by simp[Value.cells])
theorem QU:prog.underlying 3=some (.int .i64):=by kernel_rfl
theorem Zei:prog.underlying 5=some (.int .u8):=by kernel_rfl
theorem XX:ArrT prog 304 5 256:=⟨by kernel_rfl,fun w=>by kernel_rfl,by decide⟩
theorem ZdO:Xf prog 5 1:=zO
theorem Zfq:Xl prog 304 256:=aO
theorem Zdv:Xf prog 304 256:=zO
theorem ZmP:prog.underlying 186=some (.slice 5):=by kernel_rfl
theorem ZbE:Yp prog 186 5 1:=eO
theorem one_5:XA prog 5:=nO
theorem Ztr:Zi prog 255:=Zm Tryz.func255 rfl rfl
theorem ZtA:Zi prog 239:=Zm Tryz.func239 rfl rfl
theorem Ztz:Zi prog 240:=Zm Tryz.func240 rfl rfl
theorem zero_5:Zc3 prog 5:=⟨.int .u8 0,fun w=>by kernel_rfl⟩
theorem Zmj:Zi prog 211:=Zm Tryz.func211 rfl rfl
theorem ZnT:ZfF prog 5 1:=⟨(.int .u8 0),fun w=>by kernel_rfl,rfl,by simp[Value.cells,Value.oneCell']⟩
theorem Zmf:Zi prog 260:=Zm Tryz.func260 rfl rfl
theorem Zhq:Zi prog 170:=Zm Tryz.func170 rfl rfl
theorem Zto:Zi prog 261:=Zm Tryz.func261 rfl rfl
theorem Zmg:Zi prog 259:=Zm Tryz.func259 rfl rfl
theorem Zbp:prog.underlying 322=some (.array 10 321):=by kernel_rfl
theorem ZbL:Xf prog 321 4:=zO
theorem Zjs:Xl prog 321 4:=aO
theorem Zcp:ZdG prog 321 [.lit (.string ⟨#[]⟩),.lit (.bool false),.lit (.int .i64 0),.lit (.int .i64 0)]:=⟨(.agg #[.string ⟨#[]⟩,.bool false,.int .i64 0,.int .i64 0]),fun w=>by kernel_rfl,fun S w=>(show RdL S w [.lit (.string ⟨#[]⟩),.lit (.bool false),.lit (.int .i64 0),.lit (.int .i64 0)] [.string ⟨#[]⟩,.bool false,.int .i64 0,.int .i64 0]from⟨.lit _ nzl,.lit _ True.intro,.lit _ True.intro,.lit _ True.intro,trivial⟩)⟩
theorem Zhp:Zi prog 172:=Zm Tryz.func172 rfl rfl
theorem Zkl:ZW prog 287 2 2:=fO
theorem Zkk:ZW prog 287 3 3:=fO
theorem Ztt:Zi prog 247:=Zm Tryz.func247 rfl rfl
theorem Zbo:prog.underlying 288=some (.slice 287):=by kernel_rfl
theorem ZaA:Yp prog 288 287 4:=eO
theorem Ztp:Zi prog 258:=Zm Tryz.func258 rfl rfl
theorem Zkj:ZW prog 321 0 0:=fO
theorem Ztu:Zi prog 246:=Zm Tryz.func246 rfl rfl
theorem Ztv:Zi prog 245:=Zm Tryz.func245 rfl rfl
theorem Zn3:Zup prog 287 4:=⟨(#[.int .i64 0,.string ⟨#[]⟩,.slice none 0 0,.slice none 0 0]),rfl,by kernel_rfl⟩
theorem Zts:Zi prog 248:=Zm Tryz.func248 rfl rfl
theorem Zrl:Zc3 prog 287:=⟨.agg #[.int .i64 0,.string ⟨#[]⟩,.slice none 0 0,.slice none 0 0],fun w=>by kernel_rfl⟩
theorem ZtB:Zi prog 220:=Zm Tryz.func220 rfl rfl
theorem Zkn:ZW prog 219 2 2:=fO
theorem Ze4:ZW prog 244 1 1:=fO
theorem Zj6:XA prog 217:=nO
theorem Zar:ZkO prog 217 9 9 keyS.kind:=⟨by kernel_rfl,by kernel_rfl⟩
theorem Zee:Zjt prog 9 (.str default):=⟨(.string ⟨#[]⟩),fun w=>by kernel_rfl,fun S w=>(show Rel S w (.str ⟨#[]⟩) _ from Rel.of_lit _ nzl)⟩
theorem Zkm:ZW prog 219 4 4:=fO
theorem Q6:ZW prog 219 3 3:=fO
theorem ZeJ:XA prog 216:=nO
theorem XV:ZkO prog 216 9 119 keyS.kind:=⟨by kernel_rfl,by kernel_rfl⟩
theorem Zah:Zjt prog 119 (.agg (hyC default)):=⟨(.agg #[.string ⟨#[]⟩,.bool false,.slice none 0 0]),fun w=>by kernel_rfl,fun S w=>(show Rel S w (.agg [.lit (.string ⟨#[]⟩),.lit (.bool false),.sl []]) _ from(by simp only[Rel];exact⟨[.string ⟨#[]⟩,.bool false,.slice none 0 0],rfl,.lit _ nzl,.lit _ True.intro,.nil _ _ nzl,trivial⟩))⟩
theorem Zmi:Zi prog 213:=Zm Tryz.func213 rfl rfl
theorem Zmk:Zi prog 175:=Zm Tryz.func175 rfl rfl
theorem ZtF:Zi prog 216:=Zm Tryz.func216 rfl rfl
theorem ZtG:Zi prog 215:=Zm Tryz.func215 rfl rfl
theorem ZhP:prog.underlying 215=some (.map 9 4):=by kernel_rfl
theorem X0:ZdG prog 162 [.lit (.string ⟨#[]⟩),.lit (.string ⟨#[]⟩)]:=⟨(.agg #[.string ⟨#[]⟩,.string ⟨#[]⟩]),fun w=>by kernel_rfl,fun S w=>(show RdL S w [.lit (.string ⟨#[]⟩),.lit (.string ⟨#[]⟩)] [.string ⟨#[]⟩,.string ⟨#[]⟩]from⟨.lit _ nzl,.lit _ nzl,trivial⟩)⟩
theorem ZtE:Zi prog 217:=Zm Tryz.func217 rfl rfl
theorem ZtC:Zi prog 219:=Zm Tryz.func219 rfl rfl
theorem ZtD:Zi prog 218:=Zm Tryz.func218 rfl rfl
theorem ZtP:Zi prog 178:=Zm Tryz.func178 rfl rfl
theorem Zeh:prog.underlying 281=some (.slice 69):=by kernel_rfl
theorem QR:Yp prog 281 69 1:=eO
theorem ZtI:Zi prog 212:=Zm Tryz.func212 rfl rfl
theorem ZhO:prog.underlying 217=some (.map 9 9):=by kernel_rfl
theorem ZtQ:Zi prog 177:=Zm Tryz.func177 rfl rfl
theorem ZtN:Zi prog 180:=Zm Tryz.func180 rfl rfl
theorem ZjD:ZdG prog 244 [.lit (.map none),.lit (.map none)]:=⟨(.agg #[.map none,.map none]),fun w=>by kernel_rfl,fun S w=>(show RdL S w [.lit (.map none),.lit (.map none)] [.map none,.map none]from⟨.lit _ True.intro,.lit _ True.intro,trivial⟩)⟩
theorem ZmU:Xf prog 244 2:=zO
theorem ZfJ:ZfF prog 69 1:=⟨(.slice none 0 0),fun w=>by kernel_rfl,rfl,by simp[Value.cells,Value.oneCell']⟩
theorem Zml:Zi prog 173:=Zm Tryz.func173 rfl rfl
theorem ZtS:Zi prog 174:=Zm Tryz.func174 rfl rfl
theorem ZtR:Zi prog 176:=Zm Tryz.func176 rfl rfl
theorem Zmq:Zi prog 139:=Zm Tryz.func139 rfl rfl
theorem ZtO:Zi prog 179:=Zm Tryz.func179 rfl rfl
theorem Zmp:Zi prog 142:=Zm Tryz.func142 rfl rfl
theorem Zms:Zi prog 113:=Zm Tryz.func113 rfl rfl
theorem ZtM:Zi prog 181:=Zm Tryz.func181 rfl rfl
theorem Zt0:Zi prog 137:=Zm Tryz.func137 rfl rfl
theorem ZtZ:Zi prog 138:=Zm Tryz.func138 rfl rfl
theorem ZhN:prog.underlying 165=some (.slice 182):=by kernel_rfl
theorem ZaB:Yp prog 165 182 2:=eO
theorem Zn4:Zup prog 182 2:=⟨(#[.string ⟨#[]⟩,.slice none 0 0]),rfl,by kernel_rfl⟩
theorem Ze5:ZW prog 182 0 0:=fO
theorem Zbd:ZkO prog 208 9 22 keyS.kind:=⟨by kernel_rfl,by kernel_rfl⟩
theorem QI:Zjt prog 22 (.rd (Zg default)):=⟨(.slice none 0 0),fun w=>by kernel_rfl,fun S w=>(show Rel S w (.rd (.sl [])) _ from(by simp only[Rel];exact .nil _ _ nzl))⟩
theorem ZcW:Zi prog 133:=Zm Tryz.func133 rfl rfl
theorem Zas:ZkO prog 214 9 4 keyS.kind:=⟨by kernel_rfl,by kernel_rfl⟩
theorem Zhr:Zi prog 132:=Zm Tryz.func132 rfl rfl
theorem Zt2:Zi prog 134:=Zm Tryz.func134 rfl rfl
theorem Zlb:Xf prog 9 1:=zO
theorem Zmm:Zi prog 152:=Zm Tryz.func152 rfl rfl
theorem ZcX:Zi prog 126:=Zm Tryz.func126 rfl rfl
theorem Zec:ZfF prog 3 1:=⟨(.int .i64 0),fun w=>by kernel_rfl,rfl,by simp[Value.cells,Value.oneCell']⟩
theorem ZkC:Zi prog 44:=Zm Tryz.func44 rfl rfl
theorem Zds:prog.underlying 230=some (.int .u64):=by kernel_rfl
theorem ZtU:Zi prog 148:=Zm Tryz.func148 rfl rfl
theorem Zmn:Zi prog 149:=Zm Tryz.func149 rfl rfl
theorem Zmo:Zi prog 144:=Zm Tryz.func144 rfl rfl
theorem ZtX:Zi prog 145:=Zm Tryz.func145 rfl rfl
theorem ZtW:Zi prog 146:=Zm Tryz.func146 rfl rfl
theorem Zt4:Zi prog 123:=Zm Tryz.func123 rfl rfl
theorem Zrt:ZdG prog 4 [.lit (.bool false)]:=⟨(.bool false),fun w=>by kernel_rfl,fun S w=>(show RdL S w [.lit (.bool false)] [.bool false]from⟨.lit _ True.intro,trivial⟩)⟩
theorem Zt7:Zi prog 120:=Zm Tryz.func120 rfl rfl
theorem Zn5:ZdG prog 70 [.sl []]:=⟨(.slice none 0 0),fun w=>by kernel_rfl,fun S w=>(show RdL S w [.sl []] [.slice none 0 0]from⟨.nil _ _ nzl,trivial⟩)⟩
theorem Zoy:Xf prog 70 1:=zO
theorem Zt6:Zi prog 121:=Zm Tryz.func121 rfl rfl
theorem ZtV:Zi prog 147:=Zm Tryz.func147 rfl rfl
theorem Zt5:Zi prog 122:=Zm Tryz.func122 rfl rfl
theorem ZbK:Xf prog 4 1:=zO
theorem Zgy:prog.underlying 179=some (.array 2 69):=by kernel_rfl
theorem Zh1:Xf prog 69 1:=zO
theorem ZkP:Zc3 prog 182:=⟨.agg #[.string ⟨#[]⟩,.slice none 0 0],fun w=>by kernel_rfl⟩
theorem Zfp:Zjz prog 165 182 2 40:=Zvi (.agg #[.string ⟨#[]⟩,.slice none 0 0]) (by kernel_rfl) (by kernel_rfl) rfl dz (fun w=>by kernel_rfl)
theorem YF:ZW prog 28 0 0:=fO
theorem ZaO:XA prog 26:=nO
theorem ZN:prog.underlying 26=some (.slice 88):=by kernel_rfl
theorem Z1:Yp prog 26 88 2:=eO
theorem Qq:ZW prog 88 1 1:=fO
theorem Q3:XA prog 29:=nO
theorem Z5:Xl prog 28 1:=aO
theorem Zuc:Zi prog 109:=Zm Tryz.func109 rfl rfl
theorem Zc2:Xl prog 88 2:=aO
theorem ZkV:ZdG prog 3 [.lit (.int .i64 0)]:=⟨(.int .i64 0),fun w=>by kernel_rfl,fun S w=>(show RdL S w [.lit (.int .i64 0)] [.int .i64 0]from⟨.lit _ True.intro,trivial⟩)⟩
theorem X4:ZdG prog 88 [.lit (.string ⟨#[]⟩),.sl []]:=⟨(.agg #[.string ⟨#[]⟩,.slice none 0 0]),fun w=>by kernel_rfl,fun S w=>(show RdL S w [.lit (.string ⟨#[]⟩),.sl []] [.string ⟨#[]⟩,.slice none 0 0]from⟨.lit _ nzl,.nil _ _ nzl,trivial⟩)⟩
theorem QM:Xf prog 3 1:=zO
theorem Qa:Xf prog 88 2:=zO
theorem ZqR:Zi prog 65:=Zm Tryz.func65 rfl rfl
theorem Zua:Zi prog 112:=Zm Tryz.func112 rfl rfl
theorem Zxu:Zi prog 85:=Zm Tryz.func85 rfl rfl
theorem ZqN:Zi prog 81:=Zm Tryz.func81 rfl rfl
theorem XH:ZW prog 113 2 4:=fO
theorem ZeI:XA prog 62:=nO
theorem Zt9:Zi prog 114:=Zm Tryz.func114 rfl rfl
theorem Zmu:Zi prog 103:=Zm Tryz.func103 rfl rfl
theorem Qr:ZW prog 113 0 0:=fO
theorem Zcj:ZW prog 113 1 3:=fO
theorem ZqL:Zi prog 95:=Zm Tryz.func95 rfl rfl
theorem Zxn:Zi prog 93:=Zm Tryz.func93 rfl rfl
theorem Znz:ZW prog 88 0 0:=fO
theorem Zxt:Zi prog 86:=Zm Tryz.func86 rfl rfl
theorem ZqQ:Zi prog 67:=Zm Tryz.func67 rfl rfl
theorem Zxs:Zi prog 88:=Zm Tryz.func88 rfl rfl
theorem ZbI:ZdG prog 64 [.lit (.int .i64 0),.lit (.int .i64 0)]:=⟨(.agg #[.int .i64 0,.int .i64 0]),fun w=>by kernel_rfl,fun S w=>(show RdL S w [.lit (.int .i64 0),.lit (.int .i64 0)] [.int .i64 0,.int .i64 0]from⟨.lit _ True.intro,.lit _ True.intro,trivial⟩)⟩
theorem ZkA:Zi prog 56:=Zm Tryz.func56 rfl rfl
theorem QX:Xf prog 64 2:=zO
theorem Zd8:Xl prog 64 2:=aO
theorem ZxC:Zi prog 57:=Zm Tryz.func57 rfl rfl
theorem Zoz:Xf prog 62 1:=zO
theorem Zch:XA prog 122:=nO
theorem XI:Yp prog 122 4 1:=eO
theorem Zj7:XA prog 129:=nO
theorem Zmt:Zi prog 111:=Zm Tryz.func111 rfl rfl
theorem ZfK:ZdG prog 122 [.sl []]:=⟨(.slice none 0 0),fun w=>by kernel_rfl,fun S w=>(show RdL S w [.sl []] [.slice none 0 0]from⟨.nil _ _ nzl,trivial⟩)⟩
theorem ZfT:Xf prog 122 1:=zO
theorem ZmM:ZdG prog 129 [.lit .nilFunc]:=⟨(.nilFunc),fun w=>by kernel_rfl,fun S w=>(show RdL S w [.lit .nilFunc] [.nilFunc]from⟨.lit _ True.intro,trivial⟩)⟩
theorem ZmX:Xf prog 129 1:=zO
set_option maxRecDepth 100000 in
theorem tb_one:∀ t∈[3,4,5,9,22,23,26,29,33,34,42,48,62,69,70,77,90,134,158,165,174,189,208,212,213,215,216,217],XA prog t:=by
 intro t h
 simp only[List.mem_cons,List.not_mem_nil,or_false]at h
 rcases h with rfl | rfl | rfl | rfl | rfl | rfl | rfl | rfl | rfl | rfl | rfl | rfl | rfl | rfl | rfl | rfl | rfl | rfl | rfl | rfl | rfl | rfl | rfl | rfl | rfl | rfl | rfl | rfl<;>exact fun w=>by kernel_rfl
set_option maxRecDepth 100000 in
theorem tb_agg:∀ q∈[(25,3),(28,1),(31,6),(37,6),(64,2),(72,8),(88,2),(119,3),(162,2),(182,2),(244,2),(287,4),(321,4)],Xl prog q.1 q.2:=by
 intro q h
 simp only[List.mem_cons,List.not_mem_nil,or_false]at h
 rcases h with rfl | rfl | rfl | rfl | rfl | rfl | rfl | rfl | rfl | rfl | rfl | rfl | rfl<;>exact⟨fun w=>by kernel_rfl,fun w=>by kernel_rfl⟩
set_option maxRecDepth 100000 in
theorem tb_fld:∀ q∈[(25,0,0),(25,1,1),(25,2,2),(28,0,0),(31,0,0),(31,1,1),(31,2,2),(31,3,3),(31,4,4),(31,5,5),(37,0,0),(37,1,1),(37,2,2),(37,3,3),(37,4,4),(37,5,5),(64,0,0),(64,1,1),(72,0,0),(72,1,1),(72,2,2),(72,3,3),(72,4,4),(72,5,5),(72,6,6),(72,7,7),(88,0,0),(88,1,1),(92,0,0),(92,1,3),(92,2,4),(92,3,5),(92,4,6),(92,5,7),(113,0,0),(113,1,3),(113,2,4),(119,0,0),(119,1,1),(119,2,2),(162,0,0),(162,1,1),(182,0,0),(182,1,1),(219,0,0),(219,1,1),(219,2,2),(219,3,3),(219,4,4),(244,0,0),(244,1,1),(287,0,0),(287,1,1),(287,2,2),(287,3,3),(321,0,0),(321,1,1),(321,2,2),(321,3,3)],ZW prog q.1 q.2.1 q.2.2:=by
 intro q h
 simp only[List.mem_cons,List.not_mem_nil,or_false]at h
 rcases h with rfl | rfl | rfl | rfl | rfl | rfl | rfl | rfl | rfl | rfl | rfl | rfl | rfl | rfl | rfl | rfl | rfl | rfl | rfl | rfl | rfl | rfl | rfl | rfl | rfl | rfl | rfl | rfl | rfl | rfl | rfl | rfl | rfl | rfl | rfl | rfl | rfl | rfl | rfl | rfl | rfl | rfl | rfl | rfl | rfl | rfl | rfl | rfl | rfl | rfl | rfl | rfl | rfl | rfl | rfl | rfl | rfl | rfl | rfl<;>exact fun b off w=>by kernel_rfl
def tb:Tbl prog where
 one:=ZwN [3,4,5,9,22,23,26,29,33,34,42,48,62,69,70,77,90,134,158,165,174,189,208,212,213,215,216,217]
 agg:=lk1 [(25,3),(28,1),(31,6),(37,6),(64,2),(72,8),(88,2),(119,3),(162,2),(182,2),(244,2),(287,4),(321,4)]
 fld:=lk2 [(25,0,0),(25,1,1),(25,2,2),(28,0,0),(31,0,0),(31,1,1),(31,2,2),(31,3,3),(31,4,4),(31,5,5),(37,0,0),(37,1,1),(37,2,2),(37,3,3),(37,4,4),(37,5,5),(64,0,0),(64,1,1),(72,0,0),(72,1,1),(72,2,2),(72,3,3),(72,4,4),(72,5,5),(72,6,6),(72,7,7),(88,0,0),(88,1,1),(92,0,0),(92,1,3),(92,2,4),(92,3,5),(92,4,6),(92,5,7),(113,0,0),(113,1,3),(113,2,4),(119,0,0),(119,1,1),(119,2,2),(162,0,0),(162,1,1),(182,0,0),(182,1,1),(219,0,0),(219,1,1),(219,2,2),(219,3,3),(219,4,4),(244,0,0),(244,1,1),(287,0,0),(287,1,1),(287,2,2),(287,3,3),(321,0,0),(321,1,1),(321,2,2),(321,3,3)]
 h1:=fun t h=>tb_one t (ZlT h)
 h2:=fun t k h=>tb_agg (t,k+1) (ZpG h)
 h3:=fun s f d h=>tb_fld (s,f,d) (ZpF h)
 mix:=Yo
end Go.Proofs.YtdfadihhfppjaaaGreatDoor
set_option maxHeartbeats 8000000
set_option maxRecDepth 100000
namespace Go.Proofs.YtdfadihhfppjaaaGreatDoor
open Go.RowKit
section
variable {J:WP} (hJ:Stab J)
include hJ
theorem ZbO (M1 M2:Nat) (M3 M4 M5:Nat) (cs vs:List BA) (s:BA)  :FnR Tryz.prog J 171 [OB.set keyS M1 cs,OB.set keyS M2 vs] [.ptr (mpC [M1,M2,M3,M4,M5]),.str s] (.bool (decide (s∈cs)||decide (s∈vs))):=by
 refine fER Tryz.func171 fun S w0 hS hJ0 hH=>?_
 clear hJ0
 refine qs tb hJ [0,1] [_] U2 ?_
 refine hqs tb hJ [1014] (V5 [.bool (decide (s∈cs)),_,_,_,_,_,_,.bool (decide (s∈vs)),_,_]) [5,12] [_] Y ⟨fun _ _ hk hx hl _=>YM (Kd:=keyS) (xs:=cs) ZR Yf s Y (YZ hH hk (mo 0 Y)) (hl.D 3 8 Y Y) (hl.D 4 9 Y Y) hx,fun _ _ hk hx hl hc=>YM (Kd:=keyS) (xs:=vs) ZR Yf s Y (YZ hH hk (mo 1 Y)) (hl.D 10 15 Y hc) (hl.D 11 16 Y hc) hx,U⟩ ?_
 exact tRn 0 (hE:=eB (by first | rfl | grind[Zp]))
theorem Zv7 (M1 M2:Nat) (M3 M4 M5:Nat) (cs vs:List BA) (s:BA)  :FnR Tryz.prog J 214 [OB.set keyS M1 cs,OB.set keyS M2 vs] [.str s,.ptr [.ptr (mpC [M1,M2,M3,M4,M5])]] (.bool (!(decide (s∈cs)||decide (s∈vs)))):=by
 refine fER Tryz.func214 fun S w0 hS hJ0 hH=>?_
 clear hJ0
 refine qs tb hJ [0,1] [_] U2 ?_
 refine hqs tb hJ [1004] [_,_,.bool (decide (s∈cs)||decide (s∈vs)),_,_] [2] [_] Y ⟨fun _ _ hk hx hl _=>Y3 (ZbO hJ M1 M2 M3 M4 M5 cs vs s) Zd6 Y (nm hS hk) (hx) (ZH (YZ hH hk (mo 0 Y)) (ZH (YZ hH hk (mo 1 Y)) Zq)) (Za (hl.D 0 4 Y Y) (Za (hl.D 1 5 Y Y) Zc)) (js hJ hx),U⟩ ?_
 exact tRn 0 (hE:=Y)
theorem Zim (xs:List BA) (f:FuncId) (caps:List AV) (Os:List OB) (p:BA→Bool) (hf:∀ q',FnR Tryz.prog J f Os ([.str (q')]++caps) (.bool (p q'))) (hk0:Zi Tryz.prog f):FnR Tryz.prog J 169 Os [.rd (Zg xs),.fn f caps] (.int (Qj p xs)):=by
 refine fER Tryz.func169 fun S w0 hS hJ0 hH=>?_
 clear hJ0
 refine ln 0 fun hl1=>?_
 refine qs tb hJ [0,1] [_] U2 ?_
 refine Zf (hqs tb hJ [0,1,1001,1002] [_,.int (xs.length:Nat),_] [1] U4 Y ⟨Ym ZA,U⟩ ?_)
 refine Zd (lp (ι:=Nat) (fun k=>(k≤xs.length)∧(∀ j,j<k→p (ge xs j)=false)) (fun k=>[(8,.int (k:Nat))]) (fun k=>xs.length-k) [0,1,2,3] U3 0 ⟨nzl,fun j hj=>by omega⟩ ?_)
 rintro k ⟨f1_1,f1_2⟩
 refine qs tb hJ [0,1,2,3,1000] [_] U5 ?_
 refine cjS 4 (fun hb1=>?_) fun hb1=>?_
 ·
  try simp at hb1
  refine Zb (nx (Zf (Zd (qs tb hJ [0,1,2,3,1001] U2 U5 ?_))))
  refine hqs tb hJ (r5 [1005]) (V3 [.ptr [lS (ge xs k)],_,.bool (p (ge xs k))]) [3,5] U6 Y ⟨iIx Zj,fun _ _ hk hx hl _=>Zax (hf (ge xs k)) hk0 Y (hl.D 0 11 Y Y) (nm hS hk) (hx) (fun _ ho=>YZ hH hk ho) (Za (hl.D 4 15 Y Y) Zc) (js hJ hx),U⟩ ?_
  refine cj 5 (fun hb2=>?_) fun hb2=>?_
  ·
   try simp at hb2
   refine qs tb hJ [1001] U2 [_] ?_
   exact tRn 0 (hE:=eI (by first | exact(Xh hb1 hb2 f1_2).symm | exact(YV fun j hj=>f1_2 j oz).symm))
  ·
   try simp at hb2
   refine Zb (nx (hqp tb hJ [0,1,2,1001] [.int (k+1:Nat),_] [0] U4 Y ⟨YT,U⟩ ?_))
   exact lpE (k+1) [0,1,2,3] ⟨oz,Z2 f1_2 hb2⟩
 ·
  try simp at hb1
  refine Zu (nx (qs tb hJ [1000] [_] [_] ?_))
  exact tRn 0 (hE:=eI (by first | exact(Xh hb1 hb2 f1_2).symm | exact(YV fun j hj=>f1_2 j oz).symm))
end
end Go.Proofs.YtdfadihhfppjaaaGreatDoor
set_option maxHeartbeats 8000000
set_option maxRecDepth 100000
namespace Go.Proofs.YtdfadihhfppjaaaGreatDoor
open Go.Proofs.Tryz (prog)
open Go.RowKit
section
variable {J:WP} (hJ:Stab J)
include hJ
theorem XE (xs:List BA) (f:FuncId) (caps:List AV) (Os:List OB) (p:BA→Bool) (hf:∀ q',FnR prog J f Os ([.str (q')]++caps) (.bool (p q'))) (hk0:Zi prog f):FnR prog J 135 Os [.rd (Zg xs),.fn f caps] (.bool (xs.any p)):=by
 refine fER Tryz.func135 fun S w0 hS hJ0 hH=>?_
 clear hJ0
 refine ln 0 fun hl1=>?_
 refine qs tb hJ [0,1] [_] U2 ?_
 refine hqs tb hJ [1004] [_,_,.int (Qj p xs),_,_] [2] [_] Y ⟨fun _ _ hk hx hl _=>Y3 (Zim hJ xs f caps Os p (hf) (hk0)) ZtT Y (nm hS hk) (hx) (fun _ ho=>YZ hH hk ho) (Za (hl.D 0 5 Y Y) (Za (hl.D 1 6 Y Y) Zc)) (js hJ hx),U⟩ ?_
 exact tRn 0 (hE:=eB (by rw[←Zbf]))
theorem Zdy (xs:List Hy) (f:FuncId) (caps:List AV) (Os:List OB) (p:Hy→Bool) (hf:∀ q',FnR prog J f Os ([.agg (hyC (q'))]++caps) (.bool (p q'))) (hk0:Zi prog f):FnR prog J 187 Os [.rd (XQ xs),.fn f caps] (.int (Qj p xs)):=by
 refine fER Tryz.func187 fun S w0 hS hJ0 hH=>?_
 clear hJ0
 refine ln 0 fun hl1=>?_
 refine qs tb hJ [0,1] [_] U2 ?_
 refine Zf (hqs tb hJ [0,1,1001,1002] [_,.int (xs.length:Nat),_] [1] U4 Y ⟨Ym ZC,U⟩ ?_)
 refine Zd (lp (ι:=Nat) (fun k=>(k≤xs.length)∧(∀ j,j<k→p (ge xs j)=false)) (fun k=>[(8,.int (k:Nat))]) (fun k=>xs.length-k) [0,1,2,3] U3 0 ⟨nzl,fun j hj=>by omega⟩ ?_)
 rintro k ⟨f1_1,f1_2⟩
 refine qs tb hJ [0,1,2,3,1000] [_] U5 ?_
 refine cjS 4 (fun hb1=>?_) fun hb1=>?_
 ·
  try simp at hb1
  refine Zb (nx (Zf (Zd (qs tb hJ [0,1,2,3,1001] U2 U5 ?_))))
  refine hqs tb hJ (r5 [1005]) (V3 [.ptr (hyC (ge xs k)),_,.bool (p (ge xs k))]) [3,5] U6 Y ⟨iIx ZI,fun _ _ hk hx hl _=>Zax (hf (ge xs k)) hk0 Y (hl.D 0 11 Y Y) (nm hS hk) (hx) (fun _ ho=>YZ hH hk ho) (Za (hl.D 4 15 Y Y) Zc) (js hJ hx),U⟩ ?_
  refine cj 5 (fun hb2=>?_) fun hb2=>?_
  ·
   try simp at hb2
   refine qs tb hJ [1001] U2 [_] ?_
   exact tRn 0 (hE:=eI (by first | exact(Xh hb1 hb2 f1_2).symm | exact(YV fun j hj=>f1_2 j oz).symm))
  ·
   try simp at hb2
   refine Zb (nx (hqp tb hJ [0,1,2,1001] [.int (k+1:Nat),_] [0] U4 Y ⟨YT,U⟩ ?_))
   exact lpE (k+1) [0,1,2,3] ⟨oz,Z2 f1_2 hb2⟩
 ·
  try simp at hb1
  refine Zu (nx (qs tb hJ [1000] [_] [_] ?_))
  exact tRn 0 (hE:=eI (by first | exact(Xh hb1 hb2 f1_2).symm | exact(YV fun j hj=>f1_2 j oz).symm))
theorem ZeG (xs:List Hy) (f:FuncId) (caps:List AV) (Os:List OB) (p:Hy→Bool) (hf:∀ q',FnR prog J f Os ([.agg (hyC (q'))]++caps) (.bool (p q'))) (hk0:Zi prog f):FnR prog J 142 Os [.rd (XQ xs),.fn f caps] (.bool (xs.any p)):=by
 refine fER Tryz.func142 fun S w0 hS hJ0 hH=>?_
 clear hJ0
 refine ln 0 fun hl1=>?_
 refine qs tb hJ [0,1] [_] U2 ?_
 refine hqs tb hJ [1004] [_,_,.int (Qj p xs),_,_] [2] [_] Y ⟨fun _ _ hk hx hl _=>Y3 (Zdy hJ xs f caps Os p (hf) (hk0)) Zho Y (nm hS hk) (hx) (fun _ ho=>YZ hH hk ho) (Za (hl.D 0 5 Y Y) (Za (hl.D 1 6 Y Y) Zc)) (js hJ hx),U⟩ ?_
 exact tRn 0 (hE:=eB (by rw[←Zbf]))
theorem Zin (xs:List Pr) (f:FuncId) (caps:List AV) (Os:List OB) (p:Pr→Bool) (hf:∀ q',FnR prog J f Os ([.agg (prC (q'))]++caps) (.bool (p q'))) (hk0:Zi prog f):FnR prog J 257 Os [.rd (X8 xs),.fn f caps] (.int (Qj p xs)):=by
 refine fER Tryz.func257 fun S w0 hS hJ0 hH=>?_
 clear hJ0
 refine ln 0 fun hl1=>?_
 refine qs tb hJ [0,1] [_] U2 ?_
 refine Zf (hqs tb hJ [0,1,1001,1002] [_,.int (xs.length:Nat),_] [1] U4 Y ⟨Ym Yl,U⟩ ?_)
 refine Zd (lp (ι:=Nat) (fun k=>(k≤xs.length)∧(∀ j,j<k→p (ge xs j)=false)) (fun k=>[(8,.int (k:Nat))]) (fun k=>xs.length-k) [0,1,2,3] U3 0 ⟨nzl,fun j hj=>by omega⟩ ?_)
 rintro k ⟨f1_1,f1_2⟩
 refine qs tb hJ [0,1,2,3,1000] [_] U5 ?_
 refine cjS 4 (fun hb1=>?_) fun hb1=>?_
 ·
  try simp at hb1
  refine Zb (nx (Zf (Zd (qs tb hJ [0,1,2,3,1001] U2 U5 ?_))))
  refine hqs tb hJ (r5 [1005]) (V3 [.ptr (prC (ge xs k)),_,.bool (p (ge xs k))]) [3,5] U6 Y ⟨iIx ZE,fun _ _ hk hx hl _=>Zax (hf (ge xs k)) hk0 Y (hl.D 0 11 Y Y) (nm hS hk) (hx) (fun _ ho=>YZ hH hk ho) (Za (hl.D 4 15 Y Y) Zc) (js hJ hx),U⟩ ?_
  refine cj 5 (fun hb2=>?_) fun hb2=>?_
  ·
   try simp at hb2
   refine qs tb hJ [1001] U2 [_] ?_
   exact tRn 0 (hE:=eI (by first | exact(Xh hb1 hb2 f1_2).symm | exact(YV fun j hj=>f1_2 j oz).symm))
  ·
   try simp at hb2
   refine Zb (nx (hqp tb hJ [0,1,2,1001] [.int (k+1:Nat),_] [0] U4 Y ⟨YT,U⟩ ?_))
   exact lpE (k+1) [0,1,2,3] ⟨oz,Z2 f1_2 hb2⟩
 ·
  try simp at hb1
  refine Zu (nx (qs tb hJ [1000] [_] [_] ?_))
  exact tRn 0 (hE:=eI (by first | exact(Xh hb1 hb2 f1_2).symm | exact(YV fun j hj=>f1_2 j oz).symm))
theorem Zio (xs:List Int) (f:FuncId) (caps:List AV) (Os:List OB) (p:Int→Bool) (hf:∀ q',FnR prog J f Os ([.int (q')]++caps) (.bool (p q'))) (hk0:Zi prog f):FnR prog J 92 Os [.rd (Z3 xs),.fn f caps] (.int (Qj p xs)):=by
 refine fER Tryz.func92 fun S w0 hS hJ0 hH=>?_
 clear hJ0
 refine ln 0 fun hl1=>?_
 refine qs tb hJ [0,1] [_] U2 ?_
 refine Zf (hqs tb hJ [0,1,1001,1002] [_,.int (xs.length:Nat),_] [1] U4 Y ⟨Ym YL,U⟩ ?_)
 refine Zd (lp (ι:=Nat) (fun k=>(k≤xs.length)∧(∀ j,j<k→p (ge xs j)=false)) (fun k=>[(8,.int (k:Nat))]) (fun k=>xs.length-k) [0,1,2,3] U3 0 ⟨nzl,fun j hj=>by omega⟩ ?_)
 rintro k ⟨f1_1,f1_2⟩
 refine qs tb hJ [0,1,2,3,1000] [_] U5 ?_
 refine cjS 4 (fun hb1=>?_) fun hb1=>?_
 ·
  try simp at hb1
  refine Zb (nx (Zf (Zd (qs tb hJ [0,1,2,3,1001] U2 U5 ?_))))
  refine hqs tb hJ (r5 [1005]) (V3 [.ptr [lI (ge xs k)],_,.bool (p (ge xs k))]) [3,5] U6 Y ⟨iIx Zw,fun _ _ hk hx hl _=>Zax (hf (ge xs k)) hk0 Y (hl.D 0 11 Y Y) (nm hS hk) (hx) (fun _ ho=>YZ hH hk ho) (Za (hl.D 4 15 Y Y) Zc) (js hJ hx),U⟩ ?_
  refine cj 5 (fun hb2=>?_) fun hb2=>?_
  ·
   try simp at hb2
   refine qs tb hJ [1001] U2 [_] ?_
   exact tRn 0 (hE:=eI (by first | exact(Xh hb1 hb2 f1_2).symm | exact(YV fun j hj=>f1_2 j oz).symm))
  ·
   try simp at hb2
   refine Zb (nx (hqp tb hJ [0,1,2,1001] [.int (k+1:Nat),_] [0] U4 Y ⟨YT,U⟩ ?_))
   exact lpE (k+1) [0,1,2,3] ⟨oz,Z2 f1_2 hb2⟩
 ·
  try simp at hb1
  refine Zu (nx (qs tb hJ [1000] [_] [_] ?_))
  exact tRn 0 (hE:=eI (by first | exact(Xh hb1 hb2 f1_2).symm | exact(YV fun j hj=>f1_2 j oz).symm))
theorem Zbv (xs:List Int) (f:FuncId) (caps:List AV) (Os:List OB) (p:Int→Bool) (hf:∀ q',FnR prog J f Os ([.int (q')]++caps) (.bool (p q'))) (hk0:Zi prog f):FnR prog J 65 Os [.rd (Z3 xs),.fn f caps] (.bool (xs.any p)):=by
 refine fER Tryz.func65 fun S w0 hS hJ0 hH=>?_
 clear hJ0
 refine ln 0 fun hl1=>?_
 refine qs tb hJ [0,1] [_] U2 ?_
 refine hqs tb hJ [1004] [_,_,.int (Qj p xs),_,_] [2] [_] Y ⟨fun _ _ hk hx hl _=>Y3 (Zio hJ xs f caps Os p (hf) (hk0)) Zxo Y (nm hS hk) (hx) (fun _ ho=>YZ hH hk ho) (Za (hl.D 0 5 Y Y) (Za (hl.D 1 6 Y Y) Zc)) (js hJ hx),U⟩ ?_
 exact tRn 0 (hE:=eB (by rw[←Zbf]))
theorem Zdz (xs:List Fr) (f:FuncId) (caps:List AV) (Os:List OB) (p:Fr→Bool) (hf:∀ q',FnR prog J f Os ([.agg (frC (q'))]++caps) (.bool (p q'))) (hk0:Zi prog f):FnR prog J 59 Os [.rd (ZaU xs),.fn f caps] (.int (Qj p xs)):=by
 refine fER Tryz.func59 fun S w0 hS hJ0 hH=>?_
 clear hJ0
 refine ln 0 fun hl1=>?_
 refine qs tb hJ [0,1] [_] U2 ?_
 refine Zf (hqs tb hJ [0,1,1001,1002] [_,.int (xs.length:Nat),_] [1] U4 Y ⟨Ym QT,U⟩ ?_)
 refine Zd (lp (ι:=Nat) (fun k=>(k≤xs.length)∧(∀ j,j<k→p (ge xs j)=false)) (fun k=>[(8,.int (k:Nat))]) (fun k=>xs.length-k) [0,1,2,3] U3 0 ⟨nzl,fun j hj=>by omega⟩ ?_)
 rintro k ⟨f1_1,f1_2⟩
 refine qs tb hJ [0,1,2,3,1000] [_] U5 ?_
 refine cjS 4 (fun hb1=>?_) fun hb1=>?_
 ·
  try simp at hb1
  refine Zb (nx (Zf (Zd (qs tb hJ [0,1,2,3,1001] U2 U5 ?_))))
  refine hqs tb hJ (r5 [1005]) (V3 [.ptr (frC (ge xs k)),_,.bool (p (ge xs k))]) [3,5] U6 Y ⟨iIx Yu,fun _ _ hk hx hl _=>Zax (hf (ge xs k)) hk0 Y (hl.D 0 11 Y Y) (nm hS hk) (hx) (fun _ ho=>YZ hH hk ho) (Za (hl.D 4 15 Y Y) Zc) (js hJ hx),U⟩ ?_
  refine cj 5 (fun hb2=>?_) fun hb2=>?_
  ·
   try simp at hb2
   refine qs tb hJ [1001] U2 [_] ?_
   exact tRn 0 (hE:=eI (by first | exact(Xh hb1 hb2 f1_2).symm | exact(YV fun j hj=>f1_2 j oz).symm))
  ·
   try simp at hb2
   refine Zb (nx (hqp tb hJ [0,1,2,1001] [.int (k+1:Nat),_] [0] U4 Y ⟨YT,U⟩ ?_))
   exact lpE (k+1) [0,1,2,3] ⟨oz,Z2 f1_2 hb2⟩
 ·
  try simp at hb1
  refine Zu (nx (qs tb hJ [1000] [_] [_] ?_))
  exact tRn 0 (hE:=eI (by first | exact(Xh hb1 hb2 f1_2).symm | exact(YV fun j hj=>f1_2 j oz).symm))
theorem ZeH (xs:List Fr) (f:FuncId) (caps:List AV) (Os:List OB) (p:Fr→Bool) (hf:∀ q',FnR prog J f Os ([.agg (frC (q'))]++caps) (.bool (p q'))) (hk0:Zi prog f):FnR prog J 28 Os [.rd (ZaU xs),.fn f caps] (.bool (xs.any p)):=by
 refine fER Tryz.func28 fun S w0 hS hJ0 hH=>?_
 clear hJ0
 refine ln 0 fun hl1=>?_
 refine qs tb hJ [0,1] [_] U2 ?_
 refine hqs tb hJ [1004] [_,_,.int (Qj p xs),_,_] [2] [_] Y ⟨fun _ _ hk hx hl _=>Y3 (Zdz hJ xs f caps Os p (hf) (hk0)) ZqT Y (nm hS hk) (hx) (fun _ ho=>YZ hH hk ho) (Za (hl.D 0 5 Y Y) (Za (hl.D 1 6 Y Y) Zc)) (js hJ hx),U⟩ ?_
 exact tRn 0 (hE:=eB (by rw[←Zbf]))
theorem ZdR (xs ys:List BA)  :Fn prog J 58 [.rd (Zg xs),.rd (Zg ys)] (.bool (decide (xs=ys))):=by
 refine fE Tryz.func58 fun S w0 hS hJ0=>?_
 clear hJ0
 refine ln 0 fun hl1=>?_
 refine ln 1 fun hl2=>?_
 refine qs tb hJ [0,1] [_] U2 ?_
 refine Zf (hqs tb hJ [0,1,1004] [_,.int (xs.length:Nat),_,.int (ys.length:Nat),_] [1,3] U3 Y ⟨Ym ZA,Ym ZA,U⟩ ?_)
 refine cj 2 (fun hb1=>?_) fun hb1=>?_
 ·
  try simp at hb1
  refine qs tb hJ [1000] [_] [_] ?_
  exact tRn 0 (hE:=eB (by first | (have:=ZaY (xs:=xs) (ys:=ys) oz (fun j hj=>f1_2 j oz);simp[this];done) | (symm;rw[decide_eq_false_iff_not];intro e;subst e;simp_all;done)))
 ·
  try simp at hb1
  refine Zb (nx (Zf (hqs tb hJ [0,1,1001,1002] [_,.int (xs.length:Nat),_] [1] U4 Y ⟨Ym ZA,U⟩ ?_)))
  refine Zd (lp (ι:=Nat) (fun k=>(k≤xs.length)∧(∀ j,j<k→ge xs j=ge ys j)) (fun k=>[(13,.int (k:Nat))]) (fun k=>xs.length-k) [0,1,2,3] U3 0 ⟨nzl,fun j hj=>by omega⟩ ?_)
  rintro k ⟨f1_1,f1_2⟩
  refine qs tb hJ [0,1,2,3,1000] [_] U5 ?_
  refine cjS 4 (fun hb2=>?_) fun hb2=>?_
  ·
   try simp at hb2
   refine Zb (nx (Zf (Zd (qs tb hJ [0,1,2,3,1001] U2 U5 ?_))))
   refine hqs tb hJ [0,1,2,3,1008] [_,_,.ptr [lS (ge xs k)],_,_,_,.ptr [lS (ge ys k)],_,_] [2,6] U5 Y ⟨iIx Zj,iIx Zj,U⟩ ?_
   refine cj 4 (fun hb3=>?_) fun hb3=>?_
   ·
    try simp at hb3
    refine qs tb hJ [1000] [_] [_] ?_
    exact tRn 0 (hE:=eB (by first | (have:=ZaY (xs:=xs) (ys:=ys) oz (fun j hj=>f1_2 j oz);simp[this];done) | (symm;rw[decide_eq_false_iff_not];intro e;subst e;simp_all;done)))
   ·
    try simp at hb3
    refine Zb (nx (hqp tb hJ [0,1,2,1001] [.int (k+1:Nat),_] [0] U4 Y ⟨YT,U⟩ ?_))
    exact lpE (k+1) [0,1,2,3] ⟨oz,Z2 f1_2 hb3⟩
  ·
   try simp at hb2
   refine Zu (nx (qs tb hJ [1000] [_] [_] ?_))
   exact tRn 0 (hE:=eB (by first | (have:=ZaY (xs:=xs) (ys:=ys) oz (fun j hj=>f1_2 j oz);simp[this];done) | (symm;rw[decide_eq_false_iff_not];intro e;subst e;simp_all;done)))
theorem Zlz (xs ys:List Int)  :Fn prog J 31 [.rd (Z3 xs),.rd (Z3 ys)] (.bool (decide (xs=ys))):=by
 refine fE Tryz.func31 fun S w0 hS hJ0=>?_
 clear hJ0
 refine ln 0 fun hl1=>?_
 refine ln 1 fun hl2=>?_
 refine qs tb hJ [0,1] [_] U2 ?_
 refine Zf (hqs tb hJ [0,1,1004] [_,.int (xs.length:Nat),_,.int (ys.length:Nat),_] [1,3] U3 Y ⟨Ym YL,Ym YL,U⟩ ?_)
 refine cj 2 (fun hb1=>?_) fun hb1=>?_
 ·
  try simp at hb1
  refine qs tb hJ [1000] [_] [_] ?_
  exact tRn 0 (hE:=eB (by first | (have:=ZaY (xs:=xs) (ys:=ys) oz (fun j hj=>f1_2 j oz);simp[this];done) | (symm;rw[decide_eq_false_iff_not];intro e;subst e;simp_all;done)))
 ·
  try simp at hb1
  refine Zb (nx (Zf (hqs tb hJ [0,1,1001,1002] [_,.int (xs.length:Nat),_] [1] U4 Y ⟨Ym YL,U⟩ ?_)))
  refine Zd (lp (ι:=Nat) (fun k=>(k≤xs.length)∧(∀ j,j<k→ge xs j=ge ys j)) (fun k=>[(13,.int (k:Nat))]) (fun k=>xs.length-k) [0,1,2,3] U3 0 ⟨nzl,fun j hj=>by omega⟩ ?_)
  rintro k ⟨f1_1,f1_2⟩
  refine qs tb hJ [0,1,2,3,1000] [_] U5 ?_
  refine cjS 4 (fun hb2=>?_) fun hb2=>?_
  ·
   try simp at hb2
   refine Zb (nx (Zf (Zd (qs tb hJ [0,1,2,3,1001] U2 U5 ?_))))
   refine hqs tb hJ [0,1,2,3,1008] [_,_,.ptr [lI (ge xs k)],_,_,_,.ptr [lI (ge ys k)],_,_] [2,6] U5 Y ⟨iIx Zw,iIx Zw,U⟩ ?_
   refine cj 4 (fun hb3=>?_) fun hb3=>?_
   ·
    try simp at hb3
    refine qs tb hJ [1000] [_] [_] ?_
    exact tRn 0 (hE:=eB (by first | (have:=ZaY (xs:=xs) (ys:=ys) oz (fun j hj=>f1_2 j oz);simp[this];done) | (symm;rw[decide_eq_false_iff_not];intro e;subst e;simp_all;done)))
   ·
    try simp at hb3
    refine Zb (nx (hqp tb hJ [0,1,2,1001] [.int (k+1:Nat),_] [0] U4 Y ⟨YT,U⟩ ?_))
    exact lpE (k+1) [0,1,2,3] ⟨oz,Z2 f1_2 hb3⟩
  ·
   try simp at hb2
   refine Zu (nx (qs tb hJ [1000] [_] [_] ?_))
   exact tRn 0 (hE:=eB (by first | (have:=ZaY (xs:=xs) (ys:=ys) oz (fun j hj=>f1_2 j oz);simp[this];done) | (symm;rw[decide_eq_false_iff_not];intro e;subst e;simp_all;done)))
theorem ZlA (xs:List BA) (b:xs.length*16≤140737488351232):FnM (ι:=Value) prog J 87 [] [.rd (Zg xs)] [] (fun i'=>.lit (i')) (fun i'=>[OB.row i' 9 1 (xs.map ZbZ)]):=by
 refine fEM Tryz.func87 fun S w0 R hS hJ0 hH=>?_
 refine YS (B:=So J S w0 8 (R) [(0,.rd (Zg xs))]) ?_ fun a w h=>h
 refine ln 0 fun hl1=>?_
 refine qso tb hJ [0] [_] [_] ?_
 refine Zf (tsq (snK 1 tb Y (Zcv (f:=ZbZ) (xs:=xs) ZA Y Y Y (lb Y) (fun a w h=>(h.get 0 Y)) fun g1 hg1=>?_)))
 refine seK [0,2] U2 Y (nx (cj 0 (fun hb1=>?_) fun hb1=>?_))
 ·
  try simp at hb1
  refine qso tb hJ [1000] [_] [_] ?_
  refine tw (Yd 9 1 hJ) (tw (ob0 (congrArg (fun z'=>OB.row (.slice none 0 0) 9 1 ((z').map ZbZ)) (show([]:List BA)=xs from by first | exact(hg1 (by assumption)).symm | simp))) ?_)
  exact Zs (fun a w h=>ZK  (m:=0) (.slice none 0 0) Y h Y Y)
 ·
  try simp at hb1
  refine Zb (nx (Zf (fun a w h=>ZcB (id:=3) (t:=22) (e:=9) (size:=1) (bytes:=16) (i0:=0) (fol:=3) (d:=2) (ch:=[(2,(xs.map ZbZ))]) (fun ix'=>([.any,.rd (Zg xs),.any,.any]:List AV).getD ix' .any) (fun _=>true) [] (xs.map ZbZ) yz ?r3_1 hJ hJ0 h Yo Y Y Y Y ⟨?_,?_,?_,?_,U⟩ trivial (fun v2=>?n3_1))))
  case r3_1=>
   refine Row.mk' Qu ⟨_,Y,Y,Y,Y,Y⟩ ⟨?x3_1_0,U⟩ ⟨_,_,_,_,Y,Y,Y,Y,Y,Y,Y,Y,Y⟩ Y Y Y
   case x3_1_0=>exact⟨_,_,_,_,Y,Y,Y,Y,Y,Y,Y,Y,Zbe (f:=ZbZ) (fun _=>rfl),(by have hm:maxLen=9223372036854775807:=Y;simp[upto];first | omega | (simp;omega)),(by have hm:maxLen=9223372036854775807:=Y;simp[upto];first | omega | (simp;omega)),fun _ _ _ _ _ hl=>(hl.D 1 6 Y Y)⟩
  exact fun h=>Zh Y h
  exact fun _ _=>⟨Y,fun _ _ _ hx hl _=>ZV Y (hl.env 1 0 _ Y Y) hx⟩
  exact fun h=>Zh Y h
  exact fun h=>Zh Y h
  clear a w h
  exact nx (Zs (fun a w h=>ZK  (m:=0) v2 Y h Y Y))
theorem Zsg (xs:List Hy) (b:xs.length*48≤140737488351232):FnM (ι:=Value) prog J 183 [] [.rd (XQ xs)] [] (fun i'=>.lit (i')) (fun i'=>[OB.row i' 119 3 (xs.map hyC)]):=by
 refine fEM Tryz.func183 fun S w0 R hS hJ0 hH=>?_
 refine YS (B:=So J S w0 8 (R) [(0,.rd (XQ xs))]) ?_ fun a w h=>h
 refine ln 0 fun hl1=>?_
 refine qso tb hJ [0] [_] [_] ?_
 refine Zf (tsq (snK 1 tb Y (Zcv (f:=hyC) (xs:=xs) ZC Y Y Y (lb Y) (fun a w h=>(h.get 0 Y)) fun g1 hg1=>?_)))
 refine seK [0,2] U2 Y (nx (cj 0 (fun hb1=>?_) fun hb1=>?_))
 ·
  try simp at hb1
  refine qso tb hJ [1000] [_] [_] ?_
  refine tw (Yd 119 3 hJ) (tw (ob0 (congrArg (fun z'=>OB.row (.slice none 0 0) 119 3 ((z').map hyC)) (show([]:List Hy)=xs from by first | exact(hg1 (by assumption)).symm | simp))) ?_)
  exact Zs (fun a w h=>ZK  (m:=0) (.slice none 0 0) Y h Y Y)
 ·
  try simp at hb1
  refine Zb (nx (Zf (fun a w h=>ZcB (id:=3) (t:=69) (e:=119) (size:=3) (bytes:=48) (i0:=0) (fol:=3) (d:=2) (ch:=[(2,(xs.map hyC))]) (fun ix'=>([.any,.rd (XQ xs),.any,.any]:List AV).getD ix' .any) (fun _=>true) [] (xs.map hyC) yz ?r3_1 hJ hJ0 h Yo Y Y Y Y ⟨?_,?_,?_,?_,U⟩ trivial (fun v2=>?n3_1))))
  case r3_1=>
   refine Row.mk' ZbX ⟨_,Y,Y,Y,Y,Y⟩ ⟨?x3_1_0,U⟩ ⟨_,_,_,_,Y,Y,Y,Y,Y,Y,Y,Y,Y⟩ Y Y Y
   case x3_1_0=>exact⟨_,_,_,_,Y,Y,Y,Y,Y,Y,Y,Y,Zbe (f:=hyC) (fun _=>rfl),(by have hm:maxLen=9223372036854775807:=Y;simp[upto];first | omega | (simp;omega)),(by have hm:maxLen=9223372036854775807:=Y;simp[upto];first | omega | (simp;omega)),fun _ _ _ _ _ hl=>(hl.D 1 6 Y Y)⟩
  exact fun h=>Zh Y h
  exact fun _ _=>⟨Y,fun _ _ _ hx hl _=>ZV Y (hl.env 1 0 _ Y Y) hx⟩
  exact fun h=>Zh Y h
  exact fun h=>Zh Y h
  clear a w h
  exact nx (Zs (fun a w h=>ZK  (m:=0) v2 Y h Y Y))
theorem Zsf (xs:List Pr) (b:xs.length*32≤140737488351232):FnM (ι:=Value) prog J 243 [] [.rd (X8 xs)] [] (fun i'=>.lit (i')) (fun i'=>[OB.row i' 162 2 (xs.map prC)]):=by
 refine fEM Tryz.func243 fun S w0 R hS hJ0 hH=>?_
 refine YS (B:=So J S w0 8 (R) [(0,.rd (X8 xs))]) ?_ fun a w h=>h
 refine ln 0 fun hl1=>?_
 refine qso tb hJ [0] [_] [_] ?_
 refine Zf (tsq (snK 1 tb Y (Zcv (f:=prC) (xs:=xs) Yl Y Y Y (lb Y) (fun a w h=>(h.get 0 Y)) fun g1 hg1=>?_)))
 refine seK [0,2] U2 Y (nx (cj 0 (fun hb1=>?_) fun hb1=>?_))
 ·
  try simp at hb1
  refine qso tb hJ [1000] [_] [_] ?_
  refine tw (Yd 162 2 hJ) (tw (ob0 (congrArg (fun z'=>OB.row (.slice none 0 0) 162 2 ((z').map prC)) (show([]:List Pr)=xs from by first | exact(hg1 (by assumption)).symm | simp))) ?_)
  exact Zs (fun a w h=>ZK  (m:=0) (.slice none 0 0) Y h Y Y)
 ·
  try simp at hb1
  refine Zb (nx (Zf (fun a w h=>ZcB (id:=3) (t:=70) (e:=162) (size:=2) (bytes:=32) (i0:=0) (fol:=3) (d:=2) (ch:=[(2,(xs.map prC))]) (fun ix'=>([.any,.rd (X8 xs),.any,.any]:List AV).getD ix' .any) (fun _=>true) [] (xs.map prC) yz ?r3_1 hJ hJ0 h Yo Y Y Y Y ⟨?_,?_,?_,?_,U⟩ trivial (fun v2=>?n3_1))))
  case r3_1=>
   refine Row.mk' ZnL ⟨_,Y,Y,Y,Y,Y⟩ ⟨?x3_1_0,U⟩ ⟨_,_,_,_,Y,Y,Y,Y,Y,Y,Y,Y,Y⟩ Y Y Y
   case x3_1_0=>exact⟨_,_,_,_,Y,Y,Y,Y,Y,Y,Y,Y,Zbe (f:=prC) (fun _=>rfl),(by have hm:maxLen=9223372036854775807:=Y;simp[upto];first | omega | (simp;omega)),(by have hm:maxLen=9223372036854775807:=Y;simp[upto];first | omega | (simp;omega)),fun _ _ _ _ _ hl=>(hl.D 1 6 Y Y)⟩
  exact fun h=>Zh Y h
  exact fun _ _=>⟨Y,fun _ _ _ hx hl _=>ZV Y (hl.env 1 0 _ Y Y) hx⟩
  exact fun h=>Zh Y h
  exact fun h=>Zh Y h
  clear a w h
  exact nx (Zs (fun a w h=>ZK  (m:=0) v2 Y h Y Y))
end
theorem ZgU {J:WP} (hJ:Stab J) (v:Value) (xs:List Hy) (f:FuncId) (caps:List AV) (Os Hs:List OB) (p:Hy→Bool) (hf:∀ q',FnR prog J f (Os++Hs) ([.agg (hyC (q'))]++caps) (.bool (p q'))) (hk0:Zi prog f) (hn:xs.length≤9223372036854775807):FnM (ι:=Unit) prog J 182 Hs [.lit v,.fn f caps] (OB.row v 119 3 (xs.map hyC)::Os) (fun _=>.rd (XQ (xs.filter fun x'=>!p x'))) (fun _=>(Os)):=by
 refine fEM Tryz.func182 fun S w0 R hS hJ0 hH=>?_
 refine YS (B:=So J S w0 42 (OB.row v 119 3 (xs.map hyC)::(Os++R)) [(0,.lit v),(1,.fn f caps)]) ?_ fun a w h=>h
 refine qso tb hJ [0,1] [_] U2 ?_
 refine ZsP tb hJ [0,1,1003] [_,_,.int (Qj p xs),_] [2] U3 Y ⟨fun _ _ hk hx hl _=>Y3 (Zdy hJ xs f caps (Os++Hs) p (hf) (hk0)) Zho Y (nm hS hk) (hx.1) (Zg9 (fun _ ho=>ZcF hx (List.mem_cons_of_mem _ (List.mem_append_left _ ho))) (fun _ ho=>ZlS hH hk hx ho)) (Za (XY hS hx (mo 0 Y) (hl.D 0 8 Y Y)) (Za (hl.D 1 9 Y Y) Zc)) (jo hJ hx),U⟩ ?_
 refine Zf (qso tb hJ [0,1,2,1001] U2 U4 ?_)
 refine cj 3 (fun hb1=>?_) fun hb1=>?_
 ·
  have e1:=of_decide_eq_true hb1
  refine qso tb hJ [1001] U2 [_] ?_
  exact tw (fun h=>Ya hS h (m:=0) (s:=4) Y) (Zs (fun a w h=>ZK  (m:=0) () Y h Y (congrArg (fun z=>AV.rd (XQ z)) (show xs=(xs.filter fun x'=>!p x')from by first | exact DelF.none e1 | exact f1_1.fin (by have:=f1_1.len;omega)))))
 ·
  have e1:=of_decide_eq_false hb1
  refine Zb (nx (Zf (tw (sa 2 Y (congrArg AV.int (show Qj p xs=(((Qj p xs).toNat:Nat):Int)from by have:=Q5 e1;omega))) (ZF tb hJ [0,1,2,1002] [_,.int ((Qj p xs).toNat+1:Nat),_] [1] U4 Y ⟨YT (h0:=by have:=(Q5 e1).2.1;omega),U⟩ ?_))))
  refine Zd (lpo (ι:=Nat×Nat×(List Hy)×Value) (fun(i,j,ys,_)=>(DelF p xs ys i j)) (fun(_,_,ys,vo)=>(OB.row vo 119 3 (ys.map hyC)::(Os++R))) (fun(i,j,_,vo)=>[(5,.int (i:Nat)),(6,.int (j:Nat)),(0,.lit vo)]) (fun(_,j,_,_)=>xs.length-j) [1,2,3,0] [_] ((Qj p xs).toNat,(Qj p xs).toNat+1,xs,v) (show(DelF p xs xs ((Qj p xs).toNat) ((Qj p xs).toNat+1))from DelF.init e1) ?_)
  rintro⟨i,j,ys,vo⟩ hF
  have f1_1:DelF p xs ys i j:=hF
  refine Zf (ZsP tb hJ [0,1,2,3,1003] [_,_,.int (ys.length:Nat),_] [2] U5 Y ⟨fun _ _ _ hx hl _=>Qw ZC Y (XY hS hx (mo 0 Y) (hl.D 1 17 Y Y)) hx,U⟩ ?_)
  refine cj 4 (fun hb2=>?_) fun hb2=>?_
  ·
   try simp at hb2
   refine Zb (nx (Zf (Zd (tsq (snK 2 tb Y (sy (.lit (YG vo (j*3))) (fun h=>ZU (i:=(j:Int)) ZI Y (Ze h.x (mo 0 Y)) (h.get 1 Y) (h.get 0 Y) nnn (by rw[List.length_map];exact Int.ofNat_lt.2 oz) h.x) ?_))))))
   refine sy (.agg (hyC (ge ys j))) (fun h=>XL (i:=j) Za2 Y (Ze h.x (mo 0 Y)) (h.get 0 Y) (Qc (xs:=ys) (k:=j) oz) Y h.x) ?_
   refine Qk (cs:=hyC (ge ys j)) ZaG Y Y Y (lb Y) Y Y Y dz (m:=0) Y Y (fun a w h=>Zk hS _ h.keep h.x _ nlr) (fun a w h w' hk'=>Yw hJ _ _ hk' h.x) ?_
   refine seK [0,5,6,7,8] U5 Y (nx (ZF tb hJ (r5 [1003]) [_,_,.bool (p (ge ys j)),_] [2] U6 Y ⟨fun _ _ hk hx hl _=>Zax (hf (ge ys j)) hk0 Y (hl.D 0 26 Y Y) (Zk hS _ hk hx) (hx.1) (Zg9 (fun _ ho=>Ze hx (List.mem_cons_of_mem _ (List.mem_append_left _ ho))) (fun _ ho=>ZJ hH hk hx ho)) (Za (hl.D 1 27 Y Y) Zc) (jo hJ hx),U⟩ ?_))
   refine cj 5 (fun hb3=>?_) fun hb3=>?_
   ·
    try simp at hb3
    refine tsq (snK 3 tb Y (sy (.lit (YG vo (i*3))) (fun h=>ZU (i:=(i:Int)) ZI Y (Ze h.x (mo 0 Y)) (h.get 2 Y) (h.get 1 Y) nnn (by rw[List.length_map];exact Int.ofNat_lt.2 (by have:=f1_1.le;omega)) h.x) ?_))
    refine Zak (i:=i) hJ hJ0 YQ Y Y Y (by rw[List.length_map];exact(by have:=f1_1.le;omega)) Y (fun a w h=>⟨(h.get 0 Y),(h.get 1 Y)⟩) ?_
    rw[show(ys.map hyC).set i (hyC (ge ys j))=(ys.set i (ge ys j)).map hyC from List.map_set.symm]
    refine seK [5,6,7,8] U4 Y (nx (YU tb hJ [0,2,3,1002] [_,.int (i+1:Nat),_] [1] U4 Y ⟨YT (h0:=by have:=f1_1.le;have:=f1_1.len;omega),U⟩ ?_))
    refine nx (YU tb hJ [0,2,3,1002] [_,.int (j+1:Nat),_] [1] U4 Y ⟨YT (h0:=by have:=f1_1.lt;have:=f1_1.len;omega),U⟩ ?_)
    exact Xk (i+1,j+1,ys.set i (ge ys j),vo) [0,2,3,1] (show(DelF p xs (ys.set i (ge ys j)) (i+1) (j+1))from f1_1.keep (by have:=f1_1.len;omega) (by simpa using hb3)) (hm:=(show xs.length-(j+1)<xs.length-j from by have:=f1_1.lt;have:=f1_1.len;omega))
   ·
    try simp at hb3
    refine Zb (nx (YU tb hJ [1,2,4,1002] [_,.int (j+1:Nat),_] [1] U4 Y ⟨YT (h0:=by have:=f1_1.lt;have:=f1_1.len;omega),U⟩ ?_))
    exact Xk (i,j+1,ys,vo) [0,1,3,2] (show(DelF p xs ys i (j+1))from f1_1.skip (by have:=f1_1.len;omega) (by simpa using hb3)) (hm:=(show xs.length-(j+1)<xs.length-j from by have:=f1_1.lt;have:=f1_1.len;omega))
  ·
   try simp at hb2
   refine Zu (nx (tsq (snK 2 tb Y (sy (.lit (ZhX vo i 3)) (fun h=>Zln (lo:=i) ZI Y (Ze h.x (mo 0 Y)) (h.get 1 Y) (h.get 0 Y) (by rw[List.length_map];exact(by have:=f1_1.le;have:=f1_1.lt;have:=f1_1.len;omega)) h.x) ?_))))
   refine ZgB (lo:=i) ZjB ZC dz hJ hJ0 Y Y Y (by rw[List.length_map];exact(by have:=f1_1.le;have:=f1_1.lt;have:=f1_1.len;omega)) (fun a w h=>(h.get 0 Y)) ?_
   rw[←List.map_take]
   refine seK [4,6] U2 Y (nx (ZF tb hJ [1003] [_,_,.lit (Zaf vo i),_] [2] [_] Y ⟨fun _ _ _ hx hl _=>Zez (m:=i) ZI Y (Ze hx (mo 0 Y)) (by first | rfl | (rw[List.length_map];exact(by have:=f1_1.le;have:=f1_1.lt;have:=f1_1.len;simp;omega))) (hl.D 0 39 Y Y) (hl.D 1 40 Y Y) hx,U⟩ ?_))
   exact tw (fun h=>Ya hS h (m:=0) (s:=4) Y) (Zs (fun a w h=>ZK  (m:=0) () Y h Y (congrArg (fun z=>AV.rd (XQ z)) (show(ys.take i)=(xs.filter fun x'=>!p x')from by first | exact DelF.none e1 | exact f1_1.fin (by have:=f1_1.len;omega)))))
theorem ZgT {J:WP} (hJ:Stab J) (v:Value) (xs:List Pr) (f:FuncId) (caps:List AV) (Os Hs:List OB) (p:Pr→Bool) (hf:∀ q',FnR prog J f (Os++Hs) ([.agg (prC (q'))]++caps) (.bool (p q'))) (hk0:Zi prog f) (hn:xs.length≤9223372036854775807):FnM (ι:=Unit) prog J 242 Hs [.lit v,.fn f caps] (OB.row v 162 2 (xs.map prC)::Os) (fun _=>.rd (X8 (xs.filter fun x'=>!p x'))) (fun _=>(Os)):=by
 refine fEM Tryz.func242 fun S w0 R hS hJ0 hH=>?_
 refine YS (B:=So J S w0 42 (OB.row v 162 2 (xs.map prC)::(Os++R)) [(0,.lit v),(1,.fn f caps)]) ?_ fun a w h=>h
 refine qso tb hJ [0,1] [_] U2 ?_
 refine ZsP tb hJ [0,1,1003] [_,_,.int (Qj p xs),_] [2] U3 Y ⟨fun _ _ hk hx hl _=>Y3 (Zin hJ xs f caps (Os++Hs) p (hf) (hk0)) Ztq Y (nm hS hk) (hx.1) (Zg9 (fun _ ho=>ZcF hx (List.mem_cons_of_mem _ (List.mem_append_left _ ho))) (fun _ ho=>ZlS hH hk hx ho)) (Za (XY hS hx (mo 0 Y) (hl.D 0 8 Y Y)) (Za (hl.D 1 9 Y Y) Zc)) (jo hJ hx),U⟩ ?_
 refine Zf (qso tb hJ [0,1,2,1001] U2 U4 ?_)
 refine cj 3 (fun hb1=>?_) fun hb1=>?_
 ·
  have e1:=of_decide_eq_true hb1
  refine qso tb hJ [1001] U2 [_] ?_
  exact tw (fun h=>Ya hS h (m:=0) (s:=4) Y) (Zs (fun a w h=>ZK  (m:=0) () Y h Y (congrArg (fun z=>AV.rd (X8 z)) (show xs=(xs.filter fun x'=>!p x')from by first | exact DelF.none e1 | exact f1_1.fin (by have:=f1_1.len;omega)))))
 ·
  have e1:=of_decide_eq_false hb1
  refine Zb (nx (Zf (tw (sa 2 Y (congrArg AV.int (show Qj p xs=(((Qj p xs).toNat:Nat):Int)from by have:=Q5 e1;omega))) (ZF tb hJ [0,1,2,1002] [_,.int ((Qj p xs).toNat+1:Nat),_] [1] U4 Y ⟨YT (h0:=by have:=(Q5 e1).2.1;omega),U⟩ ?_))))
  refine Zd (lpo (ι:=Nat×Nat×(List Pr)×Value) (fun(i,j,ys,_)=>(DelF p xs ys i j)) (fun(_,_,ys,vo)=>(OB.row vo 162 2 (ys.map prC)::(Os++R))) (fun(i,j,_,vo)=>[(5,.int (i:Nat)),(6,.int (j:Nat)),(0,.lit vo)]) (fun(_,j,_,_)=>xs.length-j) [1,2,3,0] [_] ((Qj p xs).toNat,(Qj p xs).toNat+1,xs,v) (show(DelF p xs xs ((Qj p xs).toNat) ((Qj p xs).toNat+1))from DelF.init e1) ?_)
  rintro⟨i,j,ys,vo⟩ hF
  have f1_1:DelF p xs ys i j:=hF
  refine Zf (ZsP tb hJ [0,1,2,3,1003] [_,_,.int (ys.length:Nat),_] [2] U5 Y ⟨fun _ _ _ hx hl _=>Qw Yl Y (XY hS hx (mo 0 Y) (hl.D 1 17 Y Y)) hx,U⟩ ?_)
  refine cj 4 (fun hb2=>?_) fun hb2=>?_
  ·
   try simp at hb2
   refine Zb (nx (Zf (Zd (tsq (snK 2 tb Y (sy (.lit (YG vo (j*2))) (fun h=>ZU (i:=(j:Int)) ZE Y (Ze h.x (mo 0 Y)) (h.get 1 Y) (h.get 0 Y) nnn (by rw[List.length_map];exact Int.ofNat_lt.2 oz) h.x) ?_))))))
   refine sy (.agg (prC (ge ys j))) (fun h=>XL (i:=j) Xt Y (Ze h.x (mo 0 Y)) (h.get 0 Y) (Qc (xs:=ys) (k:=j) oz) Y h.x) ?_
   refine Qk (cs:=prC (ge ys j)) Zeg Y Y Y (lb Y) Y Y Y dz (m:=0) Y Y (fun a w h=>Zk hS _ h.keep h.x _ nlr) (fun a w h w' hk'=>Yw hJ _ _ hk' h.x) ?_
   refine seK [0,5,6,7,8] U5 Y (nx (ZF tb hJ (r5 [1003]) [_,_,.bool (p (ge ys j)),_] [2] U6 Y ⟨fun _ _ hk hx hl _=>Zax (hf (ge ys j)) hk0 Y (hl.D 0 26 Y Y) (Zk hS _ hk hx) (hx.1) (Zg9 (fun _ ho=>Ze hx (List.mem_cons_of_mem _ (List.mem_append_left _ ho))) (fun _ ho=>ZJ hH hk hx ho)) (Za (hl.D 1 27 Y Y) Zc) (jo hJ hx),U⟩ ?_))
   refine cj 5 (fun hb3=>?_) fun hb3=>?_
   ·
    try simp at hb3
    refine tsq (snK 3 tb Y (sy (.lit (YG vo (i*2))) (fun h=>ZU (i:=(i:Int)) ZE Y (Ze h.x (mo 0 Y)) (h.get 2 Y) (h.get 1 Y) nnn (by rw[List.length_map];exact Int.ofNat_lt.2 (by have:=f1_1.le;omega)) h.x) ?_))
    refine Zak (i:=i) hJ hJ0 Xj Y Y Y (by rw[List.length_map];exact(by have:=f1_1.le;omega)) Y (fun a w h=>⟨(h.get 0 Y),(h.get 1 Y)⟩) ?_
    rw[show(ys.map prC).set i (prC (ge ys j))=(ys.set i (ge ys j)).map prC from List.map_set.symm]
    refine seK [5,6,7,8] U4 Y (nx (YU tb hJ [0,2,3,1002] [_,.int (i+1:Nat),_] [1] U4 Y ⟨YT (h0:=by have:=f1_1.le;have:=f1_1.len;omega),U⟩ ?_))
    refine nx (YU tb hJ [0,2,3,1002] [_,.int (j+1:Nat),_] [1] U4 Y ⟨YT (h0:=by have:=f1_1.lt;have:=f1_1.len;omega),U⟩ ?_)
    exact Xk (i+1,j+1,ys.set i (ge ys j),vo) [0,2,3,1] (show(DelF p xs (ys.set i (ge ys j)) (i+1) (j+1))from f1_1.keep (by have:=f1_1.len;omega) (by simpa using hb3)) (hm:=(show xs.length-(j+1)<xs.length-j from by have:=f1_1.lt;have:=f1_1.len;omega))
   ·
    try simp at hb3
    refine Zb (nx (YU tb hJ [1,2,4,1002] [_,.int (j+1:Nat),_] [1] U4 Y ⟨YT (h0:=by have:=f1_1.lt;have:=f1_1.len;omega),U⟩ ?_))
    exact Xk (i,j+1,ys,vo) [0,1,3,2] (show(DelF p xs ys i (j+1))from f1_1.skip (by have:=f1_1.len;omega) (by simpa using hb3)) (hm:=(show xs.length-(j+1)<xs.length-j from by have:=f1_1.lt;have:=f1_1.len;omega))
  ·
   try simp at hb2
   refine Zu (nx (tsq (snK 2 tb Y (sy (.lit (ZhX vo i 2)) (fun h=>Zln (lo:=i) ZE Y (Ze h.x (mo 0 Y)) (h.get 1 Y) (h.get 0 Y) (by rw[List.length_map];exact(by have:=f1_1.le;have:=f1_1.lt;have:=f1_1.len;omega)) h.x) ?_))))
   refine ZgB (lo:=i) Zed Yl dz hJ hJ0 Y Y Y (by rw[List.length_map];exact(by have:=f1_1.le;have:=f1_1.lt;have:=f1_1.len;omega)) (fun a w h=>(h.get 0 Y)) ?_
   rw[←List.map_take]
   refine seK [4,6] U2 Y (nx (ZF tb hJ [1003] [_,_,.lit (Zaf vo i),_] [2] [_] Y ⟨fun _ _ _ hx hl _=>Zez (m:=i) ZE Y (Ze hx (mo 0 Y)) (by first | rfl | (rw[List.length_map];exact(by have:=f1_1.le;have:=f1_1.lt;have:=f1_1.len;simp;omega))) (hl.D 0 39 Y Y) (hl.D 1 40 Y Y) hx,U⟩ ?_))
   exact tw (fun h=>Ya hS h (m:=0) (s:=4) Y) (Zs (fun a w h=>ZK  (m:=0) () Y h Y (congrArg (fun z=>AV.rd (X8 z)) (show(ys.take i)=(xs.filter fun x'=>!p x')from by first | exact DelF.none e1 | exact f1_1.fin (by have:=f1_1.len;omega)))))
end Go.Proofs.YtdfadihhfppjaaaGreatDoor
