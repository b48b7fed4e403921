/-
  FACTS of the program's types and functions.
  CONTRACTS: small functions of the references that only read.
  CONTRACTS: functions of the references on hypotheses and frames.
  CONTRACTS: labels, pairs and hypotheses of the references.
  CONTRACTS: hypotheses of the references.
  CONTRACTS: the check of a database by the reference.
  CONTRACTS: the check of a database by the reference, whole.
  CONTRACTS of the program: look-ups, functions that take functions.
  CONTRACTS of the library: slices' functions.
  CONTRACTS of the library: slices.DeleteFunc.
-/
import Derived.Test.YtneapgbkkkjagaaGreatDoorQQ
import Derived.Laws.StructEq
set_option maxHeartbeats 8000000
set_option maxRecDepth 100000
namespace Go.Proofs.YtneapgbkkkjagaaGreatDoor
open Go.Proofs.Tryz (prog)
open Go.RowKit
theorem YC:prog.follows .mixedOrders=true:=by kernel_rfl
theorem ZnM:(prog.fieldsOf 104).toList=[{ name:= "A",type:=9,offset:=0,embedded:=false,tag:= "",pkgPath:= "",byteOffset:=0 }, { name:= "B",type:=9,offset:=1,embedded:=false,tag:= "",pkgPath:= "",byteOffset:=16 }]:=by kernel_rfl
theorem ZnK:prog.underlying 104=some (.struct (prog.fieldsOf 104)):=by kernel_rfl
theorem Zs6:prog.underlying 9=some .string:=by kernel_rfl
theorem Zhp (c:Array Value) (i:Nat) (v:Value) (h:c[i]?=some v) (w:World):(part 9 c i).run prog w= .ok v w:=by
 simp[part,Tryz.isAgg9,h]
theorem Zf0:ZpV prog 104:=by
 intro a b c d w x y
 refine⟨by simp[eqGuard],by simp[eqGuard],?_⟩
 unfold Op.equal Op.maxDepth
 rw[run_equalIn_struct w 9999 104 _ _ ZnK (by kernel_rfl),ZnM]
 have e1:=fun(c:Array Value) (v:Value) (i:Nat) (h:c[i]?=some v)=>Zhp c i v h
 have q1:=run_equalIn_string (P:=prog) w 9998 9 a c Zs6
 have q2:=run_equalIn_string (P:=prog) w 9998 9 b d Zs6
 rw[Za4]at q1 q2
 simp only[Op.eqFields]
 rw[if_pos (by decide),if_pos (by decide)]
 simp only[Sem.run_bind]
 rw[e1 _ (.string a) 0 rfl w,Result.andThen_ok,e1 _ (.string c) 0 rfl w,Result.andThen_ok,q1,Result.andThen_ok]
 by_cases h1:a=c
 · simp only[h1,decide_true,Bool.not_true,Bool.false_eq_true,if_false,Sem.run_bind]
   rw[e1 _ (.string b) 1 rfl w,Result.andThen_ok,e1 _ (.string d) 1 rfl w,Result.andThen_ok,q2,Result.andThen_ok]
   by_cases h2:b=d
   · simp[h2,Sem.run_pure]
   · simp[h2,Sem.run_pure]
 · simp[h1,Sem.run_pure]
theorem Zm:prog.underlying 22=some (.slice 9):=by kernel_rfl
theorem Zd:Yv prog 22 9 1:=⟨by kernel_rfl,fun w=>by kernel_rfl⟩
theorem QP:Q3 prog 9:=fun w=>by kernel_rfl
theorem ZL:prog.underlying 57=some (.slice 104):=by kernel_rfl
theorem Zu:Yv prog 57 104 2:=⟨by kernel_rfl,fun w=>by kernel_rfl⟩
theorem YN:XV prog 104 2:=⟨fun w=>by kernel_rfl,fun w=>by kernel_rfl⟩
theorem ZX:prog.underlying 9=some .string:=by kernel_rfl
theorem ZrZ:Zl prog 162:=Zs Tryz.func162 rfl rfl
theorem Zso:Zl prog 132:=Zs Tryz.func132 rfl rfl
theorem Zai:ZV prog 59 2 2:=fun b off w=>by kernel_rfl
theorem ZdK:Q3 prog 56:=fun w=>by kernel_rfl
theorem Zme:ZV prog 59 5 5:=fun b off w=>by kernel_rfl
theorem QY:Zgc prog 56 61 3 48:=Zp2 (.agg #[.string ⟨#[]⟩,.bool false,.slice none 0 0]) (by kernel_rfl) (by kernel_rfl) rfl (by decide) (fun w=>by kernel_rfl)
theorem ZgV:Zl prog 91:=Zs Tryz.func91 rfl rfl
theorem Zn9:Q3 prog 4:=fun w=>by kernel_rfl
theorem Zah:ZV prog 61 2 2:=fun b off w=>by kernel_rfl
theorem XI:Q3 prog 22:=fun w=>by kernel_rfl
theorem XW:Zl prog 90:=Zs Tryz.func90 rfl rfl
theorem Zb7:ZV prog 61 0 0:=fun b off w=>by kernel_rfl
theorem Zs5:prog.underlying 4=some .bool:=by kernel_rfl
theorem ZrY:Zl prog 163:=Zs Tryz.func163 rfl rfl
theorem ZfY:ZV prog 25 1 1:=fun b off w=>by kernel_rfl
theorem Zee:XV prog 25 3:=⟨fun w=>by kernel_rfl,fun w=>by kernel_rfl⟩
theorem Zjv:Zl prog 93:=Zs Tryz.func93 rfl rfl
theorem Zav:ZV prog 104 0 0:=fun b off w=>by kernel_rfl
theorem Zau:ZV prog 104 1 1:=fun b off w=>by kernel_rfl
theorem Zgd:Zcw prog 104:=⟨.agg #[.string ⟨#[]⟩,.string ⟨#[]⟩],fun w=>by kernel_rfl⟩
theorem Zcb:Zgc prog 57 104 2 32:=Zp2 (.agg #[.string ⟨#[]⟩,.string ⟨#[]⟩]) (by kernel_rfl) (by kernel_rfl) rfl (by decide) (fun w=>by kernel_rfl)
theorem Qy:prog.underlying 45=some (.slice 22):=by kernel_rfl
theorem ZH:Yv prog 45 22 1:=⟨by kernel_rfl,fun w=>by kernel_rfl⟩
theorem ZaT:Zcw prog 9:=⟨.string ⟨#[]⟩,fun w=>by kernel_rfl⟩
theorem Xh:Zgc prog 22 9 1 16:=Zp2 (.string ⟨#[]⟩) (by kernel_rfl) (by kernel_rfl) rfl (by decide) (fun w=>by kernel_rfl)
theorem Zx:prog.underlying 56=some (.slice 61):=by kernel_rfl
theorem Zq:Yv prog 56 61 3:=⟨by kernel_rfl,fun w=>by kernel_rfl⟩
theorem Za8:Zcw prog 22:=⟨.slice none 0 0,fun w=>by kernel_rfl⟩
theorem QZ:Zgc prog 45 22 1 24:=Zp2 (.slice none 0 0) (by kernel_rfl) (by kernel_rfl) rfl (by decide) (fun w=>by kernel_rfl)
theorem QG:ZV prog 25 2 2:=fun b off w=>by kernel_rfl
theorem Zey:Q3 prog 23:=fun w=>by kernel_rfl
theorem ZS:Yv prog 23 59 8:=⟨by kernel_rfl,fun w=>by kernel_rfl⟩
theorem Zhc:XV prog 59 8:=⟨fun w=>by kernel_rfl,fun w=>by kernel_rfl⟩
theorem Zpe:Zl prog 99:=Zs Tryz.func99 rfl rfl
theorem Zdx:ZV prog 59 0 0:=fun b off w=>by kernel_rfl
theorem ZgU:Zl prog 94:=Zs Tryz.func94 rfl rfl
theorem ZrO:Zl prog 184:=Zs Tryz.func184 rfl rfl
theorem Zk7:Zl prog 164:=Zs Tryz.func164 rfl rfl
theorem Zjw:Zl prog 92:=Zs Tryz.func92 rfl rfl
theorem Zpf:Zl prog 96:=Zs Tryz.func96 rfl rfl
theorem XU:XV prog 61 3:=⟨fun w=>by kernel_rfl,fun w=>by kernel_rfl⟩
theorem Zc4:Zl prog 133:=Zs Tryz.func133 rfl rfl
theorem Zeb:Zl prog 134:=Zs Tryz.func134 rfl rfl
theorem ZfV:ZV prog 59 4 4:=fun b off w=>by kernel_rfl
theorem Zsm:Zl prog 136:=Zs Tryz.func136 rfl rfl
theorem Zsn:Zl prog 135:=Zs Tryz.func135 rfl rfl
theorem ZfU:ZV prog 59 6 6:=fun b off w=>by kernel_rfl
theorem Zks:Q3 prog 57:=fun w=>by kernel_rfl
theorem ZcA:Zs2 prog 104 2:=⟨(#[.string ⟨#[]⟩,.string ⟨#[]⟩]),rfl,by kernel_rfl⟩
theorem Zsl:Zl prog 138:=Zs Tryz.func138 rfl rfl
theorem Zk9:Zl prog 137:=Zs Tryz.func137 rfl rfl
theorem ZfW:ZV prog 59 3 3:=fun b off w=>by kernel_rfl
theorem Zsk:Zl prog 139:=Zs Tryz.func139 rfl rfl
theorem Zpg:Zl prog 89:=Zs Tryz.func89 rfl rfl
theorem ZdY:Zs2 prog 59 8:=⟨(#[.string ⟨#[]⟩,.bool false,.slice none 0 0,.slice none 0 0,.slice none 0 0,.slice none 0 0,.slice none 0 0,.slice none 0 0]),rfl,by kernel_rfl⟩
theorem Zvy:Zl prog 95:=Zs Tryz.func95 rfl rfl
theorem Zvx:Zl prog 97:=Zs Tryz.func97 rfl rfl
theorem ZfT:ZV prog 59 7 7:=fun b off w=>by kernel_rfl
theorem Zvw:Zl prog 98:=Zs Tryz.func98 rfl rfl
theorem ZsI:Zl prog 101:=Zs Tryz.func101 rfl rfl
theorem ZsJ:Zl prog 100:=Zs Tryz.func100 rfl rfl
theorem Xv:prog.underlying 23=some (.slice 59):=by kernel_rfl
theorem ZvS:Zl prog 52:=Zs Tryz.func52 rfl rfl
theorem ZvR:Zl prog 53:=Zs Tryz.func53 rfl rfl
theorem Zts:Q3 prog 91:=fun w=>by kernel_rfl
theorem Yd:Zms prog 91 9 4 keyS.kind:=⟨by kernel_rfl,by kernel_rfl⟩
theorem Yf:ZiD prog 4 (.bool false):=⟨(.bool false),fun w=>by kernel_rfl,fun S w=>Rel.of_lit _⟩
theorem Zma:ZV prog 95 1 1:=fun b off w=>by kernel_rfl
theorem ZhS:Q3 prog 89:=fun w=>by kernel_rfl
theorem ZgX:Zl prog 75:=Zs Tryz.func75 rfl rfl
theorem Zv5:Zl prog 31:=Zs Tryz.func31 rfl rfl
theorem Zpp:Zl prog 48:=Zs Tryz.func48 rfl rfl
theorem ZvV:Zl prog 47:=Zs Tryz.func47 rfl rfl
theorem ZbX:Zs2 prog 61 3:=⟨(#[.string ⟨#[]⟩,.bool false,.slice none 0 0]),rfl,by kernel_rfl⟩
theorem YL:Qi prog 61 3:=fun w=>by kernel_rfl
theorem Zlg:Zfu prog 61 3:=⟨(.agg #[.string ⟨#[]⟩,.bool false,.slice none 0 0]),fun w=>by kernel_rfl,rfl,by simp[Value.cells,Value.oneCell']⟩
theorem ZrR:Zl prog 179:=Zs Tryz.func179 rfl rfl
theorem YK:Qi prog 104 2:=fun w=>by kernel_rfl
theorem Zeg:Zfu prog 104 2:=⟨(.agg #[.string ⟨#[]⟩,.string ⟨#[]⟩]),fun w=>by kernel_rfl,rfl,by simp[Value.cells,Value.oneCell']⟩
theorem Zk8:Zl prog 155:=Zs Tryz.func155 rfl rfl
theorem Zpw:Zl prog 24:=Zs Tryz.func24 rfl rfl
theorem Zr4:Zl prog 157:=Zs Tryz.func157 rfl rfl
theorem ZvO:Zl prog 62:=Zs Tryz.func62 rfl rfl
theorem Zr5:Zl prog 156:=Zs Tryz.func156 rfl rfl
theorem Zvz:Zl prog 88:=Zs Tryz.func88 rfl rfl
theorem ZvP:Zl prog 61:=Zs Tryz.func61 rfl rfl
theorem ZvA:Zl prog 87:=Zs Tryz.func87 rfl rfl
theorem YJ:Zhh prog 61 [.lit (.string ⟨#[]⟩),.lit (.bool false),.sl []]:=⟨(.agg #[.string ⟨#[]⟩,.bool false,.slice none 0 0]),fun w=>by kernel_rfl,fun S w=>(show RdL S w [.lit (.string ⟨#[]⟩),.lit (.bool false),.sl []] [.string ⟨#[]⟩,.bool false,.slice none 0 0]from⟨.lit _ (Nat.zero_le _),.lit _ True.intro,.nil _ _ (Nat.zero_le _),trivial⟩)⟩
theorem Zpr:Zl prog 42:=Zs Tryz.func42 rfl rfl
theorem Zho:Qi prog 22 1:=fun w=>by kernel_rfl
theorem Zsv:Zl prog 125:=Zs Tryz.func125 rfl rfl
theorem Ze6:Zl prog 7:=Zs Tryz.func7 rfl rfl
theorem ZcD:Zhh prog 193 ((List.replicate 256 (0:UInt8)).map u8D):=Zqb (.agg (Array.replicate 256 (.int .u8 0))) (fun w=>by kernel_rfl) (by simp[Value.cells])
theorem Qb:prog.underlying 3=some (.int .i64):=by kernel_rfl
theorem ZbB:prog.underlying 5=some (.int .u8):=by kernel_rfl
theorem X5:ArrT prog 193 5 256:=⟨by kernel_rfl,fun w=>by kernel_rfl,by decide⟩
theorem Zd2:Qi prog 5 1:=fun w=>by kernel_rfl
theorem Zfg:XV prog 193 256:=⟨fun w=>by kernel_rfl,fun w=>by kernel_rfl⟩
theorem ZdF:Qi prog 193 256:=fun w=>by kernel_rfl
theorem Zln:prog.underlying 192=some (.slice 5):=by kernel_rfl
theorem ZbQ:Yv prog 192 5 1:=⟨by kernel_rfl,fun w=>by kernel_rfl⟩
theorem one_5:Q3 prog 5:=fun w=>by kernel_rfl
theorem ZrS:Zl prog 177:=Zs Tryz.func177 rfl rfl
theorem Zr7:Zl prog 153:=Zs Tryz.func153 rfl rfl
theorem Zr6:Zl prog 154:=Zs Tryz.func154 rfl rfl
theorem zero_5:Zcw prog 5:=⟨.int .u8 0,fun w=>by kernel_rfl⟩
theorem Zlb:Zl prog 122:=Zs Tryz.func122 rfl rfl
theorem ZmA:Zfu prog 5 1:=⟨(.int .u8 0),fun w=>by kernel_rfl,rfl,by simp[Value.cells,Value.oneCell']⟩
theorem Zk3:Zl prog 182:=Zs Tryz.func182 rfl rfl
theorem Zjx:Zl prog 74:=Zs Tryz.func74 rfl rfl
theorem ZrP:Zl prog 183:=Zs Tryz.func183 rfl rfl
theorem Zk4:Zl prog 181:=Zs Tryz.func181 rfl rfl
theorem ZaW:Q3 prog 3:=fun w=>by kernel_rfl
theorem ZbC:prog.underlying 229=some (.array 10 228):=by kernel_rfl
theorem ZbZ:Qi prog 228 4:=fun w=>by kernel_rfl
theorem ZiB:XV prog 228 4:=⟨fun w=>by kernel_rfl,fun w=>by kernel_rfl⟩
theorem ZcC:Zhh prog 228 [.lit (.string ⟨#[]⟩),.lit (.bool false),.lit (.int .i64 0),.lit (.int .i64 0)]:=⟨(.agg #[.string ⟨#[]⟩,.bool false,.int .i64 0,.int .i64 0]),fun w=>by kernel_rfl,fun S w=>(show RdL S w [.lit (.string ⟨#[]⟩),.lit (.bool false),.lit (.int .i64 0),.lit (.int .i64 0)] [.string ⟨#[]⟩,.bool false,.int .i64 0,.int .i64 0]from⟨.lit _ (Nat.zero_le _),.lit _ True.intro,.lit _ True.intro,.lit _ True.intro,trivial⟩)⟩
theorem ZgW:Zl prog 76:=Zs Tryz.func76 rfl rfl
theorem Zjm:ZV prog 177 2 2:=fun b off w=>by kernel_rfl
theorem Zjl:ZV prog 177 3 3:=fun b off w=>by kernel_rfl
theorem Zr1:Zl prog 160:=Zs Tryz.func160 rfl rfl
theorem Zbz:prog.underlying 178=some (.slice 177):=by kernel_rfl
theorem ZaP:Yv prog 178 177 4:=⟨by kernel_rfl,fun w=>by kernel_rfl⟩
theorem ZrQ:Zl prog 180:=Zs Tryz.func180 rfl rfl
theorem Zjk:ZV prog 228 0 0:=fun b off w=>by kernel_rfl
theorem Zr2:Zl prog 159:=Zs Tryz.func159 rfl rfl
theorem Zr3:Zl prog 158:=Zs Tryz.func158 rfl rfl
theorem ZmK:Zs2 prog 177 4:=⟨(#[.int .i64 0,.string ⟨#[]⟩,.slice none 0 0,.slice none 0 0]),rfl,by kernel_rfl⟩
theorem Zr0:Zl prog 161:=Zs Tryz.func161 rfl rfl
theorem ZjE:ZbV prog 177 4:=⟨#[.int .i64 0,.string ⟨#[]⟩,.slice none 0 0,.slice none 0 0],rfl,fun i=>(#[(0,1),(1,1),(2,1),(3,1)]:Array (Nat×Nat))[i]?,fun j hj=>by rcases j with _ | _ | _ | _ | j<;>first | rfl | omega,fun parts=>by kernel_rfl⟩
theorem Zp5:Zcw prog 177:=⟨.agg #[.int .i64 0,.string ⟨#[]⟩,.slice none 0 0,.slice none 0 0],fun w=>by kernel_rfl⟩
theorem Zsp:Zl prog 131:=Zs Tryz.func131 rfl rfl
theorem Zl9:ZV prog 95 2 2:=fun b off w=>by kernel_rfl
theorem ZeS:ZV prog 128 1 1:=fun b off w=>by kernel_rfl
theorem Zn8:Q3 prog 93:=fun w=>by kernel_rfl
theorem Zbf:Zms prog 93 9 9 keyS.kind:=⟨by kernel_rfl,by kernel_rfl⟩
theorem Zeh:ZiD prog 9 (.str default):=⟨(.string ⟨#[]⟩),fun w=>by kernel_rfl,fun S w=>(show Rel S w (.str ⟨#[]⟩) _ from Rel.of_lit _ (Nat.zero_le _))⟩
theorem Zl8:ZV prog 95 4 4:=fun b off w=>by kernel_rfl
theorem Za2:ZV prog 95 3 3:=fun b off w=>by kernel_rfl
theorem ZhR:Q3 prog 92:=fun w=>by kernel_rfl
theorem QQ:Zms prog 92 9 61 keyS.kind:=⟨by kernel_rfl,by kernel_rfl⟩
theorem Za9:ZiD prog 61 (.agg (hyC default)):=⟨(.agg #[.string ⟨#[]⟩,.bool false,.slice none 0 0]),fun w=>by kernel_rfl,fun S w=>(show Rel S w (.agg [.lit (.string ⟨#[]⟩),.lit (.bool false),.sl []]) _ from(by simp only[Rel];exact⟨[.string ⟨#[]⟩,.bool false,.slice none 0 0],rfl,.lit _ (Nat.zero_le _),.lit _ True.intro,.nil _ _ (Nat.zero_le _),trivial⟩))⟩
theorem Zla:Zl prog 124:=Zs Tryz.func124 rfl rfl
theorem Zpi:Zl prog 79:=Zs Tryz.func79 rfl rfl
theorem Zst:Zl prog 127:=Zs Tryz.func127 rfl rfl
theorem Zsu:Zl prog 126:=Zs Tryz.func126 rfl rfl
theorem ZiM:prog.underlying 91=some (.map 9 4):=by kernel_rfl
theorem XH:Zhh prog 104 [.lit (.string ⟨#[]⟩),.lit (.string ⟨#[]⟩)]:=⟨(.agg #[.string ⟨#[]⟩,.string ⟨#[]⟩]),fun w=>by kernel_rfl,fun S w=>(show RdL S w [.lit (.string ⟨#[]⟩),.lit (.string ⟨#[]⟩)] [.string ⟨#[]⟩,.string ⟨#[]⟩]from⟨.lit _ (Nat.zero_le _),.lit _ (Nat.zero_le _),trivial⟩)⟩
theorem Zss:Zl prog 128:=Zs Tryz.func128 rfl rfl
theorem Zsq:Zl prog 130:=Zs Tryz.func130 rfl rfl
theorem Zsr:Zl prog 129:=Zs Tryz.func129 rfl rfl
theorem ZvE:Zl prog 82:=Zs Tryz.func82 rfl rfl
theorem Zel:prog.underlying 167=some (.slice 56):=by kernel_rfl
theorem Zaa:Yv prog 167 56 1:=⟨by kernel_rfl,fun w=>by kernel_rfl⟩
theorem Zsw:Zl prog 123:=Zs Tryz.func123 rfl rfl
theorem ZiL:prog.underlying 93=some (.map 9 9):=by kernel_rfl
theorem ZvF:Zl prog 81:=Zs Tryz.func81 rfl rfl
theorem ZvC:Zl prog 84:=Zs Tryz.func84 rfl rfl
theorem ZjF:ZbV prog 128 2:=⟨#[.map none,.map none],rfl,fun i=>(#[(0,1),(1,1)]:Array (Nat×Nat))[i]?,fun j hj=>by rcases j with _ | _ | j<;>first | rfl | omega,fun parts=>by kernel_rfl⟩
theorem ZiK:Zhh prog 128 [.lit (.map none),.lit (.map none)]:=⟨(.agg #[.map none,.map none]),fun w=>by kernel_rfl,fun S w=>(show RdL S w [.lit (.map none),.lit (.map none)] [.map none,.map none]from⟨.lit _ True.intro,.lit _ True.intro,trivial⟩)⟩
theorem Zly:Qi prog 128 2:=fun w=>by kernel_rfl
theorem Zfy:Zfu prog 56 1:=⟨(.slice none 0 0),fun w=>by kernel_rfl,rfl,by simp[Value.cells,Value.oneCell']⟩
theorem Zpj:Zl prog 77:=Zs Tryz.func77 rfl rfl
theorem ZvH:Zl prog 78:=Zs Tryz.func78 rfl rfl
theorem ZvG:Zl prog 80:=Zs Tryz.func80 rfl rfl
theorem Zpo:Zl prog 51:=Zs Tryz.func51 rfl rfl
theorem ZvD:Zl prog 83:=Zs Tryz.func83 rfl rfl
theorem ZgZ:Zl prog 29:=Zs Tryz.func29 rfl rfl
theorem Zph:Zl prog 85:=Zs Tryz.func85 rfl rfl
theorem ZvB:Zl prog 86:=Zs Tryz.func86 rfl rfl
theorem Zmp:ZbV prog 95 5:=⟨#[.map none,.map none,.map none,.map none,.map none],rfl,fun i=>(#[(0,1),(1,1),(2,1),(3,1),(4,1)]:Array (Nat×Nat))[i]?,fun j hj=>by rcases j with _ | _ | _ | _ | _ | j<;>first | rfl | omega,fun parts=>by kernel_rfl⟩
theorem ZvU:Zl prog 49:=Zs Tryz.func49 rfl rfl
theorem ZvT:Zl prog 50:=Zs Tryz.func50 rfl rfl
theorem ZdC:prog.underlying 159=some (.slice 161):=by kernel_rfl
theorem Xy:Yv prog 159 161 2:=⟨by kernel_rfl,fun w=>by kernel_rfl⟩
theorem ZmL:Zs2 prog 161 2:=⟨(#[.string ⟨#[]⟩,.slice none 0 0]),rfl,by kernel_rfl⟩
theorem Zbg:Zms prog 215 9 22 keyS.kind:=⟨by kernel_rfl,by kernel_rfl⟩
theorem Zcz:ZiD prog 22 (.rd (Zg default)):=⟨(.slice none 0 0),fun w=>by kernel_rfl,fun S w=>(show Rel S w (.rd (.sl [])) _ from(by simp only[Rel];exact .nil _ _ (Nat.zero_le _)))⟩
theorem Zc2:Zl prog 169:=Zs Tryz.func169 rfl rfl
theorem QD:Zms prog 90 9 4 keyS.kind:=⟨by kernel_rfl,by kernel_rfl⟩
theorem Zg0:Zl prog 168:=Zs Tryz.func168 rfl rfl
theorem ZrX:Zl prog 170:=Zs Tryz.func170 rfl rfl
theorem Zj5:Qi prog 9 1:=fun w=>by kernel_rfl
theorem YQ:ZV prog 86 4 13:=fun b off w=>by kernel_rfl
theorem ZaE:Q3 prog 45:=fun w=>by kernel_rfl
theorem ZbE:Qi prog 45 1:=fun w=>by kernel_rfl
theorem Zaj:ZbV prog 32 2:=⟨#[.int .i64 0,.int .i64 0],rfl,fun i=>(#[(0,1),(1,1)]:Array (Nat×Nat))[i]?,fun j hj=>by rcases j with _ | _ | j<;>first | rfl | omega,fun parts=>by kernel_rfl⟩
theorem ZeQ:ZV prog 86 7 16:=fun b off w=>by kernel_rfl
theorem ZaA:Qi prog 4 1:=fun w=>by kernel_rfl
theorem ZeP:ZV prog 86 8 17:=fun b off w=>by kernel_rfl
theorem Y4:Qi prog 32 2:=fun w=>by kernel_rfl
theorem ZkY:Zl prog 204:=Zs Tryz.func204 rfl rfl
theorem ZfA:prog.underlying 119=some (.slice 3):=by kernel_rfl
theorem Qh:Yv prog 119 3 1:=⟨by kernel_rfl,fun w=>by kernel_rfl⟩
theorem Zea:Zl prog 194:=Zs Tryz.func194 rfl rfl
theorem Zhi:Zfu prog 3 1:=⟨(.int .i64 0),fun w=>by kernel_rfl,rfl,by simp[Value.cells,Value.oneCell']⟩
theorem Zk0:Zl prog 193:=Zs Tryz.func193 rfl rfl
theorem ZdD:prog.underlying 238=some (.int .u64):=by kernel_rfl
theorem ZrK:Zl prog 191:=Zs Tryz.func191 rfl rfl
theorem Zk1:Zl prog 192:=Zs Tryz.func192 rfl rfl
theorem Zcu:ZbV prog 104 2:=⟨#[.string ⟨#[]⟩,.string ⟨#[]⟩],rfl,fun i=>(#[(0,1),(1,1)]:Array (Nat×Nat))[i]?,fun j hj=>by rcases j with _ | _ | j<;>first | rfl | omega,fun parts=>by kernel_rfl⟩
theorem Zk2:Zl prog 187:=Zs Tryz.func187 rfl rfl
theorem ZrN:Zl prog 188:=Zs Tryz.func188 rfl rfl
theorem ZrM:Zl prog 189:=Zs Tryz.func189 rfl rfl
theorem ZrT:Zl prog 174:=Zs Tryz.func174 rfl rfl
theorem Zqc:Zhh prog 4 [.lit (.bool false)]:=⟨(.bool false),fun w=>by kernel_rfl,fun S w=>(show RdL S w [.lit (.bool false)] [.bool false]from⟨.lit _ True.intro,trivial⟩)⟩
theorem ZrW:Zl prog 171:=Zs Tryz.func171 rfl rfl
theorem ZmN:Zhh prog 57 [.sl []]:=⟨(.slice none 0 0),fun w=>by kernel_rfl,fun S w=>(show RdL S w [.sl []] [.slice none 0 0]from⟨.nil _ _ (Nat.zero_le _),trivial⟩)⟩
theorem Znc:Qi prog 57 1:=fun w=>by kernel_rfl
theorem ZrV:Zl prog 172:=Zs Tryz.func172 rfl rfl
theorem ZrL:Zl prog 190:=Zs Tryz.func190 rfl rfl
theorem ZrU:Zl prog 173:=Zs Tryz.func173 rfl rfl
theorem ZfQ:ZV prog 86 0 0:=fun b off w=>by kernel_rfl
theorem Zjp:ZV prog 106 2 2:=fun b off w=>by kernel_rfl
theorem Y9:Zl prog 104:=Zs Tryz.func104 rfl rfl
theorem Zfa:ZbV prog 161 2:=⟨#[.string ⟨#[]⟩,.slice none 0 0],rfl,fun i=>(#[(0,1),(1,1)]:Array (Nat×Nat))[i]?,fun j hj=>by rcases j with _ | _ | j<;>first | rfl | omega,fun parts=>by kernel_rfl⟩
theorem ZjL:Zcw prog 161:=⟨.agg #[.string ⟨#[]⟩,.slice none 0 0],fun w=>by kernel_rfl⟩
theorem Zfd:Zgc prog 159 161 2 40:=Zp2 (.agg #[.string ⟨#[]⟩,.slice none 0 0]) (by kernel_rfl) (by kernel_rfl) rfl (by decide) (fun w=>by kernel_rfl)
theorem Zse:Zl prog 145:=Zs Tryz.func145 rfl rfl
theorem Zsd:Zl prog 146:=Zs Tryz.func146 rfl rfl
theorem Zag:ZV prog 86 1 3:=fun b off w=>by kernel_rfl
theorem Zsc:Zl prog 147:=Zs Tryz.func147 rfl rfl
theorem Zsb:Zl prog 148:=Zs Tryz.func148 rfl rfl
theorem Zg1:Zl prog 113:=Zs Tryz.func113 rfl rfl
theorem ZvN:Zl prog 64:=Zs Tryz.func64 rfl rfl
theorem Zjq:ZV prog 106 0 0:=fun b off w=>by kernel_rfl
theorem Zfk:prog.underlying 108=some (.array 5 107):=by kernel_rfl
theorem ZuR:Q3 prog 107:=fun w=>by kernel_rfl
theorem Zlz:Qi prog 107 1:=fun w=>by kernel_rfl
theorem Xi:Q3 prog 42:=fun w=>by kernel_rfl
theorem Zay:XV prog 106 4:=⟨fun w=>by kernel_rfl,fun w=>by kernel_rfl⟩
theorem Zcs:ZV prog 86 5 14:=fun b off w=>by kernel_rfl
theorem Xs:ZV prog 86 6 15:=fun b off w=>by kernel_rfl
theorem XL:ZV prog 86 3 12:=fun b off w=>by kernel_rfl
theorem ZhT:Q3 prog 84:=fun w=>by kernel_rfl
theorem Zek:prog.underlying 84=some (.slice 106):=by kernel_rfl
theorem Ze7:Zl prog 57:=Zs Tryz.func57 rfl rfl
theorem Zbi:Yv prog 84 106 4:=⟨by kernel_rfl,fun w=>by kernel_rfl⟩
theorem Zba:Zhh prog 106 [.lit (.int .i64 0),.sl [],.lit (.int .i64 0),.lit (.bool false)]:=⟨(.agg #[.int .i64 0,.slice none 0 0,.int .i64 0,.bool false]),fun w=>by kernel_rfl,fun S w=>(show RdL S w [.lit (.int .i64 0),.sl [],.lit (.int .i64 0),.lit (.bool false)] [.int .i64 0,.slice none 0 0,.int .i64 0,.bool false]from⟨.lit _ True.intro,.nil _ _ (Nat.zero_le _),.lit _ True.intro,.lit _ True.intro,trivial⟩)⟩
theorem XP:Qi prog 106 4:=fun w=>by kernel_rfl
theorem Zpn:Zl prog 54:=Zs Tryz.func54 rfl rfl
theorem Zct:ZV prog 106 3 3:=fun b off w=>by kernel_rfl
theorem ZbY:Qi prog 3 1:=fun w=>by kernel_rfl
theorem Zjy:Zl prog 58:=Zs Tryz.func58 rfl rfl
theorem Zgi:prog.underlying 204=some (.array 2 56):=by kernel_rfl
theorem Znd:Qi prog 56 1:=fun w=>by kernel_rfl
theorem Zsj:Zl prog 140:=Zs Tryz.func140 rfl rfl
theorem ZeR:ZV prog 86 2 11:=fun b off w=>by kernel_rfl
theorem Ztt:Q3 prog 83:=fun w=>by kernel_rfl
theorem ZeC:Zms prog 83 9 3 keyS.kind:=⟨by kernel_rfl,by kernel_rfl⟩
theorem ZiG:ZiD prog 3 (.int default):=⟨(.int .i64 0),fun w=>by kernel_rfl,fun S w=>(show Rel S w (.int 0) _ from Rel.of_lit _)⟩
theorem Zsh:Zl prog 142:=Zs Tryz.func142 rfl rfl
theorem Zsi:Zl prog 141:=Zs Tryz.func141 rfl rfl
theorem Zsg:Zl prog 143:=Zs Tryz.func143 rfl rfl
theorem ZiJ:Zhh prog 157 [.lit (.int .i64 0),.lit (.bool false)]:=⟨(.agg #[.int .i64 0,.bool false]),fun w=>by kernel_rfl,fun S w=>(show RdL S w [.lit (.int .i64 0),.lit (.bool false)] [.int .i64 0,.bool false]from⟨.lit _ True.intro,.lit _ True.intro,trivial⟩)⟩
theorem Zlx:Qi prog 157 2:=fun w=>by kernel_rfl
theorem Zjn:ZV prog 157 1 1:=fun b off w=>by kernel_rfl
theorem ZiC:XV prog 157 2:=⟨fun w=>by kernel_rfl,fun w=>by kernel_rfl⟩
theorem ZsE:Zl prog 108:=Zs Tryz.func108 rfl rfl
theorem Zpt:Zl prog 38:=Zs Tryz.func38 rfl rfl
theorem ZsF:Zl prog 107:=Zs Tryz.func107 rfl rfl
theorem ZsH:Zl prog 103:=Zs Tryz.func103 rfl rfl
theorem Zlc:Zl prog 105:=Zs Tryz.func105 rfl rfl
theorem ZjN:Zcw prog 106:=⟨.agg #[.int .i64 0,.slice none 0 0,.int .i64 0,.bool false],fun w=>by kernel_rfl⟩
theorem Zf9:Zgc prog 84 106 4 48:=Zp2 (.agg #[.int .i64 0,.slice none 0 0,.int .i64 0,.bool false]) (by kernel_rfl) (by kernel_rfl) rfl (by decide) (fun w=>by kernel_rfl)
theorem Zer:Qi prog 84 1:=fun w=>by kernel_rfl
theorem ZsG:Zl prog 106:=Zs Tryz.func106 rfl rfl
theorem ZmP:Zhh prog 22 [.sl []]:=⟨(.slice none 0 0),fun w=>by kernel_rfl,fun S w=>(show RdL S w [.sl []] [.slice none 0 0]from⟨.nil _ _ (Nat.zero_le _),trivial⟩)⟩
theorem ZsD:Zl prog 109:=Zs Tryz.func109 rfl rfl
theorem ZjU:Zhh prog 3 [.lit (.int .i64 0)]:=⟨(.int .i64 0),fun w=>by kernel_rfl,fun S w=>(show RdL S w [.lit (.int .i64 0)] [.int .i64 0]from⟨.lit _ True.intro,trivial⟩)⟩
theorem ZsC:Zl prog 110:=Zs Tryz.func110 rfl rfl
theorem ZmM:Zs2 prog 157 2:=⟨(#[.int .i64 0,.bool false]),rfl,by kernel_rfl⟩
theorem Zsf:Zl prog 144:=Zs Tryz.func144 rfl rfl
theorem ZvQ:Zl prog 56:=Zs Tryz.func56 rfl rfl
theorem ZmO:Zhh prog 42 [.lit (.pointer none)]:=⟨(.pointer none),fun w=>by kernel_rfl,fun S w=>(show RdL S w [.lit (.pointer none)] [.pointer none]from⟨.lit _ True.intro,trivial⟩)⟩
theorem Zne:Qi prog 42 1:=fun w=>by kernel_rfl
theorem Zac:Zhh prog 32 [.lit (.int .i64 0),.lit (.int .i64 0)]:=⟨(.agg #[.int .i64 0,.int .i64 0]),fun w=>by kernel_rfl,fun S w=>(show RdL S w [.lit (.int .i64 0),.lit (.int .i64 0)] [.int .i64 0,.int .i64 0]from⟨.lit _ True.intro,.lit _ True.intro,trivial⟩)⟩
theorem ZvZ:Zl prog 40:=Zs Tryz.func40 rfl rfl
theorem ZvY:Zl prog 43:=Zs Tryz.func43 rfl rfl
theorem Qs:XV prog 32 2:=⟨fun w=>by kernel_rfl,fun w=>by kernel_rfl⟩
theorem Zv2:Zl prog 34:=Zs Tryz.func34 rfl rfl
theorem Zv3:Zl prog 33:=Zs Tryz.func33 rfl rfl
theorem Zpu:Zl prog 37:=Zs Tryz.func37 rfl rfl
theorem Zpv:Zl prog 28:=Zs Tryz.func28 rfl rfl
theorem Zv6:Zl prog 30:=Zs Tryz.func30 rfl rfl
theorem Zv7:Zl prog 27:=Zs Tryz.func27 rfl rfl
theorem Zv8:Zl prog 26:=Zs Tryz.func26 rfl rfl
theorem ZiI:Zhh prog 25 [.sl [],.sl [],.sl []]:=⟨(.agg #[.slice none 0 0,.slice none 0 0,.slice none 0 0]),fun w=>by kernel_rfl,fun S w=>(show RdL S w [.sl [],.sl [],.sl []] [.slice none 0 0,.slice none 0 0,.slice none 0 0]from⟨.nil _ _ (Nat.zero_le _),.nil _ _ (Nat.zero_le _),.nil _ _ (Nat.zero_le _),trivial⟩)⟩
theorem XX:Zfu prog 9 1:=⟨(.string ⟨#[]⟩),fun w=>by kernel_rfl,rfl,by simp[Value.cells,Value.oneCell']⟩
theorem Zf4:ZbV prog 61 3:=⟨#[.string ⟨#[]⟩,.bool false,.slice none 0 0],rfl,fun i=>(#[(0,1),(1,1),(2,1)]:Array (Nat×Nat))[i]?,fun j hj=>by rcases j with _ | _ | _ | j<;>first | rfl | omega,fun parts=>by kernel_rfl⟩
theorem Zmr:ZbV prog 25 3:=⟨#[.slice none 0 0,.slice none 0 0,.slice none 0 0],rfl,fun i=>(#[(0,1),(1,1),(2,1)]:Array (Nat×Nat))[i]?,fun j hj=>by rcases j with _ | _ | _ | j<;>first | rfl | omega,fun parts=>by kernel_rfl⟩
theorem Znf:Qi prog 25 3:=fun w=>by kernel_rfl
theorem ZdO:Yv prog 67 66 3:=⟨by kernel_rfl,fun w=>by kernel_rfl⟩
theorem Zlm:prog.underlying 67=some (.slice 66):=by kernel_rfl
theorem Zs1:XV prog 66 3:=⟨fun w=>by kernel_rfl,fun w=>by kernel_rfl⟩
theorem Zqa:Zs2 prog 66 3:=⟨(#[.slice none 0 0,.int .i64 0,.int .i64 0]),rfl,by kernel_rfl⟩
theorem Zmd:ZV prog 66 0 0:=fun b off w=>by kernel_rfl
theorem Zv4:Zl prog 32:=Zs Tryz.func32 rfl rfl
theorem Zpy:Zl prog 12:=Zs Tryz.func12 rfl rfl
theorem Zgg:Zs2 prog 32 2:=⟨(#[.int .i64 0,.int .i64 0]),rfl,by kernel_rfl⟩
theorem Zmc:ZV prog 66 1 1:=fun b off w=>by kernel_rfl
theorem ZgY:Zl prog 68:=Zs Tryz.func68 rfl rfl
theorem Xz:Yv prog 112 121 2:=⟨by kernel_rfl,fun w=>by kernel_rfl⟩
theorem ZjM:Zcw prog 121:=⟨.agg #[.int .i64 0,.bool false],fun w=>by kernel_rfl⟩
theorem Zfe:Zgc prog 112 121 2 16:=Zp2 (.agg #[.int .i64 0,.bool false]) (by kernel_rfl) (by kernel_rfl) rfl (by decide) (fun w=>by kernel_rfl)
theorem ZbA:prog.underlying 112=some (.slice 121):=by kernel_rfl
theorem Zjo:ZV prog 121 1 1:=fun b off w=>by kernel_rfl
theorem Zpm:Zl prog 65:=Zs Tryz.func65 rfl rfl
theorem ZsB:Zl prog 117:=Zs Tryz.func117 rfl rfl
theorem ZsA:Zl prog 118:=Zs Tryz.func118 rfl rfl
theorem Zpk:Zl prog 70:=Zs Tryz.func70 rfl rfl
theorem Zpl:Zl prog 69:=Zs Tryz.func69 rfl rfl
theorem Zc3:Zl prog 149:=Zs Tryz.func149 rfl rfl
theorem Zsa:Zl prog 150:=Zs Tryz.func150 rfl rfl
theorem Zpq:Zl prog 46:=Zs Tryz.func46 rfl rfl
theorem ZkZ:Zl prog 195:=Zs Tryz.func195 rfl rfl
theorem Zk6:Zl prog 175:=Zs Tryz.func175 rfl rfl
theorem Zk5:Zl prog 176:=Zs Tryz.func176 rfl rfl
theorem Zr9:Zl prog 151:=Zs Tryz.func151 rfl rfl
theorem Zr8:Zl prog 152:=Zs Tryz.func152 rfl rfl
set_option maxRecDepth 100000 in
theorem tb_one:∀ t∈[3,4,5,9,22,23,28,30,42,45,56,57,83,84,89,91,92,93,119,159,186,208,215],Q3 prog t:=by
 intro t h
 simp only[List.mem_cons,List.not_mem_nil,or_false]at h
 rcases h with rfl | rfl | rfl | rfl | rfl | rfl | rfl | rfl | rfl | rfl | rfl | rfl | rfl | rfl | rfl | rfl | rfl | rfl | rfl | rfl | rfl | rfl | rfl<;>exact fun w=>by kernel_rfl
set_option maxRecDepth 100000 in
theorem tb_agg:∀ q∈[(25,3),(32,2),(59,8),(61,3),(104,2),(106,4),(121,2),(128,2),(157,2),(161,2),(177,4),(228,4)],XV prog q.1 q.2:=by
 intro q h
 simp only[List.mem_cons,List.not_mem_nil,or_false]at h
 rcases h with rfl | rfl | rfl | rfl | rfl | rfl | rfl | rfl | rfl | rfl | rfl | rfl<;>exact⟨fun w=>by kernel_rfl,fun w=>by kernel_rfl⟩
set_option maxRecDepth 100000 in
theorem tb_fld:∀ q∈[(25,0,0),(25,1,1),(25,2,2),(32,0,0),(32,1,1),(59,0,0),(59,1,1),(59,2,2),(59,3,3),(59,4,4),(59,5,5),(59,6,6),(59,7,7),(61,0,0),(61,1,1),(61,2,2),(86,0,0),(86,1,3),(86,2,11),(86,3,12),(86,4,13),(86,5,14),(86,6,15),(86,7,16),(86,8,17),(95,0,0),(95,1,1),(95,2,2),(95,3,3),(95,4,4),(104,0,0),(104,1,1),(106,0,0),(106,1,1),(106,2,2),(106,3,3),(121,0,0),(121,1,1),(128,0,0),(128,1,1),(157,0,0),(157,1,1),(161,0,0),(161,1,1),(177,0,0),(177,1,1),(177,2,2),(177,3,3),(228,0,0),(228,1,1),(228,2,2),(228,3,3)],ZV prog q.1 q.2.1 q.2.2:=by
 intro q h
 simp only[List.mem_cons,List.not_mem_nil,or_false]at h
 rcases h with rfl | rfl | rfl | rfl | rfl | rfl | rfl | rfl | rfl | rfl | rfl | rfl | rfl | rfl | rfl | rfl | rfl | rfl | rfl | rfl | rfl | rfl | rfl | rfl | rfl | rfl | rfl | rfl | rfl | rfl | rfl | rfl | rfl | rfl | rfl | rfl | rfl | rfl | rfl | rfl | rfl | rfl | rfl | rfl | rfl | rfl | rfl | rfl | rfl | rfl | rfl | rfl<;>exact fun b off w=>by kernel_rfl
def tb:Tbl prog where
 one:=Zva [3,4,5,9,22,23,28,30,42,45,56,57,83,84,89,91,92,93,119,159,186,208,215]
 agg:=lk1 [(25,3),(32,2),(59,8),(61,3),(104,2),(106,4),(121,2),(128,2),(157,2),(161,2),(177,4),(228,4)]
 fld:=lk2 [(25,0,0),(25,1,1),(25,2,2),(32,0,0),(32,1,1),(59,0,0),(59,1,1),(59,2,2),(59,3,3),(59,4,4),(59,5,5),(59,6,6),(59,7,7),(61,0,0),(61,1,1),(61,2,2),(86,0,0),(86,1,3),(86,2,11),(86,3,12),(86,4,13),(86,5,14),(86,6,15),(86,7,16),(86,8,17),(95,0,0),(95,1,1),(95,2,2),(95,3,3),(95,4,4),(104,0,0),(104,1,1),(106,0,0),(106,1,1),(106,2,2),(106,3,3),(121,0,0),(121,1,1),(128,0,0),(128,1,1),(157,0,0),(157,1,1),(161,0,0),(161,1,1),(177,0,0),(177,1,1),(177,2,2),(177,3,3),(228,0,0),(228,1,1),(228,2,2),(228,3,3)]
 h1:=fun t h=>tb_one t (ZkH h)
 h2:=fun t k h=>tb_agg (t,k+1) (Zok h)
 h3:=fun s f d h=>tb_fld (s,f,d) (Zoj h)
 mix:=YC
theorem Zci {J:World→Prop} (hJ:Stab J) (xs:List BA) (s:BA)  :Fn prog J 90 [.rd (Zg xs),.str s] (.bool (decide (s∈xs))):=by
 refine Zo (N:=18) Tryz.func90 rfl rfl (lb rfl) fun S w0 hS hJ0=>?_
 clear hJ0
 refine ln 0 fun hl1=>?_
 refine qs tb hJ [0,1] [_] [_,_] ?_
 refine Zf (qs tb hJ [0,1,1000] [_] U3 ?_)
 refine Zc (lp (ι:=Nat) (fun k=>(k≤xs.length)∧(∀ j,j<k→ge xs j≠s)) (fun k=>[(5,.int (k:Nat))]) (fun k=>xs.length-k) [0,1,2] [_,_] 0 (show(0≤xs.length)∧(∀ j,j<0→ge xs j≠s)from by first | trivial | grind) ?_)
 rintro k ⟨f1_1,f1_2⟩
 refine Zf (hqs tb hJ [0,1,2,1003] [_,_,.int (xs.length:Nat),_] [2] U4 rfl ⟨Z2 Zm,trivial⟩ ?_)
 refine cj 3 (fun hb1=>?_) fun hb1=>?_
 try simp at hb1
 refine Zb (nx (Zf (Zc (hqs tb hJ [0,1,2,1005] [_,_,.ptr [lS (ge xs k)],_,_,_] [2] U4 rfl ⟨iIx Zd,trivial⟩ ?_))))
 refine cj 3 (fun hb2=>?_) fun hb2=>?_
 try simp at hb2
 refine qs tb hJ [1000] [_] [_] ?_
 exact Ze (rtn (m:=0) rfl rfl (eB (by grind[Zv])))
 try simp at hb2
 refine Zb (nx (hqp tb hJ [0,1,1002] [_,.int (k+1:Nat),_] [1] U3 rfl ⟨Ya,trivial⟩ ?_))
 exact lpE (k+1) [0,1,2] ⟨by first | omega | (simp;omega) | grind[Zv],by first | omega | (simp;omega) | grind[Zv]⟩
 try simp at hb1
 refine Zt (nx (qs tb hJ [1000] [_] [_] ?_))
 exact Ze (rtn (m:=0) rfl rfl (eB (by grind[Xj])))
theorem ZjA {J:World→Prop} (hJ:Stab J) (xs:List BA) (ys:List BA)  :Fn prog J 163 [.rd (Zg xs),.rd (Zg ys)] (.bool (decide (xs=ys))):=by
 refine Zo (N:=26) Tryz.func163 rfl rfl (lb rfl) fun S w0 hS hJ0=>?_
 clear hJ0
 refine ln 0 fun hl1=>?_
 refine ln 1 fun hl2=>?_
 refine qs tb hJ [0,1] [_] [_,_] ?_
 refine Zf (hqs tb hJ [0,1,1004] [_,.int (xs.length:Nat),_,.int (ys.length:Nat),_] [1,3] U3 rfl ⟨Z2 Zm,Z2 Zm,trivial⟩ ?_)
 refine cj 2 (fun hb1=>?_) fun hb1=>?_
 try simp at hb1
 refine qs tb hJ [1000] [_] [_] ?_
 exact Ze (rtn (m:=0) rfl rfl (eB (by first | rfl | grind[Zv])))
 try simp at hb1
 refine Zb (nx (Zf (qs tb hJ [0,1,1000] [_] U3 ?_)))
 refine Zc (lp (ι:=Nat) (fun k=>(k≤xs.length)∧(∀ j,j<k→ge xs j=ge ys j)) (fun k=>[(5,.int (k:Nat))]) (fun k=>xs.length-k) [0,1,2] [_,_] 0 (show(0≤xs.length)∧(∀ j,j<0→ge xs j=ge ys j)from by first | trivial | grind) ?_)
 rintro k ⟨f1_1,f1_2⟩
 refine Zf (hqs tb hJ [0,1,2,1003] [_,_,.int (xs.length:Nat),_] [2] U4 rfl ⟨Z2 Zm,trivial⟩ ?_)
 refine cj 3 (fun hb2=>?_) fun hb2=>?_
 try simp at hb2
 refine Zb (nx (Zf (Zc (hqs tb hJ [0,1,2,1008] [_,_,.ptr [lS (ge xs k)],_,_,_,.ptr [lS (ge ys k)],_,_] [2,6] U4 rfl ⟨iIx Zd,iIx Zd,trivial⟩ ?_))))
 refine cj 3 (fun hb3=>?_) fun hb3=>?_
 try simp at hb3
 refine qs tb hJ [1000] [_] [_] ?_
 exact Ze (rtn (m:=0) rfl rfl (eB (by first | rfl | grind[Zv])))
 try simp at hb3
 refine Zb (nx (hqp tb hJ [0,1,1002] [_,.int (k+1:Nat),_] [1] U3 rfl ⟨Ya,trivial⟩ ?_))
 exact lpE (k+1) [0,1,2] ⟨by first | omega | (simp;omega) | grind[Zv],by first | omega | (simp;omega) | grind[Zv]⟩
 try simp at hb2
 refine Zt (nx (qs tb hJ [1000] [_] [_] ?_))
 exact Ze (rtn (m:=0) rfl rfl (eB (by have:=Za3 (xs:=xs) (ys:=ys) (by omega) (fun j hj=>f1_2 j (by omega));simp[this])))
theorem Ze8 {J:World→Prop} (hJ:Stab J) (xs:List Pr) (ys:List Pr)  :Fn prog J 137 [.rd (Xc xs),.rd (Xc ys)] (.bool (decide (xs=ys))):=by
 refine Zo (N:=26) Tryz.func137 rfl rfl (lb rfl) fun S w0 hS hJ0=>?_
 clear hJ0
 refine ln 0 fun hl1=>?_
 refine ln 1 fun hl2=>?_
 refine qs tb hJ [0,1] [_] [_,_] ?_
 refine Zf (hqs tb hJ [0,1,1004] [_,.int (xs.length:Nat),_,.int (ys.length:Nat),_] [1,3] U3 rfl ⟨Z2 ZL,Z2 ZL,trivial⟩ ?_)
 refine cj 2 (fun hb1=>?_) fun hb1=>?_
 try simp at hb1
 refine qs tb hJ [1000] [_] [_] ?_
 exact Ze (rtn (m:=0) rfl rfl (eB (by first | rfl | grind[Zv])))
 try simp at hb1
 refine Zb (nx (Zf (qs tb hJ [0,1,1000] [_] U3 ?_)))
 refine Zc (lp (ι:=Nat) (fun k=>(k≤xs.length)∧(∀ j,j<k→Zfj (ge xs j) (ge ys j)=true)) (fun k=>[(5,.int (k:Nat))]) (fun k=>xs.length-k) [0,1,2] [_,_] 0 (show(0≤xs.length)∧(∀ j,j<0→Zfj (ge xs j) (ge ys j)=true)from by first | trivial | grind) ?_)
 rintro k ⟨f1_1,f1_2⟩
 refine Zf (hqs tb hJ [0,1,2,1003] [_,_,.int (xs.length:Nat),_] [2] U4 rfl ⟨Z2 ZL,trivial⟩ ?_)
 refine cj 3 (fun hb2=>?_) fun hb2=>?_
 try simp at hb2
 refine Zb (nx (Zf (Zc (hqs tb hJ [0,1,2,1008] [_,_,.ptr (prC (ge xs k)),_,_,_,.ptr (prC (ge ys k)),_,.bool (!(decide ((ge xs k).a=(ge ys k).a)&&decide ((ge xs k).b=(ge ys k).b)))] [2,6,8] U4 rfl ⟨iIx Zu,iIx Zu,fun _ _ _ hx hl _=>Zny Zf0 rfl (hl.dep 3 20 _ rfl rfl rfl rfl) (hl.dep 7 24 _ rfl rfl rfl rfl) hx,trivial⟩ ?_))))
 refine cj 3 (fun hb3=>?_) fun hb3=>?_
 try simp at hb3
 refine qs tb hJ [1000] [_] [_] ?_
 exact Ze (rtn (m:=0) rfl rfl (eB (by symm;rw[decide_eq_false_iff_not];intro e;subst e;simp at hb3)))
 try simp at hb3
 refine Zb (nx (hqp tb hJ [0,1,1002] [_,.int (k+1:Nat),_] [1] U3 rfl ⟨Ya,trivial⟩ ?_))
 exact lpE (k+1) [0,1,2] ⟨by first | omega | (intro j hj;by_cases e:j=k;(subst e;simp[Zfj,hb3]);exact f1_2 j (by omega)),by first | omega | (intro j hj;by_cases e:j=k;(subst e;simp[Zfj,hb3]);exact f1_2 j (by omega))⟩
 try simp at hb2
 refine Zt (nx (qs tb hJ [1000] [_] [_] ?_))
 exact Ze (rtn (m:=0) rfl rfl (eB (by have:=Za3 (xs:=xs) (ys:=ys) (by omega) (fun j hj=>prEq_iff.1 (f1_2 j (by omega)));simp[this])))
theorem ZjD {J:World→Prop} (hJ:Stab J) (c:UInt8)  :Fn prog J 162 [.rd (.lit (.int .u8 (c.toNat:Int)))] (.bool (Zbp c)):=by
 refine Zo (N:=9) Tryz.func162 rfl rfl (lb rfl) fun S w0 hS hJ0=>?_
 clear hJ0
 refine qs tb hJ [0] [_] [_] ?_
 refine qs tb hJ [1006] U7 [_] ?_
 exact Ze (rtn (m:=0) rfl rfl (eB (by first | rfl | grind[Zv])))
theorem ZsP {J:World→Prop} (hJ:Stab J) (s:BA)  :Fn prog J 132 [.str s] (.bool (Zgf s)):=by
 refine Zo (N:=17) Tryz.func132 rfl rfl (lb rfl) fun S w0 hS hJ0=>?_
 clear hJ0
 refine lnS 0 fun hl1=>?_
 refine qs tb hJ [0] [_] [_] ?_
 refine Zf (qs tb hJ [0,1000] [_] [_,_] ?_)
 refine Zc (lp (ι:=Nat) (fun k=>(k≤s.size)∧(∀ j,j<k→Zbp (bt s j)=true)) (fun k=>[(3,.int (k:Nat))]) (fun k=>s.size-k) [0,1] [_] 0 (show(0≤s.size)∧(∀ j,j<0→Zbp (bt s j)=true)from by first | trivial | grind) ?_)
 rintro k ⟨f1_1,f1_2⟩
 refine Zf (hqs tb hJ [0,1,1003] [_,_,.int (s.size:Nat),_] [2] U3 rfl ⟨Zmv ZX,trivial⟩ ?_)
 refine cj 2 (fun hb1=>?_) fun hb1=>?_
 try simp at hb1
 refine Zb (nx (Zf (Zc (hqs tb hJ [0,1,1004] [_,_,.rd (.lit (.int .u8 ((ge s.data.toList k).toNat:Int))),.bool (Zbp (ge s.data.toList k)),_] [2,3] U3 rfl ⟨fun _ _ _ hx hl _=>ZdG (i:=(k:Int)) ZX rfl (hl.dep 0 10 _ rfl rfl rfl rfl) (hl.dep 1 11 _ rfl rfl rfl rfl) (Int.natCast_nonneg _) (ZaK (s:=s) (k:=k) sfz) hx,iFn hS hJ (ZjD hJ (ge s.data.toList k)) ZrZ,trivial⟩ ?_))))
 refine cj 2 (fun hb2=>?_) fun hb2=>?_
 try simp at hb2
 refine qs tb hJ [1000] [_] [_] ?_
 exact Ze (rtn (m:=0) rfl rfl (eB ((Zp7 hb1 hb2).symm)))
 try simp at hb2
 refine Zb (nx (hqp tb hJ [0,1002] [_,.int (k+1:Nat),_] [1] [_,_] rfl ⟨Ya,trivial⟩ ?_))
 exact lpE (k+1) [0,1] ⟨by omega,ZK f1_2 hb2⟩
 try simp at hb1
 refine Zt (nx (qs tb hJ [1002] U3 [_] ?_))
 exact Ze (rtn (m:=0) rfl rfl (eB ((ZmE fun j hj=>f1_2 j (by omega)).symm)))
theorem Zf3 {J:World→Prop} (hJ:Stab J) (s:BA)  :Fn prog J 89 [.str s] (.bool (Zgl s)):=by
 refine Zo (N:=21) Tryz.func89 rfl rfl (lb rfl) fun S w0 hS hJ0=>?_
 clear hJ0
 refine lnS 0 fun hl1=>?_
 refine qs tb hJ [0] [_] [_] ?_
 refine Zf (qs tb hJ [0,1000] [_] [_,_] ?_)
 refine Zc (lp (ι:=Nat) (fun k=>(k≤s.size)∧(∀ j,j<k→¬ ((bt s j).toNat:Int)=36)) (fun k=>[(3,.int (k:Nat))]) (fun k=>s.size-k) [0,1] [_] 0 (show(0≤s.size)∧(∀ j,j<0→¬ ((bt s j).toNat:Int)=36)from by first | trivial | grind) ?_)
 rintro k ⟨f1_1,f1_2⟩
 refine Zf (hqs tb hJ [0,1,1003] [_,_,.int (s.size:Nat),_] [2] U3 rfl ⟨Zmv ZX,trivial⟩ ?_)
 refine cj 2 (fun hb1=>?_) fun hb1=>?_
 try simp at hb1
 refine Zb (nx (Zf (Zc (hqs tb hJ [0,1,1003] [_,_,.rd (.lit (.int .u8 ((ge s.data.toList k).toNat:Int))),_] [2] U3 rfl ⟨fun _ _ _ hx hl _=>ZdG (i:=(k:Int)) ZX rfl (hl.dep 0 10 _ rfl rfl rfl rfl) (hl.dep 1 11 _ rfl rfl rfl rfl) (Int.natCast_nonneg _) (ZaK (s:=s) (k:=k) sfz) hx,trivial⟩ ?_))))
 refine cj 2 (fun hb2=>?_) fun hb2=>?_
 try simp at hb2
 refine qs tb hJ [1000] [_] [_] ?_
 exact Ze (rtn (m:=0) rfl rfl (eB ((Zt7 hb1 hb2).symm)))
 try simp at hb2
 refine Zb (nx (hqp tb hJ [0,1002] [_,.int (k+1:Nat),_] [1] [_,_] rfl ⟨Ya,trivial⟩ ?_))
 exact lpE (k+1) [0,1] ⟨by omega,ZK f1_2 hb2⟩
 try simp at hb1
 refine Zt (nx (hqs tb hJ [1007] [_,.bool (Zgf s),_,_,.int (s.size:Nat),_,_,_] [1,4] [_] rfl ⟨iFn hS hJ (ZsP hJ s) Zso,Zmv ZX,trivial⟩ ?_))
 exact Ze (rtn (m:=0) rfl rfl (eB ((Zqh fun j hj=>f1_2 j (by omega)).symm)))
theorem Zc6 {J:World→Prop} (hJ:Stab J) (s:BA)  :Fn prog J 91 [.str s] (.bool (QE s)):=by
 refine Zo (N:=58) Tryz.func91 rfl rfl (lb rfl) fun S w0 hS hJ0=>?_
 clear hJ0
 refine lnS 0 fun hl1=>?_
 refine qs tb hJ [0] [_] [_] ?_
 refine Zf (qs tb hJ [0,1000] [_] [_,_] ?_)
 refine Zc (lp (ι:=Nat) (fun k=>(k≤s.size)∧(∀ j,j<k→Zmx (bt s j)=false)) (fun k=>[(3,.int (k:Nat))]) (fun k=>s.size-k) [0,1] [_] 0 (show(0≤s.size)∧(∀ j,j<0→Zmx (bt s j)=false)from by first | trivial | grind) ?_)
 rintro k ⟨f1_1,f1_2⟩
 refine Zf (hqs tb hJ [0,1,1003] [_,_,.int (s.size:Nat),_] [2] U3 rfl ⟨Zmv ZX,trivial⟩ ?_)
 refine cj 2 (fun hb1=>?_) fun hb1=>?_
 try simp at hb1
 refine Zb (nx (Zf (Zc (hqs tb hJ [0,1,1003] [_,_,.rd (.lit (.int .u8 ((ge s.data.toList k).toNat:Int))),_] [2] U3 rfl ⟨fun _ _ _ hx hl _=>ZdG (i:=(k:Int)) ZX rfl (hl.dep 0 12 _ rfl rfl rfl rfl) (hl.dep 1 13 _ rfl rfl rfl rfl) (Int.natCast_nonneg _) (ZaK (s:=s) (k:=k) sfz) hx,trivial⟩ ?_))))
 refine qs tb hJ [0,1,2,1014] U15 U4 ?_
 refine qs tb hJ [0,1,1021] [_,_,_,_,_,_,_,_,_,_,_,_,_,_,_,_,_,_,_,_,_,_] U3 ?_
 refine cj 2 (fun hb2=>?_) fun hb2=>?_
 refine qs tb hJ [1000] [_] [_] ?_
 exact Ze (rtn (m:=0) rfl rfl (eB ((Zu2 hb1 hb2).symm)))
 refine Zb (nx (hqp tb hJ [0,1002] [_,.int (k+1:Nat),_] [1] [_,_] rfl ⟨Ya,trivial⟩ ?_))
 exact lpE (k+1) [0,1] ⟨by omega,ZK f1_2 hb2⟩
 try simp at hb1
 refine Zt (nx (hqs tb hJ [1007] [_,_,_,_,.int (s.size:Nat),_,_,_] [4] [_] rfl ⟨Zmv ZX,trivial⟩ ?_))
 exact Ze (rtn (m:=0) rfl rfl (eB ((Zrn fun j hj=>f1_2 j (by omega)).symm)))
theorem ZsQ {J:World→Prop} (hJ:Stab J) (f:Fr) (b:(f.hyps.length+f.dummies.length)*48≤140737488351232):Fn prog J 94 [.agg (frC f)] (.rd (Xm (f.hyps++f.dummies))):=by
 refine Zo (N:=10) Tryz.func94 rfl rfl (lb rfl) fun S w0 hS hJ0=>?_
 refine tw Z1 ?_
 refine ZG tb hJ [1000] [.ptr (frC f),_] [0] [_] rfl ⟨fun _ _ hk hx hl _=>Yq rfl (hl.env 0 0 _ rfl rfl) (Zp hS _ hk hx _ (Nat.le_refl _)) (jo hJ hx),trivial⟩ ?_
 refine Zf (fun a w h=>Zbd (id:=1) (t:=56) (e:=61) (size:=3) (bytes:=48) (i0:=0) (fol:=7) (d:=2) (ch:=[(3,(f.hyps.map hyC)),(6,(f.dummies.map hyC))]) (fun ix'=>([.any,.ptr [Xm f.hyps,Xc f.apart,Zg f.text,Xm f.dummies,Xc f.wide,Zg f.proof],.rd (Xm f.hyps),.any,.ptr [Xm f.dummies,Xc f.wide,Zg f.proof],.rd (Xm f.dummies),.any,.any]:List AV).getD ix' .any) (fun _=>true) [] ((f.hyps++f.dummies).map hyC) (by simp) ?r1_1 hJ hJ0 h YC rfl rfl rfl rfl ⟨?_,⟨?_,⟨?_,⟨?_,⟨?_,⟨?_,⟨?_,⟨?_,trivial⟩⟩⟩⟩⟩⟩⟩⟩ trivial (fun v1=>?n1_1))
 case r1_1=>
  refine Row.mk' QY ⟨_,rfl,rfl,rfl,rfl,rfl⟩ ⟨?x1_1_0,⟨?x1_1_1,trivial⟩⟩ ⟨_,_,_,_,rfl,rfl,rfl,rfl,rfl,rfl,rfl,rfl,rfl⟩ rfl rfl rfl
  case x1_1_0=>exact⟨_,_,_,_,rfl,rfl,rfl,rfl,rfl,rfl,rfl,rfl,XA (f:=hyC) (fun _=>rfl),(by have hm:maxLen=9223372036854775807:=rfl;simp[upto];first | omega | (simp;omega) | grind[Zv]),(by have hm:maxLen=9223372036854775807:=rfl;simp[upto];first | omega | (simp;omega) | grind[Zv]),fun _ _ _ _ _ hl=>(hl.dep 2 5 _ rfl rfl rfl rfl)⟩
  case x1_1_1=>exact⟨_,_,_,_,rfl,rfl,rfl,rfl,rfl,rfl,rfl,rfl,XA (f:=hyC) (fun _=>rfl),(by have hm:maxLen=9223372036854775807:=rfl;simp[upto];first | omega | (simp;omega) | grind[Zv]),(by have hm:maxLen=9223372036854775807:=rfl;simp[upto];first | omega | (simp;omega) | grind[Zv]),fun _ _ _ _ _ hl=>(hl.dep 5 8 _ rfl rfl rfl rfl)⟩
 exact fun h=>Zn rfl h
 exact fun _ _=>⟨rfl,fun _ _ _ hx hl _=>ZQ Zai rfl (hl.env 0 1 _ rfl rfl) hx⟩
 exact fun _ _=>⟨rfl,fun _ _ _ hx hl _=>ZI ZdK rfl (hl.dep 1 4 _ rfl rfl rfl rfl) hx⟩
 exact fun h=>Zn rfl h
 exact fun _ _=>⟨rfl,fun _ _ _ hx hl _=>ZQ Zme rfl (hl.env 0 1 _ rfl rfl) hx⟩
 exact fun _ _=>⟨rfl,fun _ _ _ hx hl _=>ZI ZdK rfl (hl.dep 4 7 _ rfl rfl rfl rfl) hx⟩
 exact fun h=>Zn rfl h
 exact fun h=>Zn rfl h
 clear a w h
 refine nx (tw (fun h=>ZN hS h (m:=0) (s:=2) rfl) ?_)
 exact Ze (Xe (m:=0) rfl rfl rfl)
theorem ZpG {J:World→Prop} (hJ:Stab J) (s:BA)  :Fn prog J 98 [.str s] (.bool (Y1 s)):=by
 refine Zo (N:=31) Tryz.func98 rfl rfl (lb rfl) fun S w0 hS hJ0=>?_
 clear hJ0
 refine lnS 0 fun hl1=>?_
 refine qs tb hJ [0] [_] [_] ?_
 refine Zf (qs tb hJ [0,1005] U6 [_,_] ?_)
 refine cj 1 (fun hb1=>?_) fun hb1=>?_
 try simp at hb1
 refine qs tb hJ [1000] [_] [_] ?_
 exact Ze (rtn (m:=0) rfl rfl (eB ((ZlM hb1).symm)))
 try simp at hb1
 refine Zb (nx (Zf (qs tb hJ [0,1000] [_] [_,_] ?_)))
 refine Zc (lp (ι:=Nat) (fun k=>(k≤s.size)∧(∀ j,j<k→Zp0 s j=false)) (fun k=>[(3,.int (k:Nat))]) (fun k=>s.size-k) [0,1] [_] 0 (show(0≤s.size)∧(∀ j,j<0→Zp0 s j=false)from by first | trivial | grind) ?_)
 rintro k ⟨f1_1,f1_2⟩
 refine Zf (hqs tb hJ [0,1,1003] [_,_,.int (s.size:Nat),_] [2] U3 rfl ⟨Zmv ZX,trivial⟩ ?_)
 refine cj 2 (fun hb2=>?_) fun hb2=>?_
 try simp at hb2
 refine Zb (nx (Zf (Zc (hqs tb hJ [0,1,1012] [_,_,.rd (.lit (.int .u8 ((ge s.data.toList k).toNat:Int))),_,_,_,_,_,.int (k+1:Nat),.str (s.extract k (k+1)),.bool (QE (s.extract k (k+1))),_,_] [2,8,9,10] U3 rfl ⟨fun _ _ _ hx hl _=>ZdG (i:=(k:Int)) ZX rfl (hl.dep 0 16 _ rfl rfl rfl rfl) (hl.dep 1 17 _ rfl rfl rfl rfl) (Int.natCast_nonneg _) (ZaK (s:=s) (k:=k) sfz) hx,fun _ _ _ hx hl hc=>Zfo (i:=(k:Int)) (j:=(1:Int)) rfl (hl.dep 7 23 _ rfl rfl rfl hc) (Rel.of_lit (.int .i64 1)) (by have hc':((!decide (((ge s.data.toList k).toNat:Int)=(63:Int)))==true)=true:=hc;(try simp at hc');(first | omega | (simp;omega) | grind[Zv])) (by have hc':((!decide (((ge s.data.toList k).toNat:Int)=(63:Int)))==true)=true:=hc;(try simp at hc');(first | omega | (simp;omega) | grind[Zv])) hx,fun _ _ _ hx hl hc=>Zqy (lo:=k) (hi:=k+1) ZX rfl (hl.dep 5 21 _ rfl rfl rfl hc) (hl.dep 6 22 _ rfl rfl rfl hc) (hl.dep 8 24 _ rfl rfl rfl hc) (by have hc':((!decide (((ge s.data.toList k).toNat:Int)=(63:Int)))==true)=true:=hc;(try simp at hc');(first | omega | (simp;omega) | grind[Zv])) (by have hc':((!decide (((ge s.data.toList k).toNat:Int)=(63:Int)))==true)=true:=hc;(try simp at hc');(first | omega | (simp;omega) | grind[Zv])) hx,iFn hS hJ (Zc6 hJ (s.extract k (k+1))) ZgV,trivial⟩ ?_))))
 refine cj 2 (fun hb3=>?_) fun hb3=>?_
 refine qs tb hJ [1000] [_] [_] ?_
 exact Ze (rtn (m:=0) rfl rfl (eB ((ZnI hb1 hb2 hb3).symm)))
 refine Zb (nx (hqp tb hJ [0,1002] [_,.int (k+1:Nat),_] [1] [_,_] rfl ⟨Ya,trivial⟩ ?_))
 exact lpE (k+1) [0,1] ⟨by omega,ZK f1_2 hb3⟩
 try simp at hb2
 refine Zt (nx (qs tb hJ [1002] U3 [_] ?_))
 exact Ze (rtn (m:=0) rfl rfl (eB ((ZlN hb1 fun j hj=>f1_2 j (by omega)).symm)))
theorem c_of {J:World→Prop} (hJ:Stab J) (y:Hy) (vs:List BA)  :Fn prog J 133 [.agg (hyC y),.rd (Zg vs)] (.bool (ofB y vs)):=by
 refine Zo (N:=21) Tryz.func133 rfl rfl (lb rfl) fun S w0 hS hJ0=>?_
 clear hJ0
 refine ln 1 fun hl1=>?_
 refine hqs tb hJ [1,1000] [.ptr (hyC y),_] [0] [_,_] rfl ⟨fun _ _ hk hx hl _=>Yq rfl (hl.env 0 0 _ rfl rfl) (hS _ hk.size) (js hJ hx),trivial⟩ ?_
 refine hqs tb hJ [1016] [_,_,_,_,_,.int (y.text.length:Nat),_,_,_,_,_,_,.ptr [lS (ge y.text 1)],_,.bool (decide ((ge y.text 1)∈vs)),_,_] [5,12,14] [_] rfl ⟨Z2 Zm,gIx (k:=1) Zd (hk:=fun(hc':((y.floating&& (decide ((y.text.length:Int)=(2:Int))))==true)=true)=>by(try simp at hc');first | omega | (simp;omega) | grind[Zv]),iFn hS hJ (Zci hJ vs (ge y.text 1)) XW,trivial⟩ ?_
 exact Ze (rtn (m:=0) rfl rfl (eB (by first | rfl | grind[Zv])))
theorem Zc5 {J:World→Prop} (hJ:Stab J) (x:Hy) (y:Hy)  :Fn prog J 134 [.agg (hyC x),.agg (hyC y)] (.bool (Zl1 x y)):=by
 refine Zo (N:=24) Tryz.func134 rfl rfl (lb rfl) fun S w0 hS hJ0=>?_
 clear hJ0
 refine hqs tb hJ [1000,1001] [.ptr (hyC x),.ptr (hyC y),_] [0,1] [_,_] rfl ⟨fun _ _ hk hx hl _=>Yq rfl (hl.env 0 0 _ rfl rfl) (hS _ hk.size) (js hJ hx),fun _ _ hk hx hl _=>Yq rfl (hl.env 1 1 _ rfl rfl) (hS _ hk.size) (js hJ hx),trivial⟩ ?_
 refine hqs tb hJ [1019] [_,_,_,_,_,_,_,_,_,_,.bool (x.floating==y.floating),_,_,_,_,_,_,.bool (decide (x.text=y.text)),_,_] [10,17] [_] rfl ⟨fun _ _ _ hx hl hc=>Ztl Zs5 rfl (hl.dep 7 12 _ rfl rfl rfl hc) (hl.dep 9 14 _ rfl rfl rfl hc) hx,iFn hS hJ (ZjA hJ x.text y.text) ZrY,trivial⟩ ?_
 exact Ze (rtn (m:=0) rfl rfl (eB (by first | rfl | grind[Zv])))
theorem Zg2 {J:World→Prop} (hJ:Stab J) (d:Db) (s:BA)  :Fn prog J 93 [.agg (dbC d),.str s] (.bool (Zdj d s)):=by
 refine Zo (N:=15) Tryz.func93 rfl rfl (lb rfl) fun S w0 hS hJ0=>?_
 clear hJ0
 refine hqs tb hJ [1,1000] [.ptr (dbC d),_] [0] [_,_] rfl ⟨fun _ _ hk hx hl _=>Yq rfl (hl.env 0 0 _ rfl rfl) (hS _ hk.size) (js hJ hx),trivial⟩ ?_
 refine hqs tb hJ [1001,1010] [_,_,_,.bool (decide (s∈d.consts)),_,_,_,_,.bool (decide (s∈d.vars)),_,_] [3,8] [_,_] rfl ⟨iFn hS hJ (Zci hJ d.consts s) XW,iFn hS hJ (Zci hJ d.vars s) XW,trivial⟩ ?_
 refine ln 0 fun hl1=>?_
 exact Ze (rtn (m:=1) rfl rfl (eB (by first | rfl | grind[Zv])))
theorem Ziq {J:World→Prop} (hJ:Stab J) (d:Db) (l:List BA) (h0:0<l.length):Fn prog J 96 [.agg (dbC d),.rd (Zg l)] (.int (Zbt d l)):=by
 refine Zo (N:=26) Tryz.func96 rfl rfl (lb rfl) fun S w0 hS hJ0=>?_
 clear hJ0
 refine ln 1 fun hl1=>?_
 refine hqs tb hJ [1,1000] [.ptr (dbC d),_] [0] [_,_] rfl ⟨fun _ _ hk hx hl _=>Yq rfl (hl.env 0 0 _ rfl rfl) (hS _ hk.size) (js hJ hx),trivial⟩ ?_
 refine Zf (hqs tb hJ [0,1,1001,1006] [_,_,_,.ptr [lS (ge l 0)],_,.bool (decide ((ge l 0)∈d.consts)),_] [3,5] U4 rfl ⟨iIx (k:=0) Zd,iFn hS hJ (Zci hJ d.consts (ge l 0)) XW,trivial⟩ ?_)
 refine ln 2 fun hl2=>?_
 refine cj 3 (fun hb1=>?_) fun hb1=>?_
 try simp at hb1
 refine qs tb hJ [1000] [_] [_] ?_
 exact Ze (rtn (m:=0) rfl rfl (eI ((ZoQ hb1).symm)))
 try simp at hb1
 refine Zb (nx (Zf (qs tb hJ [0,1,1000] [_] U3 ?_)))
 refine Zc (lp (ι:=Nat) (fun k=>(1≤k)∧(k≤l.length)∧(∀ j,0<j→j<k→Zdj d (ge l j)=true)) (fun k=>[(5,.int (k:Nat))]) (fun k=>l.length-k) [0,1,2] [_,_] 1 (show(1≤1)∧(1≤l.length)∧(∀ j,0<j→j<1→Zdj d (ge l j)=true)from by first | trivial | grind) ?_)
 rintro k ⟨f1_1,f1_2,f1_3⟩
 refine Zf (hqs tb hJ [0,1,2,1003] [_,_,.int (l.length:Nat),_] [2] U4 rfl ⟨Z2 Zm,trivial⟩ ?_)
 refine cj 3 (fun hb2=>?_) fun hb2=>?_
 try simp at hb2
 refine Zb (nx (Zf (Zc (hqs tb hJ [0,1,2,1006] [_,_,_,.ptr [lS (ge l k)],_,.bool (Zdj d (ge l k)),_] [3,5] U4 rfl ⟨iIx Zd,iFn hS hJ (Zg2 hJ d (ge l k)) Zjv,trivial⟩ ?_))))
 refine cj 3 (fun hb3=>?_) fun hb3=>?_
 try simp at hb3
 refine qs tb hJ [1000] [_] [_] ?_
 exact Ze (rtn (m:=0) rfl rfl (eI ((ZkL (by omega) (by omega) hb3).symm)))
 try simp at hb3
 refine Zb (nx (hqp tb hJ [0,1,1002] [_,.int (k+1:Nat),_] [1] U3 rfl ⟨Ya,trivial⟩ ?_))
 exact lpE (k+1) [0,1,2] ⟨by first | omega | (simp;omega) | grind[Zv],by first | omega | (simp;omega) | grind[Zv],by first | omega | (simp;omega) | grind[Zv]⟩
 try simp at hb2
 refine Zt (nx (qs tb hJ [1000] [_] [_] ?_))
 exact Ze (rtn (m:=0) rfl rfl (eI ((ZkK hb1 fun j h1 h2=>f1_3 j h1 (by omega)).symm)))
theorem ZsN {J:World→Prop} (hJ:Stab J) (xs:List BA) (ys:List BA)  :Fn prog J 100 [.rd (Zg xs),.rd (Zg ys)] (.int (Zd7 xs ys:Nat)):=by
 refine Zo (N:=30) Tryz.func100 rfl rfl (lb rfl) fun S w0 hS hJ0=>?_
 clear hJ0
 refine ln 0 fun hl1=>?_
 refine ln 1 fun hl2=>?_
 refine qs tb hJ [0,1] [_] [_,_] ?_
 refine qs tb hJ [0,1,1000] [_] U3 ?_
 refine Zf (Zc (lp (ι:=Nat) (fun k=>(k≤xs.length)∧(k≤ys.length)∧(∀ j,j<k→ge xs j=ge ys j)) (fun k=>[(5,.int (k:Nat))]) (fun k=>xs.length-k) [0,1,2] [_,_] 0 (show(0≤xs.length)∧(0≤ys.length)∧(∀ j,j<0→ge xs j=ge ys j)from by first | trivial | grind) ?_))
 rintro k ⟨f1_1,f1_2,f1_3⟩
 refine Zf (hqs tb hJ [0,1,2,1020] [_,_,.int (xs.length:Nat),_,_,_,_,.int (ys.length:Nat),_,_,_,_,_,.ptr [lS (ge xs k)],_,_,_,.ptr [lS (ge ys k)],_,_,_] [2,7,13,17] U4 rfl ⟨Z2 Zm,Z2 Zm,gIx Zd (hk:=fun(hc':(((decide ((k:Int)< (xs.length:Int)))&& (decide ((k:Int)< (ys.length:Int))))==true)=true)=>by(try simp at hc');first | omega | (simp;omega) | grind[Zv]),gIx Zd (hk:=fun(hc':(((decide ((k:Int)< (xs.length:Int)))&& (decide ((k:Int)< (ys.length:Int))))==true)=true)=>by(try simp at hc');first | omega | (simp;omega) | grind[Zv]),trivial⟩ ?_)
 refine cj 3 (fun hb1=>?_) fun hb1=>?_
 try simp at hb1
 refine Zb (nx (Zc (hqp tb hJ [0,1,1002] [_,.int (k+1:Nat),_] [1] U3 rfl ⟨Ya,trivial⟩ ?_)))
 exact lpE (k+1) [0,1,2] ⟨by first | omega | (simp;omega) | grind[Zv],by first | omega | (simp;omega) | grind[Zv],by first | omega | (simp;omega) | grind[Zv]⟩
 try simp at hb1
 refine Zt (nx (qs tb hJ [1001] [_,_] [_] ?_))
 exact Ze (rtn (m:=0) rfl rfl (eI (by rw[Zjt xs ys k f1_1 f1_2 f1_3 (by grind)])))
theorem ZsK {J:World→Prop} (hJ:Stab J) (l:List Pr) (vs:List BA) (b:l.length*32≤140737488351232):Fn prog J 139 [.rd (Xc l),.rd (Zg vs)] (.rd (Xc (l.filter (inV vs)))):=by
 refine Zo (N:=38) Tryz.func139 rfl rfl (lb rfl) fun S w0 hS hJ0=>?_
 refine tw Z1 ?_
 refine ln 0 fun hl1=>?_
 refine ln 1 fun hl2=>?_
 refine qso tb hJ [0,1] [_] [_,_] ?_
 refine tsq ?_
 refine Xp Zu hJ rfl rfl rfl (lb rfl) fun v1=>?_
 refine snK 1 tb rfl ?_
 refine seK [0,2,3] U3 rfl ?_
 refine nx (Zf (qso tb hJ [0,1,2,1000] [_] U4 ?_))
 refine Zc (lpo (ι:=Nat×Value×(List Pr)) (fun(k,_,out)=>(k≤l.length)∧(out=(l.take k).filter (inV vs))∧(out.length≤k)) (fun(_,v,out)=>[OB.row v 104 2 (out.map prC)]) (fun(k,v,_)=>[(6,.int (k:Nat)),(5,.lit v)]) (fun(k,_,_)=>l.length-k) [1,2,3,0] [_,_] (0,v1,([]:List Pr)) ⟨Nat.zero_le _,by simp,by simp⟩ ?_)
 rintro⟨k,v,out⟩ ⟨f1_1,f1_2,f1_3⟩
 refine Zf (ZG tb hJ [0,1,2,3,1003] [_,_,.int (l.length:Nat),_] [2] U5 rfl ⟨Z2 ZL,trivial⟩ ?_)
 refine cj 4 (fun hb1=>?_) fun hb1=>?_
 try simp at hb1
 refine Zb (nx (Zf (Zc (ZG tb hJ [0,1,2,3,1015] [_,_,_,.ptr (prC (ge l k)),_,_,.bool (decide (((ge l k).a)∈vs)),_,_,_,_,.ptr (prC (ge l k)),_,_,.bool (decide (((ge l k).b)∈vs)),_] [3,6,11,14] U5 rfl ⟨iIx Zu,iFo hS hJ (Zci hJ vs ((ge l k).a)) XW,gIx Zu (hk:=fun(hc':((decide (((ge l k).a)∈vs))==true)=true)=>by(try simp at hc');first | omega | (simp;omega) | grind[Zv]),iFo hS hJ (Zci hJ vs ((ge l k).b)) XW,trivial⟩ ?_))))
 refine cj 4 (fun hb2=>?_) fun hb2=>?_
 try simp at hb2
 refine ZE (snK 3 tb rfl ?_)
 refine sy (.ptr (prC (ge l k))) (fun h=>ZO (i:=(k:Int)) Zu rfl (h.get 1 rfl) (h.get 0 rfl) (Int.natCast_nonneg _) (ZU (xs:=l) (k:=k) sfz) rfl h.x) ?_
 refine snK 1 tb rfl ?_
 refine sy (.rd (Xc ([(ge l k)]))) (fun h=>Y7 Zu Zgd (by decide) rfl rfl (h.get 0 rfl) (Zp hS _ h.keep h.x _ (Nat.le_refl _)) (jo hJ h.x)) ?_
 refine ZR (f:=prC) (m:=5) (s:=30) out ([(ge l k)]) (fun _=>rfl) Zcb hJ hJ0 rfl rfl rfl (lb rfl) rfl rfl (fun a w h=>(h.get 0 rfl)) sfz sfz fun v2=>?_
 refine snK 1 tb rfl ?_
 refine seK [0,2,8,9,10] U5 rfl ?_
 refine nx (ln 1 fun hl3=>?_)
 refine Yu tb hJ [0,2,3,1002] [_,.int (k+1:Nat),_] [1] U4 rfl ⟨Ya,trivial⟩ ?_
 exact YH (k+1,v2,out++([(ge l k)])) [1,2,3,0] ⟨by omega,by rw[Z6 (by omega),f1_2];simp[inV,hb2],by simp;omega⟩
 try simp at hb2
 refine Zb (nx (Yu tb hJ [0,1,3,1002] [_,.int (k+1:Nat),_] [1] U4 rfl ⟨Ya,trivial⟩ ?_))
 exact YH (k+1,v,out) [0,1,3,2] ⟨by omega,by rw[Z6 (by omega),f1_2];simp[inV];grind,by omega⟩
 try simp at hb1
 refine Zt (nx (qso tb hJ [1001] [_,_] [_] ?_))
 refine tw (fun h=>ZN hS h (m:=0) (s:=4) rfl) ?_
 exact Ze (Xe (m:=0) rfl rfl (congrArg (fun z=>AV.rd (Xc z)) (show out=(l.filter (inV vs))from by rw[f1_2,ZF (by omega)])))
theorem ZjB {J:World→Prop} (hJ:Stab J) (l:List (List BA)) (vs:List BA) (b:vs.length≤8000):Fn prog J 135 [.rd (Yg l),.rd (Zg vs)] (.rd (Zg (Q7 vs l.flatten))):=by
 refine Zo (N:=46) Tryz.func135 rfl rfl (lb rfl) fun S w0 hS hJ0=>?_
 refine tw Z1 ?_
 refine ln 0 fun hl1=>?_
 refine ln 1 fun hl2=>?_
 refine qso tb hJ [0,1] [_] [_,_] ?_
 refine tsq ?_
 refine Xp Zd hJ rfl rfl rfl (lb rfl) fun v1=>?_
 refine snK 1 tb rfl ?_
 refine seK [0,2,3] U3 rfl ?_
 refine nx (Zf (qso tb hJ [0,1,2,1000] [_] U4 ?_))
 refine Zc (lpo (ι:=Nat×Value×(List BA)) (fun(k,_,out)=>(k≤l.length)∧(out=Q7 vs (l.take k).flatten)) (fun(_,v,out)=>[OB.row v 9 1 (out.map Zad)]) (fun(k,v,_)=>[(6,.int (k:Nat)),(5,.lit v)]) (fun(k,_,_)=>l.length-k) [1,2,3,0] [_,_] (0,v1,([]:List BA)) ⟨Nat.zero_le _,by simp[Q7]⟩ ?_)
 rintro⟨k,v,out⟩ ⟨f1_1,f1_2⟩
 refine Zf (ZG tb hJ [0,1,2,3,1003] [_,_,.int (l.length:Nat),_] [2] U5 rfl ⟨Z2 Qy,trivial⟩ ?_)
 refine cj 4 (fun hb1=>?_) fun hb1=>?_
 try simp at hb1
 refine Zb (nx (Zf (Zc (qso tb hJ [0,1,2,3,1000] [_] U5 ?_))))
 refine Zc (lpo (ι:=Nat×Value×(List BA)) (fun(j,_,out2)=>(j≤(ge l k).length)∧(out2=Q7 vs ((l.take k).flatten++(ge l k).take j))) (fun(_,vb,out2)=>[OB.row vb 9 1 (out2.map Zad)]) (fun(j,vb,_)=>[(7,.int (j:Nat)),(5,.lit vb)]) (fun(j,_,_)=>(ge l k).length-j) [0,1,2,4,3] U3 (0,v,out) ⟨Nat.zero_le _,by simp[f1_2]⟩ ?_)
 rintro⟨j,vb,out2⟩ ⟨f2_1,f2_2⟩
 refine Zf (ZG tb hJ (r5 [1004,1006]) [_,_,_,.ptr [Zg (ge l k)],_,.int ((ge l k).length:Nat),_] [3,5] U7 rfl ⟨iIx ZH,Z2 Zm,trivial⟩ ?_)
 refine ln 5 fun hl3=>?_
 refine cj 6 (fun hb2=>?_) fun hb2=>?_
 try simp at hb2
 refine Zb (nx (Zf (Zc (ZG tb hJ (r5 [1007]) [_,_,.ptr [Zg (ge l k)],_,_,.ptr [lS (ge (ge l k) j)],_,_] [2,5] U6 rfl ⟨iIx ZH,iIx Zd,trivial⟩ ?_))))
 refine ZoI tb hJ (r6 [1008]) [_,_,.bool (decide ((ge (ge l k) j)∈vs)),_,_,_,.bool (decide ((ge (ge l k) j)∈out2)),_,_] [2,6] U7 rfl ⟨iFr hS hJ (Zci hJ vs (ge (ge l k) j)) XW,fun _ _ hk hx hl hc=>Zbw (Zci hJ out2 (ge (ge l k) j)) XW rfl (nm hS hk) (hx.1) (Za (Qn hS hx (mo 0 rfl) (hl.dep 4 36 _ rfl rfl rfl hc)) (Za (hl.dep 5 37 _ rfl rfl rfl hc) Zh)) (jo hJ hx),trivial⟩ ?_
 refine cj 6 (fun hb3=>?_) fun hb3=>?_
 try simp at hb3
 refine ZE (snK 2 tb rfl ?_)
 refine sy (.rd (Zg ([(ge (ge l k) j)]))) (fun h=>YD Zd ZaT rfl (h.get 0 rfl) (Zp hS _ h.keep h.x _ (Nat.le_refl _)) (jo hJ h.x)) ?_
 refine ZR (f:=Zad) (m:=2) (s:=41) out2 ([(ge (ge l k) j)]) (fun _=>rfl) Xh hJ hJ0 rfl rfl rfl (lb rfl) rfl rfl (fun a w h=>(h.get 0 rfl)) (by have:=Zob vs ((l.take k).flatten++(ge l k).take j);simp[f2_2];omega) (by have:=Zob vs ((l.take k).flatten++(ge l k).take j);simp[f2_2];omega) fun v2=>?_
 refine snK 1 tb rfl ?_
 refine seK [0,2,5,6,7,8] U6 rfl ?_
 refine nx (ln 1 fun hl4=>?_)
 refine Yu tb hJ [0,2,3,4,1002] [_,.int (j+1:Nat),_] [1] U5 rfl ⟨Ya,trivial⟩ ?_
 exact YH (j+1,v2,out2++([(ge (ge l k) j)])) [1,2,3,4,0] ⟨by omega,by rw[Z0 (by omega),←List.append_assoc,ZbJ,←f2_2];simp[hb3]⟩
 try simp at hb3
 refine Zb (nx (Yu tb hJ [0,1,2,4,1002] [_,.int (j+1:Nat),_] [1] U5 rfl ⟨Ya,trivial⟩ ?_))
 exact YH (j+1,vb,out2) [0,1,2,4,3] ⟨by omega,by rw[Z0 (by omega),←List.append_assoc,ZbJ,←f2_2];simp;grind⟩
 try simp at hb2
 refine Zt (nx (Yu tb hJ [0,1,4,1002] [_,.int (k+1:Nat),_] [1] U4 rfl ⟨Ya,trivial⟩ ?_))
 exact YH (k+1,vb,out2) [0,1,3,2] ⟨by omega,by rw[f2_2,ZF (xs:=ge l k) (by omega),Z0 (by omega)];simp⟩
 try simp at hb1
 refine Zt (nx (qso tb hJ [1001] [_,_] [_] ?_))
 refine tw (fun h=>ZN hS h (m:=0) (s:=4) rfl) ?_
 exact Ze (Xe (m:=0) rfl rfl (congrArg (fun z=>AV.rd (Zg z)) (show out=(Q7 vs l.flatten)from by rw[f1_2,ZF (by omega)])))
theorem ZdP {J:World→Prop} (hJ:Stab J) (f:Fr) (b:f.hyps.length*48≤140737488351232):Fn prog J 99 [.agg (frC f)] (.rd (Zg ((YX f.hyps).map Hy.label))):=by
 refine Zo (N:=30) Tryz.func99 rfl rfl (lb rfl) fun S w0 hS hJ0=>?_
 refine tw Z1 ?_
 refine ZG tb hJ [1000] [.ptr (frC f),_] [0] [_] rfl ⟨fun _ _ hk hx hl _=>Yq rfl (hl.env 0 0 _ rfl rfl) (Zp hS _ hk hx _ (Nat.le_refl _)) (jo hJ hx),trivial⟩ ?_
 refine tsq ?_
 refine Xp Zd hJ rfl rfl rfl (lb rfl) fun v1=>?_
 refine snK 1 tb rfl ?_
 refine seK [0,2] [_,_] rfl ?_
 refine nx (Zf (qso tb hJ [0,1,1000] [_] U3 ?_))
 refine Zc (lpo (ι:=Nat×Value×(List BA)) (fun(k,_,out)=>(k≤f.hyps.length)∧(out=(YX (f.hyps.take k)).map Hy.label)∧(out.length≤k)) (fun(_,v,out)=>[OB.row v 9 1 (out.map Zad)]) (fun(k,v,_)=>[(4,.int (k:Nat)),(3,.lit v)]) (fun(k,_,_)=>f.hyps.length-k) [1,2,0] [_] (0,v1,([]:List BA)) ⟨Nat.zero_le _,by simp[YX],by simp⟩ ?_)
 rintro⟨k,v,out⟩ ⟨f1_1,f1_2,f1_3⟩
 refine Zf (ZG tb hJ [0,1,2,1002,1004] [_,_,_,.int (f.hyps.length:Nat),_] [3] U5 rfl ⟨Z2 Zx,trivial⟩ ?_)
 refine ln 3 fun hl1=>?_
 refine cj 4 (fun hb1=>?_) fun hb1=>?_
 try simp at hb1
 refine Zb (nx (Zf (Zc (ZG tb hJ [0,1,2,1006] [_,_,_,.ptr (hyC (ge f.hyps k)),_,_,_] [3] U4 rfl ⟨iIx Zq,trivial⟩ ?_))))
 refine cj 3 (fun hb2=>?_) fun hb2=>?_
 try simp at hb2
 refine ZE (snK 4 tb rfl ?_)
 refine sy (.ptr (hyC (ge f.hyps k))) (fun h=>ZO (i:=(k:Int)) Zq rfl (h.get 1 rfl) (h.get 0 rfl) (Int.natCast_nonneg _) (ZU (xs:=f.hyps) (k:=k) sfz) rfl h.x) ?_
 refine snK 2 tb rfl ?_
 refine sy (.rd (Zg ([(ge f.hyps k).label]))) (fun h=>YD Zd ZaT rfl (h.get 0 rfl) (Zp hS _ h.keep h.x _ (Nat.le_refl _)) (jo hJ h.x)) ?_
 refine ZR (f:=Zad) (m:=7) (s:=20) out ([(ge f.hyps k).label]) (fun _=>rfl) Xh hJ hJ0 rfl rfl rfl (lb rfl) rfl rfl (fun a w h=>(h.get 0 rfl)) sfz sfz fun v2=>?_
 refine snK 1 tb rfl ?_
 refine seK [0,2,10,11] U4 rfl ?_
 refine nx (ln 1 fun hl2=>?_)
 refine Yu tb hJ [0,2,1002] [_,.int (k+1:Nat),_] [1] U3 rfl ⟨Ya,trivial⟩ ?_
 exact YH (k+1,v2,out++([(ge f.hyps k).label])) [1,2,0] ⟨by omega,by rw[YX,Z6 (by omega),f1_2];simp[YX,hb2],by simp;omega⟩
 try simp at hb2
 refine Zb (nx (Yu tb hJ [0,2,1002] [_,.int (k+1:Nat),_] [1] U3 rfl ⟨Ya,trivial⟩ ?_))
 exact YH (k+1,v,out) [0,2,1] ⟨by omega,by rw[YX,Z6 (by omega),f1_2];simp[YX,hb2],by omega⟩
 try simp at hb1
 refine Zt (nx (qso tb hJ [1001] [_,_] [_] ?_))
 refine tw (fun h=>ZN hS h (m:=0) (s:=2) rfl) ?_
 exact Ze (Xe (m:=0) rfl rfl (congrArg (fun z=>AV.rd (Zg z)) (show out=((YX f.hyps).map Hy.label)from by rw[f1_2,ZF (by omega)])))
theorem Zmn {J:World→Prop} (hJ:Stab J) (hs:List Hy) (t:List BA) (b:hs.length≤40):Fn prog J 136 [.rd (Xm hs),.rd (Zg t)] (.rd (Yg (t::(YX hs).map Hy.text))):=by
 refine Zo (N:=30) Tryz.func136 rfl rfl (lb rfl) fun S w0 hS hJ0=>?_
 refine tw Z1 ?_
 refine ln 0 fun hl1=>?_
 refine ln 1 fun hl2=>?_
 refine qso tb hJ [0,1] [_] [_,_] ?_
 refine tsq ?_
 refine snK 1 tb rfl ?_
 refine Zm8 ZH Za8 hJ rfl rfl rfl (lb rfl) (fun _ _ h=>(h.get 0 rfl)) fun v1=>?_
 refine snK 1 tb rfl ?_
 refine seK [0,3] [_,_] rfl ?_
 refine nx (Zf (qso tb hJ [0,1,1000] [_] U3 ?_))
 refine Zc (lpo (ι:=Nat×Value×(List (List BA))) (fun(k,_,out)=>(k≤hs.length)∧(out=t::(YX (hs.take k)).map Hy.text)∧(out.length≤k+1)) (fun(_,v,out)=>[OB.row v 22 1 (out.map Zr)]) (fun(k,v,_)=>[(6,.int (k:Nat)),(5,.lit v)]) (fun(k,_,_)=>hs.length-k) [1,2,0] [_] (0,v1,[t]) ⟨Nat.zero_le _,by simp[YX],by simp⟩ ?_)
 rintro⟨k,v,out⟩ ⟨f1_1,f1_2,f1_3⟩
 refine Zf (ZG tb hJ [0,1,2,1003] [_,_,.int (hs.length:Nat),_] [2] U4 rfl ⟨Z2 Zx,trivial⟩ ?_)
 refine cj 3 (fun hb1=>?_) fun hb1=>?_
 try simp at hb1
 refine Zb (nx (Zf (Zc (ZG tb hJ [0,1,2,1005] [_,_,.ptr (hyC (ge hs k)),_,_,_] [2] U4 rfl ⟨iIx Zq,trivial⟩ ?_))))
 refine cj 3 (fun hb2=>?_) fun hb2=>?_
 try simp at hb2
 refine ZE (snK 3 tb rfl ?_)
 refine sy (.ptr (hyC (ge hs k))) (fun h=>ZO (i:=(k:Int)) Zq rfl (h.get 1 rfl) (h.get 0 rfl) (Int.natCast_nonneg _) (ZU (xs:=hs) (k:=k) sfz) rfl h.x) ?_
 refine snK 2 tb rfl ?_
 refine sy (.rd (Yg ([(ge hs k).text]))) (fun h=>YD ZH Za8 rfl (h.get 0 rfl) (Zp hS _ h.keep h.x _ (Nat.le_refl _)) (jo hJ h.x)) ?_
 refine ZR (f:=Zr) (m:=6) (s:=21) out ([(ge hs k).text]) (fun _=>rfl) QZ hJ hJ0 rfl rfl rfl (lb rfl) rfl rfl (fun a w h=>(h.get 0 rfl)) sfz sfz fun v2=>?_
 refine snK 1 tb rfl ?_
 refine seK [0,2,3,9,10] U5 rfl ?_
 refine nx (ln 1 fun hl3=>?_)
 refine ln 2 fun hl4=>?_
 refine Yu tb hJ [0,3,1002] [_,.int (k+1:Nat),_] [1] U3 rfl ⟨Ya,trivial⟩ ?_
 exact YH (k+1,v2,out++([(ge hs k).text])) [1,2,0] ⟨by omega,by rw[YX,Z6 (by omega),f1_2];simp[YX,hb2],by simp;omega⟩
 try simp at hb2
 refine Zb (nx (Yu tb hJ [0,2,1002] [_,.int (k+1:Nat),_] [1] U3 rfl ⟨Ya,trivial⟩ ?_))
 exact YH (k+1,v,out) [0,2,1] ⟨by omega,by rw[YX,Z6 (by omega),f1_2];simp[YX,hb2],by omega⟩
 try simp at hb1
 refine Zt (nx (qso tb hJ [1001] [_,_] [_] ?_))
 refine tw (fun h=>ZN hS h (m:=0) (s:=4) rfl) ?_
 exact Ze (Xe (m:=0) rfl rfl (congrArg (fun z=>AV.rd (Yg z)) (show out=(t::(YX hs).map Hy.text)from by rw[f1_2,ZF (by omega)])))
end Go.Proofs.YtneapgbkkkjagaaGreatDoor
set_option maxHeartbeats 8000000
set_option maxRecDepth 100000
namespace Go.Proofs.YtneapgbkkkjagaaGreatDoor
open Go.RowKit
theorem ZsO {J:World→Prop} (hJ:Stab J) (d:Db) (k:Nat) (hn:k≤d.frames.length) (hk0:k≤400) (hz:0<k→(ge d.frames (k-1)).hyps.length≤40):Fn Tryz.prog J 101 [.agg (dbC d),.int (k:Nat)] (.rd (Zg (ZjH d k))):=by
 refine Zo (N:=14) Tryz.func101 rfl rfl (lb rfl) fun S w0 hS hJ0=>?_
 clear hJ0
 refine hqs tb hJ [1,1000] [.ptr (dbC d),_] [0] [_,_] rfl ⟨fun _ _ hk hx hl _=>Yq rfl (hl.env 0 0 _ rfl rfl) (hS _ hk.size) (js hJ hx),trivial⟩ ?_
 refine Zf (qs tb hJ [0,1,1001] [_,_] U3 ?_)
 refine cj 2 (fun hb1=>?_) fun hb1=>?_
 try simp at hb1
 refine qs tb hJ [1000] [_] [_] ?_
 refine tw (fun h=>Z3 h (m:=0) (s:=4) rfl) ?_
 exact Ze (rtn (m:=0) rfl rfl (congrArg (fun z=>AV.rd (Zg z)) (show([]:List BA)=(ZjH d k)from by simp[ZjH,hb1])))
 try simp at hb1
 refine Zb (nx (hqs tb hJ [1001,1006,1007] [_,_,_,.int ((k:Int)-(1:Int)),.ptr (frC (ge d.frames ((k:Int)-(1:Int)).toNat)),_,.rd (Zg ((YX (ge d.frames ((k:Int)-(1:Int)).toNat).hyps).map Hy.label)),_] [3,4,6] U3 rfl ⟨Zu8,iIz ZS,iFn hS hJ (ZdP hJ (ge d.frames ((k:Int)-(1:Int)).toNat) (by have:=hz (by omega);rw[show((k:Int)-1).toNat=k-1 by omega];omega)) Zpe,trivial⟩ ?_))
 refine ln 0 fun hl1=>?_
 refine ln 1 fun hl2=>?_
 exact Ze (rtn (m:=2) rfl rfl (congrArg (fun z=>AV.rd (Zg z)) (show((YX (ge d.frames ((k:Int)-(1:Int)).toNat).hyps).map Hy.label)=(ZjH d k)from by rw[ZjH,if_neg hb1,show((k:Int)-1).toNat=k-1 by omega])))
theorem ZjC {J:World→Prop} (hJ:Stab J) (d:Db) (n:Nat) (s:BA) (hn:n≤d.frames.length) (hz:∀ i,i<n→(ge d.frames i).hyps.length≤40∧(ge d.frames i).dummies.length≤40):Fn Tryz.prog J 92 [.agg (dbC d),.int (n:Nat),.str s] (.tup [.bool (frL d n s),.bool (hyL d n s)]):=by
 refine Zo (N:=51) Tryz.func92 rfl rfl (lb rfl) fun S w0 hS hJ0=>?_
 clear hJ0
 refine hqs tb hJ [1,2,1000,1001,1002] [.ptr (dbC d),_,_] [0] U5 rfl ⟨fun _ _ hk hx hl _=>Yq rfl (hl.env 0 0 _ rfl rfl) (hS _ hk.size) (js hJ hx),trivial⟩ ?_
 refine Zf (qs tb hJ (r5 [1000]) [_] U6 ?_)
 refine Zc (lp (ι:=Nat×Bool×Bool) (fun(k,p,q)=>(k≤n)∧(p=frL d k s)∧(q=hyL d k s)) (fun(k,p,q)=>[(8,.int (k:Nat)),(6,.bool p),(7,.bool q)]) (fun(k,_,_)=>n-k) [0,1,2,5,3,4] U3 (0,false,false) ⟨Nat.zero_le _,by simp[frL],by simp[hyL]⟩ ?_)
 rintro⟨k,p,q⟩ ⟨f1_1,f1_2,f1_3⟩
 refine Zf (qs tb hJ (r6 [1002]) U3 U7 ?_)
 refine cj 6 (fun hb1=>?_) fun hb1=>?_
 try simp at hb1
 refine Zb (nx (Zf (Zc (hqs tb hJ [0,1,2,3,5,1011] [_,_,_,_,_,.ptr (frC (ge d.frames k)),_,_,_,_,_,_] [5] U6 rfl ⟨gIx ZS (hk:=fun(hc':(p==false)=true)=>by(try simp at hc');first | omega | (simp;omega) | grind[Zv]),trivial⟩ ?_))))
 refine hqs tb hJ (r6 [1001,1005,1006]) [_,_,_,.ptr (frC (ge d.frames k)),_,.rd (Xm ((ge d.frames k).hyps++(ge d.frames k).dummies)),_] [3,5] U9 rfl ⟨iIx ZS,iFn hS hJ (ZsQ hJ (ge d.frames k) (by have:=hz k (by omega);omega)) ZgU,trivial⟩ ?_
 refine ln 6 fun hl1=>?_
 refine ln 7 fun hl2=>?_
 refine qs tb hJ (r6 [8,1000]) [_] U8 ?_
 refine Zc (lp (ι:=Nat×Bool) (fun(j,q2)=>(j≤((ge d.frames k).hyps++(ge d.frames k).dummies).length)∧(q2=(hyL d k s|| (((ge d.frames k).hyps++(ge d.frames k).dummies).take j).any fun h=>decide (h.label=s)))) (fun(j,q2)=>[(10,.int (j:Nat)),(7,.bool q2)]) (fun(j,_)=>((ge d.frames k).hyps++(ge d.frames k).dummies).length-j) [0,1,2,3,5,6,7,4] U6 (0,q) ⟨Nat.zero_le _,by simp[f1_3]⟩ ?_)
 rintro⟨j,q2⟩ ⟨f2_1,f2_2⟩
 refine Zf (hqs tb hJ (r8 [1003]) [_,_,.int (((ge d.frames k).hyps++(ge d.frames k).dummies).length:Nat),_] [2] U9 rfl ⟨Z2 Zx,trivial⟩ ?_)
 refine cj 8 (fun hb2=>?_) fun hb2=>?_
 try simp at hb2
 refine Zb (nx (Zf (Zc (hqp tb hJ (r7 [1010]) [_,_,_,_,.ptr (hyC (ge ((ge d.frames k).hyps++(ge d.frames k).dummies) j)),_,_,_,_,_,_] [4] U8 rfl ⟨gIx Zq (hk:=fun(hc':(q2==false)=true)=>by(try simp at hc');first | omega | (simp;omega) | grind[Zv]),trivial⟩ ?_))))
 refine nx (hqp tb hJ (r6 [7,1002]) [_,.int (j+1:Nat),_] [1] U8 rfl ⟨Ya,trivial⟩ ?_)
 exact lpE (j+1,q2|| (decide (((ge ((ge d.frames k).hyps++(ge d.frames k).dummies) j).label)=s))) (r6 [7,6]) ⟨by simp;omega,by rw[Qq (by simp;omega),←Bool.or_assoc,←f2_2]⟩
 try simp at hb2
 refine Zt (nx (hqp tb hJ [0,1,2,4,7,1002] [_,.int (k+1:Nat),_] [1] U6 rfl ⟨Ya,trivial⟩ ?_))
 exact lpE (k+1,p|| (decide (((ge d.frames k).label)=s)),q2) [0,1,2,5,3,4] ⟨by omega,by rw[f1_2,frL,frL,Qq (by omega)],by rw[f2_2,ZF (xs:=((ge d.frames k).hyps++(ge d.frames k).dummies)) (by simp;omega),hyL,hyL,Qq (by omega)]⟩
 try simp at hb1
 refine Zt (nx (qs tb hJ [1002,1003] U4 [_,_] ?_))
 exact Ze (fun a w h=>YM (m:=0) (k:=1) rfl h rfl rfl (eB (by rw[f1_2,show k=n by omega])) (eB (by rw[f1_3,show k=n by omega])))
theorem c_less {J:World→Prop} (hJ:Stab J) (x:Pr) (y:Pr)  :Fn Tryz.prog J 184 [.agg (prC x),.agg (prC y)] (.bool (ltP x y)):=by
 refine Zo (N:=24) Tryz.func184 rfl rfl (lb rfl) fun S w0 hS hJ0=>?_
 clear hJ0
 refine hqs tb hJ [1000,1001] [.ptr (prC x),.ptr (prC y),_] [0,1] [_,_] rfl ⟨fun _ _ hk hx hl _=>Yq rfl (hl.env 0 0 _ rfl rfl) (hS _ hk.size) (js hJ hx),fun _ _ hk hx hl _=>Yq rfl (hl.env 1 1 _ rfl rfl) (hS _ hk.size) (js hJ hx),trivial⟩ ?_
 refine qs tb hJ [1019] [_,_,_,_,_,_,_,_,_,_,_,_,_,_,_,_,_,_,_,_] [_] ?_
 exact Ze (rtn (m:=0) rfl rfl (eB (by first | rfl | grind[Zv])))
theorem c_put {J:World→Prop} (hJ:Stab J) (l:List Pr) (p:Pr) (b:(l.length+1)*32≤140737488351264):Fn Tryz.prog J 164 [.rd (Xc l),.agg (prC p)] (.rd (Xc (ZcQ l p))):=by
 refine Zo (N:=45) Tryz.func164 rfl rfl (lb rfl) fun S w0 hS hJ0=>?_
 refine tw Z1 ?_
 refine ln 0 fun hl1=>?_
 refine ZG tb hJ [0,1000] [.ptr (prC p),_] [0] [_,_] rfl ⟨fun _ _ hk hx hl _=>Yq rfl (hl.env 1 1 _ rfl rfl) (Zp hS _ hk hx _ (Nat.le_refl _)) (jo hJ hx),trivial⟩ ?_
 refine qso tb hJ [0,1,1000] [_] U3 ?_
 refine Zf (Zc (lpo (ι:=Nat) (fun k=>(k≤l.length)∧(∀ j,j<k→ltP (ge l j) p=true)) (fun _=>[]) (fun k=>[(5,.int (k:Nat))]) (fun k=>l.length-k) [0,1,2] [_,_] 0 (show(0≤l.length)∧(∀ j,j<0→ltP (ge l j) p=true)from by first | trivial | grind) ?_))
 rintro k ⟨f1_1,f1_2⟩
 refine Zf (ZG tb hJ [0,1,2,1011] [_,_,.int (l.length:Nat),_,_,_,_,.ptr (prC (ge l k)),_,_,.bool (ltP (ge l k) p),_] [2,7,10] U4 rfl ⟨Z2 ZL,gIx Zu (hk:=fun(hc':((decide ((k:Int)< (l.length:Int)))==true)=true)=>by(try simp at hc');first | omega | (simp;omega) | grind[Zv]),iFo hS hJ (c_less hJ (ge l k) p) ZrO,trivial⟩ ?_)
 refine cj 3 (fun hb1=>?_) fun hb1=>?_
 try simp at hb1
 refine Zb (nx (Zc (Yu tb hJ [0,1,1002] [_,.int (k+1:Nat),_] [1] U3 rfl ⟨Ya,trivial⟩ ?_)))
 exact YH (k+1) [0,1,2] ⟨by omega,ZK f1_2 (by simp_all)⟩
 try simp at hb1
 refine Zt (nx (Zf (ZG tb hJ [0,1,2,1011] [_,_,.int (l.length:Nat),_,_,_,_,.ptr (prC (ge l k)),_,_,.bool (decide ((ge l k).a=p.a)&&decide ((ge l k).b=p.b)),_] [2,7,10] U4 rfl ⟨Z2 ZL,gIx Zu (hk:=fun(hc':((decide ((k:Int)< (l.length:Int)))==true)=true)=>by(try simp at hc');first | omega | (simp;omega) | grind[Zv]),fun _ _ _ hx hl hc=>Znz Zf0 rfl (hl.dep 8 28 _ rfl rfl rfl hc) (hl.dep 9 29 _ rfl rfl rfl hc) hx,trivial⟩ ?_)))
 refine cj 3 (fun hb2=>?_) fun hb2=>?_
 try simp at hb2
 refine qso tb hJ [1001] [_,_] [_] ?_
 exact Ze (Xe (m:=0) rfl rfl (congrArg (fun z=>AV.rd (Xc z)) (show l=(ZcQ l p)from by rw[Zi0 l p k f1_1 f1_2 (by grind),if_pos ⟨hb2.1,by simp[Zfj,hb2]⟩])))
 try simp at hb2
 refine Zb (nx (Zf (fun a w h=>Zbd (id:=6) (t:=57) (e:=104) (size:=2) (bytes:=32) (i0:=0) (fol:=12) (d:=4) (ch:=[(4,((l.take k).map prC)),(7,(([p]).map prC)),(11,((l.drop k).map prC))]) (fun ix'=>([.any,.rd (Xc l),.int (k:Nat),.rd (Xc (l.take k)),.any,.agg (prC p),.rd (Xc ([p])),.any,.rd (Xc l),.int (k:Nat),.rd (Xc (l.drop k)),.any,.any]:List AV).getD ix' .any) (fun _=>true) [] (((l.take k)++([p])++(l.drop k)).map prC) (by simp) ?r6_1 hJ hJ0 h YC rfl rfl rfl rfl ⟨?_,⟨?_,⟨?_,⟨?_,⟨?_,⟨?_,⟨?_,⟨?_,⟨?_,⟨?_,⟨?_,⟨?_,⟨?_,trivial⟩⟩⟩⟩⟩⟩⟩⟩⟩⟩⟩⟩⟩ trivial (fun v1=>?n6_1))))
 case r6_1=>
  refine Row.mk' Zcb ⟨_,rfl,rfl,rfl,rfl,rfl⟩ ⟨?x6_1_0,⟨?x6_1_1,⟨?x6_1_2,trivial⟩⟩⟩ ⟨_,_,_,_,rfl,rfl,rfl,rfl,rfl,rfl,rfl,rfl,rfl⟩ rfl rfl rfl
  case x6_1_0=>exact⟨_,_,_,_,rfl,rfl,rfl,rfl,rfl,rfl,rfl,rfl,XA (f:=prC) (fun _=>rfl),(by have hm:maxLen=9223372036854775807:=rfl;simp[upto];first | omega | (simp;omega) | grind[Zv]),(by have hm:maxLen=9223372036854775807:=rfl;simp[upto];first | omega | (simp;omega) | grind[Zv]),fun _ _ _ _ _ hl=>(hl.dep 3 36 _ rfl rfl rfl rfl)⟩
  case x6_1_1=>exact⟨_,_,_,_,rfl,rfl,rfl,rfl,rfl,rfl,rfl,rfl,XA (f:=prC) (fun _=>rfl),(by have hm:maxLen=9223372036854775807:=rfl;simp[upto];first | omega | (simp;omega) | grind[Zv]),(by have hm:maxLen=9223372036854775807:=rfl;simp[upto];first | omega | (simp;omega) | grind[Zv]),fun _ _ _ _ _ hl=>(hl.dep 6 39 _ rfl rfl rfl rfl)⟩
  case x6_1_2=>exact⟨_,_,_,_,rfl,rfl,rfl,rfl,rfl,rfl,rfl,rfl,XA (f:=prC) (fun _=>rfl),(by have hm:maxLen=9223372036854775807:=rfl;simp[upto];first | omega | (simp;omega) | grind[Zv]),(by have hm:maxLen=9223372036854775807:=rfl;simp[upto];first | omega | (simp;omega) | grind[Zv]),fun _ _ _ _ _ hl=>(hl.dep 10 43 _ rfl rfl rfl rfl)⟩
 exact fun h=>Zn rfl h
 exact fun _ _=>⟨rfl,fun _ _ _ hx hl _=>Z5 rfl (hl.env 0 0 _ rfl rfl) hx⟩
 exact fun _ _=>⟨rfl,fun _ _ _ hx hl _=>Z5 rfl (hl.env 2 5 _ rfl rfl) hx⟩
 exact fun _ _=>⟨rfl,fun _ _ _ hx hl _=>Yy (ys:=l.take k) (lo:=0) (hi:=k) List.drop_zero Zu (fun _=>rfl) rfl (hl.dep 1 34 _ rfl rfl rfl rfl) rfl (hl.dep 2 35 _ rfl rfl rfl rfl) sfz sfz hx⟩
 exact fun h=>Zn rfl h
 exact fun _ _=>⟨rfl,fun _ _ _ hx hl _=>Zao YN rfl (hl.env 1 3 _ rfl rfl) (Nat.le_refl _) hx⟩
 exact fun _ _=>⟨rfl,fun _ _ hk hx hl _=>Y7 Zu Zgd (by decide) rfl rfl (hl.dep 5 38 _ rfl rfl rfl rfl) (Zp hS _ hk hx _ (Nat.le_refl _)) (jo hJ hx)⟩
 exact fun h=>Zn rfl h
 exact fun _ _=>⟨rfl,fun _ _ _ hx hl _=>Z5 rfl (hl.env 0 0 _ rfl rfl) hx⟩
 exact fun _ _=>⟨rfl,fun _ _ _ hx hl _=>Z5 rfl (hl.env 2 5 _ rfl rfl) hx⟩
 exact fun _ _=>⟨rfl,fun _ _ _ hx hl _=>Yy (ys:=l.drop k) (lo:=k) (hi:=l.length) (by rw[List.take_length]) Zu (fun _=>rfl) rfl (hl.dep 8 41 _ rfl rfl rfl rfl) (hl.dep 9 42 _ rfl rfl rfl rfl) rfl sfz sfz hx⟩
 exact fun h=>Zn rfl h
 exact fun h=>Zn rfl h
 clear a w h
 refine nx (tw (fun h=>ZN hS h (m:=0) (s:=4) rfl) ?_)
 exact Ze (Xe (m:=0) rfl rfl (congrArg (fun z=>AV.rd (Xc z)) (show((l.take k)++([p])++(l.drop k))=(ZcQ l p)from by rw[Zi0 l p k f1_1 f1_2 (by grind),if_neg (by simp[Zfj];grind)];simp)))
theorem c_Join {J:World→Prop} (hJ:Stab J) (ws:List Pr) (zs:List Pr) (b:(ws.length+zs.length+1)*32≤140737488351264):Fn Tryz.prog J 138 [.rd (Xc ws),.rd (Xc zs)] (.rd (Xc (Zfs ws zs))):=by
 refine Zo (N:=34) Tryz.func138 rfl rfl (lb rfl) fun S w0 hS hJ0=>?_
 refine tw Z1 ?_
 refine ln 0 fun hl1=>?_
 refine ln 1 fun hl2=>?_
 refine qso tb hJ [0,1] [_] [_,_] ?_
 refine tsq ?_
 refine Xp Zu hJ rfl rfl rfl (lb rfl) fun v1=>?_
 refine snK 1 tb rfl ?_
 refine seK [0,2,3] U3 rfl ?_
 refine nx (Zf (tw (fun h=>ZN hS h (m:=0) (s:=5) rfl) ?_))
 refine qso tb hJ [0,1,2,1000] [_] U4 ?_
 refine Zc (lpo (ι:=Nat×(List Pr)) (fun(k,out)=>(k≤ws.length)∧(out=(ws.take k).foldl ZcQ [])∧(out.length≤k)) (fun(_,_)=>[]) (fun(k,out)=>[(6,.int (k:Nat)),(5,.rd (Xc out))]) (fun(k,_)=>ws.length-k) [1,2,3,0] [_,_] (0,[]) ⟨Nat.zero_le _,by simp,by simp⟩ ?_)
 rintro⟨k,out⟩ ⟨f1_1,f1_2,f1_3⟩
 refine Zf (ZG tb hJ [0,1,2,3,1003] [_,_,.int (ws.length:Nat),_] [2] U5 rfl ⟨Z2 ZL,trivial⟩ ?_)
 refine ln 3 fun hl3=>?_
 refine cj 4 (fun hb1=>?_) fun hb1=>?_
 try simp at hb1
 refine Zb (nx (Zf (Zc (Yu tb hJ [0,1,2,1005,1006] [_,_,_,.ptr (prC (ge ws k)),_,.rd (Xc (ZcQ out (ge ws k))),_] [3,5] U5 rfl ⟨iIx Zu,iFo hS hJ (c_put hJ out (ge ws k) (by exact Nat.le_trans (Nat.mul_le_mul_right 32 (by omega)) b)) Zk7,trivial⟩ ?_))))
 refine nx (ln 3 fun hl4=>?_)
 refine Yu tb hJ [0,1,4,1002] [_,.int (k+1:Nat),_] [1] U4 rfl ⟨Ya,trivial⟩ ?_
 exact YH (k+1,(ZcQ out (ge ws k))) [0,1,3,2] ⟨by omega,by rw[f1_2,ZbN (by omega)],by have:=Zkl out (ge ws k);omega⟩
 try simp at hb1
 refine Zt (nx (Zf (qso tb hJ [1,3,1000] [_] U3 ?_)))
 refine Zc (lpo (ι:=Nat×(List Pr)) (fun(j,out2)=>(j≤zs.length)∧(out2=(ws++zs.take j).foldl ZcQ [])∧(out2.length≤ws.length+j)) (fun(_,_)=>[]) (fun(j,out2)=>[(7,.int (j:Nat)),(5,.rd (Xc out2))]) (fun(j,_)=>zs.length-j) [0,2,1] [_] (0,out) ⟨Nat.zero_le _,by rw[f1_2,ZF (by omega)];simp,by omega⟩ ?_)
 rintro⟨j,out2⟩ ⟨f2_1,f2_2,f2_3⟩
 refine Zf (ZG tb hJ [0,1,2,1003] [_,_,.int (zs.length:Nat),_] [2] U4 rfl ⟨Z2 ZL,trivial⟩ ?_)
 refine ln 2 fun hl5=>?_
 refine cj 3 (fun hb2=>?_) fun hb2=>?_
 try simp at hb2
 refine Zb (nx (Zf (Zc (Yu tb hJ [0,1,1005,1006] [_,_,_,.ptr (prC (ge zs j)),_,.rd (Xc (ZcQ out2 (ge zs j))),_] [3,5] U4 rfl ⟨iIx Zu,iFo hS hJ (c_put hJ out2 (ge zs j) (by exact Nat.le_trans (Nat.mul_le_mul_right 32 (by omega)) b)) Zk7,trivial⟩ ?_))))
 refine nx (ln 2 fun hl6=>?_)
 refine Yu tb hJ [0,3,1002] [_,.int (j+1:Nat),_] [1] U3 rfl ⟨Ya,trivial⟩ ?_
 exact YH (j+1,(ZcQ out2 (ge zs j))) [0,2,1] ⟨by omega,by rw[f2_2,Z0 (by omega),←List.append_assoc];simp only[List.foldl_append,List.foldl_cons,List.foldl_nil],by have:=Zkl out2 (ge zs j);omega⟩
 try simp at hb2
 refine Zt (nx (qso tb hJ [1001] [_,_] [_] ?_))
 exact Ze (Xe (m:=0) rfl rfl (congrArg (fun z=>AV.rd (Xc z)) (show out2=(Zfs ws zs)from by rw[f2_2,ZF (xs:=zs) (by omega)];rfl)))
theorem Zip {J:World→Prop} (hJ:Stab J) (d:Db) (k:Nat) (y:Hy) (bs:List Hy) (dm:Bool) (hk0:k<d.frames.length) (hf:d.frames.length≤400) (hz:∀ i,i<k+1→(ge d.frames i).hyps.length≤40∧(ge d.frames i).dummies.length≤40) (hb:bs.length≤80):Fn Tryz.prog J 95 [.agg (dbC d),.int (k:Nat),.agg (hyC y),.rd (Xm bs),.bool dm] (.int (ZcW d k y bs dm)):=by
 refine Zo (N:=206) Tryz.func95 rfl rfl (lb rfl) fun S w0 hS hJ0=>?_
 refine tw Z1 ?_
 refine ln 3 fun hl1=>?_
 refine ZG tb hJ [1,3,4,1000,1001] [.ptr (dbC d),.ptr (hyC y),_] [0,1] U5 rfl ⟨fun _ _ hk hx hl _=>Yq rfl (hl.env 0 0 _ rfl rfl) (Zp hS _ hk hx _ (Nat.le_refl _)) (jo hJ hx),fun _ _ hk hx hl _=>Yq rfl (hl.env 2 2 _ rfl rfl) (Zp hS _ hk hx _ (Nat.le_refl _)) (jo hJ hx),trivial⟩ ?_
 refine ZG tb hJ (r5 [1001,1003]) [_,_,.int (y.text.length:Nat),_] [2] U7 rfl ⟨Z2 Zm,trivial⟩ ?_
 refine ln 5 fun hl2=>?_
 refine Zf (ZG tb hJ [0,1,3,4,1032] [_,_,.bool (QE y.label),_,_,_,_,_,_,_,_,_,_,_,_,_,_,_,_,_,_,_,_,_,_,_,_,_,_,_,_,_,_] [2] U5 rfl ⟨iFo hS hJ (Zc6 hJ y.label) ZgV,trivial⟩ ?_)
 refine cj 4 (fun hb1=>?_) fun hb1=>?_
 ·
  replace hb1:Zat y dm=true:=hb1
  refine qso tb hJ [1000] [_] [_] ?_
  exact Ze (Xe (m:=0) rfl rfl (eI (by subst_vars;grind[ZcW])))
 ·
  replace hb1:Zat y dm=false:=hb1
  have hy1:=Zh9 hb1
  refine Zb (nx (ZG tb hJ [0,1,2,3,1009] [_,_,.int (k+1:Nat),_,_,.tup [.bool (frL d (k+1) y.label),.bool (hyL d (k+1) y.label)],_,_,_,_,_] [2,5] U5 rfl ⟨Ya,iFo hS hJ (ZjC hJ d (k+1) y.label sfz (hz)) Zjw,trivial⟩ ?_))
  refine Zf (ZG tb hJ [0,1,2,3,1006] [_,_,_,_,_,.bool (Zdj d y.label),_] [5] U5 rfl ⟨iFo hS hJ (Zg2 hJ d y.label) Zjv,trivial⟩ ?_)
  refine cj 4 (fun hb2=>?_) fun hb2=>?_
  ·
   replace hb2:(frL d (k+1) y.label||Zdj d y.label)=true:=hb2
   refine qso tb hJ [1000] [_] [_] ?_
   exact Ze (Xe (m:=0) rfl rfl (eI (by subst_vars;grind[ZcW])))
  ·
   replace hb2:(frL d (k+1) y.label||Zdj d y.label)=false:=hb2
   refine Zb (nx (Zf (qso tb hJ [0,1,2,3,1000] [_] U5 ?_)))
   refine Zc (lpo (ι:=Nat) (fun j=>(j≤bs.length)∧((bs.take j).any (Zjf y)=false)) (fun _=>[]) (fun j=>[(14,.int (j:Nat))]) (fun j=>bs.length-j) (r5 []) U4 0 ⟨Nat.zero_le _,rfl⟩ ?_)
   rintro j ⟨f1_1,f1_2⟩
   refine Zf (ZG tb hJ (r5 [1003]) [_,_,.int (bs.length:Nat),_] [2] U6 rfl ⟨Z2 Zx,trivial⟩ ?_)
   refine cj 5 (fun hb3=>?_) fun hb3=>?_
   ·
    try simp at hb3
    refine Zb (nx (Zf (Zc (ZG tb hJ (r5 [1007]) [_,_,.ptr (hyC (ge bs j)),_,_,_,_,_] [2] U6 rfl ⟨iIx Zq,trivial⟩ ?_))))
    refine cj 5 (fun hb4=>?_) fun hb4=>?_
    ·
     try simp at hb4
     have q4:=ZaQ (p:=Zjf y) (xs:=bs) (k:=j) (by omega) (by simpa [Zjf]using hb4)
     refine qso tb hJ [1000] [_] [_] ?_
     exact Ze (Xe (m:=0) rfl rfl (eI (by subst_vars;grind[ZcW])))
    ·
     try simp at hb4
     refine Zb (nx (Yu tb hJ [0,1,2,3,1002] [_,.int (j+1:Nat),_] [1] U5 rfl ⟨Ya,trivial⟩ ?_))
     exact YH (j+1) (r5 []) ⟨by omega,QM (by omega) f1_2 (by simpa [Zjf]using hb4)⟩
   ·
    try simp at hb3
    have e3:=QL (p:=Zjf y) f1_2 (by omega)
    refine Zt (nx (Zf (ZG tb hJ [0,1,2,3,1021] [_,_,_,_,_,_,_,.ptr [lS (ge y.text 0)],_,.bool (decide ((ge y.text 0)∈d.consts)),_,_,_,_,_,_,.ptr [lS (ge y.text 1)],_,.bool (decide ((ge y.text 1)∈d.vars)),_,_,_] [7,9,16,18] U5 rfl ⟨gIx (k:=0) Zd (hk:=fun(hc':(y.floating==true)=true)=>by(try simp at hc');omega),iFo hS hJ (Zci hJ d.consts (ge y.text 0)) XW,gIx (k:=1) Zd (hk:=fun(hc':((y.floating==true)&& ((!(decide ((ge y.text 0)∈d.consts)))==false))=true)=>by(try simp at hc');have:=Yx hb1 (by simp_all);omega),iFo hS hJ (Zci hJ d.vars (ge y.text 1)) XW,trivial⟩ ?_)))
    refine cj 4 (fun hb5=>?_) fun hb5=>?_
    ·
     replace hb5:ZeM d y=true:=hb5
     refine qso tb hJ [1000] [_] [_] ?_
     exact Ze (Xe (m:=0) rfl rfl (eI (by subst_vars;grind[ZcW])))
    ·
     replace hb5:ZeM d y=false:=hb5
     refine Zb (nx (Zf (qso tb hJ [0,1,2,3,1002] U3 U5 ?_)))
     refine cj 4 (fun hb6=>?_) fun hb6=>?_
     ·
      try simp at hb6
      refine ZG tb hJ [0,1,2,3,1004] [_,_,_,.int (Zbt d y.text),_] [3] U5 rfl ⟨iFo hS hJ (Ziq hJ d y.text sfz) Zpf,trivial⟩ ?_
      refine qso tb hJ (r5 [1001]) [_,_] U6 ?_
      refine cj 5 (fun hb7=>?_) fun hb7=>?_
      ·
       refine qso tb hJ [1001] [_,_] [_] ?_
       exact Ze (Xe (m:=0) rfl rfl (eI (by subst_vars;grind[ZcW])))
      ·
       refine Zb (nx (tsq ?_))
       refine Xp Zq hJ rfl rfl rfl (lb rfl) fun v1=>?_
       refine snK 1 tb rfl ?_
       refine seK [0,2,3,4,5] U5 rfl ?_
       refine nx (Zf (qso tb hJ (r5 [1000]) [_] U6 ?_))
       refine Zc (lpo (ι:=Nat×Value×(List Hy)) (fun(i,_,others)=>(i≤k)∧(others=oth d i)∧(others.length≤80*i)) (fun(_,vo,others)=>[OB.row vo 61 3 (others.map hyC)]) (fun(i,vo,_)=>[(17,.int (i:Nat)),(16,.lit vo)]) (fun(i,_,_)=>k-i) [1,2,3,4,5,0] U4 (0,v1,([]:List Hy)) ⟨Nat.zero_le _,rfl,Nat.zero_le _⟩ ?_)
       rintro⟨i,vo,others⟩ ⟨f2_1,f2_2,f2_3⟩
       refine Zf (qso tb hJ (r6 [1002]) U3 U7 ?_)
       refine cj 6 (fun hb8=>?_) fun hb8=>?_
       ·
        try simp at hb8
        refine Zb (nx (Zf (Zc (ZE (snK 4 tb rfl ?_)))))
        refine sy (.ptr (frC (ge d.frames i))) (fun h=>ZO (i:=(i:Int)) ZS rfl (h.get 1 rfl) (h.get 0 rfl) (Int.natCast_nonneg _) (ZU (xs:=d.frames) (k:=i) sfz) rfl h.x) ?_
        refine snK 1 tb rfl ?_
        refine sy (.rd (Xm ((ge d.frames i).hyps++(ge d.frames i).dummies))) (fun h=>Zbw (ZsQ hJ (ge d.frames i) (by have:=hz i (by omega);omega)) ZgU rfl (Zp hS _ h.keep h.x) (h.x.1) (Za (h.get 0 rfl) Zh) (jo hJ h.x)) ?_
        refine ZR (f:=hyC) (m:=6) (s:=126) others ((ge d.frames i).hyps++(ge d.frames i).dummies) (fun _=>rfl) QY hJ hJ0 rfl rfl rfl (lb rfl) rfl rfl (fun a w h=>(h.get 0 rfl)) (by first | (have:=hz i (by omega);simp;omega) | (have:=hz i (by omega);refine X7 ?_;simp;omega)) (by first | (have:=hz i (by omega);simp;omega) | (have:=hz i (by omega);refine X7 ?_;simp;omega)) fun v2=>?_
        refine snK 1 tb rfl ?_
        refine seK [0,2,6,9,10,11,12,13] U8 rfl ?_
        refine nx (ln 1 fun hl3=>?_)
        refine ln 2 fun hl4=>?_
        refine Yu tb hJ [0,3,4,5,6,1002] [_,.int (i+1:Nat),_] [1] U6 rfl ⟨Ya,trivial⟩ ?_
        exact YH (i+1,v2,others++((ge d.frames i).hyps++(ge d.frames i).dummies)) [1,2,3,4,5,0] ⟨by omega,by rw[Zb2 (by omega),f2_2],by have:=hz i (by omega);simp;omega⟩
       ·
        try simp at hb8
        have hik:i=k:=by omega
        rw[hik]at f2_2 f2_3
        refine Zt (nx (Zf (tw (fun h=>ZN hS h (m:=5) (s:=16) rfl) ?_)))
        refine qso tb hJ [0,2,4,1001] [_,_] U4 ?_
        refine ln 0 fun hl5=>?_
        refine cj 3 (fun hb9=>?_) fun hb9=>?_
        ·
         try simp at hb9
         have hy2:=Yx hb1 hb9
         refine Zf (fun a w h=>Zbd (id:=24) (t:=56) (e:=61) (size:=3) (bytes:=48) (i0:=0) (fol:=5) (d:=18) (ch:=[(2,(others.map hyC)),(4,(bs.map hyC))]) (fun ix'=>([.any,.rd (Xm others),.any,.rd (Xm bs),.any,.any]:List AV).getD ix' .any) (fun _=>true) [(0,16,.rd (Xm others)),(1,3,.rd (Xm bs)),(2,7,.ptr (hyC y))] ((others++bs).map hyC) (by simp) ?r24_1 hJ hJ0 h YC rfl rfl rfl rfl ⟨?_,⟨?_,⟨?_,⟨?_,⟨?_,⟨?_,trivial⟩⟩⟩⟩⟩⟩ ⟨rfl,rfl,⟨rfl,rfl,⟨rfl,rfl,trivial⟩⟩⟩ (fun v3=>?n24_1))
         case r24_1=>
          refine Row.mk' QY ⟨_,rfl,rfl,rfl,rfl,rfl⟩ ⟨?x24_1_0,⟨?x24_1_1,trivial⟩⟩ ⟨_,_,_,_,rfl,rfl,rfl,rfl,rfl,rfl,rfl,rfl,rfl⟩ rfl rfl rfl
          case x24_1_0=>exact⟨_,_,_,_,rfl,rfl,rfl,rfl,rfl,rfl,rfl,rfl,XA (f:=hyC) (fun _=>rfl),(by have hm:maxLen=9223372036854775807:=rfl;simp[upto];first | (have:=hz i (by omega);simp;omega) | (have:=hz i (by omega);refine X7 ?_;simp;omega)),(by have hm:maxLen=9223372036854775807:=rfl;simp[upto];first | (have:=hz i (by omega);simp;omega) | (have:=hz i (by omega);refine X7 ?_;simp;omega)),fun _ _ _ _ _ hl=>(hl.dep 1 137 _ rfl rfl rfl rfl)⟩
          case x24_1_1=>exact⟨_,_,_,_,rfl,rfl,rfl,rfl,rfl,rfl,rfl,rfl,XA (f:=hyC) (fun _=>rfl),(by have hm:maxLen=9223372036854775807:=rfl;simp[upto];first | (have:=hz i (by omega);simp;omega) | (have:=hz i (by omega);refine X7 ?_;simp;omega)),(by have hm:maxLen=9223372036854775807:=rfl;simp[upto];first | (have:=hz i (by omega);simp;omega) | (have:=hz i (by omega);refine X7 ?_;simp;omega)),fun _ _ _ _ _ hl=>(hl.dep 3 139 _ rfl rfl rfl rfl)⟩
         exact fun h=>Zn rfl h
         exact fun _ _=>⟨rfl,fun _ _ _ hx hl _=>Z5 rfl (hl.env 0 16 _ rfl rfl) hx⟩
         exact fun h=>Zn rfl h
         exact fun _ _=>⟨rfl,fun _ _ _ hx hl _=>Z5 rfl (hl.env 1 3 _ rfl rfl) hx⟩
         exact fun h=>Zn rfl h
         exact fun h=>Zn rfl h
         clear a w h
         refine nx (Zf (tw (fun h=>ZN hS h (m:=0) (s:=18) rfl) ?_))
         refine qso tb hJ [0,1,2,3,1000] [_] U5 ?_
         refine ln 0 fun hl6=>?_
         refine Zc (lpo (ι:=Nat) (fun j=>(j≤(others++bs).length)∧(((others++bs).take j).any (Zh8 y)=false)) (fun _=>[]) (fun j=>[(19,.int (j:Nat))]) (fun j=>(others++bs).length-j) (r5 []) U4 0 ⟨Nat.zero_le _,rfl⟩ ?_)
         rintro j ⟨f3_1,f3_2⟩
         refine Zf (ZG tb hJ (r5 [1003]) [_,_,.int ((others++bs).length:Nat),_] [2] U6 rfl ⟨Z2 Zx,trivial⟩ ?_)
         refine cj 5 (fun hb10=>?_) fun hb10=>?_
         ·
          try simp at hb10
          refine Zb (nx (Zf (Zc (ZG tb hJ (r5 [1006,1021]) [_,_,.ptr (hyC (ge (others++bs) j)),_,_,_,.rd (Zg (y.text.drop 1)),.bool (ofB (ge (others++bs) j) (y.text.drop 1)),_,_,_,.ptr (hyC (ge (others++bs) j)),_,_,.ptr [lS (ge ((ge (others++bs) j).text) 0)],_,_,_,.ptr [lS (ge y.text 0)],_,_,_] [2,6,7,11,14,18] U7 rfl ⟨iIx Zq,fun _ _ _ hx hl _=>Yy (ys:=y.text.drop 1) (lo:=1) (hi:=y.text.length) (by rw[List.take_length]) Zd (fun _=>rfl) rfl (hl.dep 5 152 _ rfl rfl rfl rfl) (Rel.of_lit (.int .i64 1)) rfl sfz sfz hx,iFo hS hJ (c_of hJ (ge (others++bs) j) (y.text.drop 1)) Zc4,gIx Zq (hk:=fun(hc':((ofB (ge (others++bs) j) (y.text.drop 1))==true)=true)=>by(try simp at hc');first | omega | (simp;omega) | grind[Zv]),gIx (k:=0) Zd (hk:=fun(hc':((ofB (ge (others++bs) j) (y.text.drop 1))==true)=true)=>by(try simp at hc');have:=Zoa hc';omega),gIx (k:=0) Zd (hk:=fun(hc':((ofB (ge (others++bs) j) (y.text.drop 1))==true)=true)=>by(try simp at hc');first | omega | (simp;omega) | grind[Zv]),trivial⟩ ?_))))
          refine ln 5 fun hl7=>?_
          refine cj 6 (fun hb11=>?_) fun hb11=>?_
          ·
           try simp at hb11
           have q11:=ZaQ (p:=Zh8 y) (xs:=others++bs) (k:=j) (by simp;omega) (by simpa [Zh8]using hb11)
           refine qso tb hJ [1000] [_] [_] ?_
           exact Ze (Xe (m:=0) rfl rfl (eI (by subst_vars;grind[ZcW])))
          ·
           try simp at hb11
           refine Zb (nx (Yu tb hJ [0,1,2,3,1002] [_,.int (j+1:Nat),_] [1] U5 rfl ⟨Ya,trivial⟩ ?_))
           exact YH (j+1) (r5 []) ⟨by simp;omega,QM (by simp;omega) f3_2 (by simp[Zh8];grind)⟩
         ·
          try simp at hb10
          have e10:=QL (p:=Zh8 y) f3_2 (by simp;omega)
          refine Zt (nx (qso tb hJ [1,2,3,1000] [_] U4 ?_))
          refine Zc (lpo (ι:=Nat) (fun j=>(j≤bs.length)∧((bs.take j).any (hOf y)=false)) (fun _=>[]) (fun j=>[(20,.int (j:Nat))]) (fun j=>bs.length-j) [0,1,2,3] U3 0 ⟨Nat.zero_le _,rfl⟩ ?_)
          rintro j ⟨f4_1,f4_2⟩
          refine Zf (ZG tb hJ [0,1,2,3,1003] [_,_,.int (bs.length:Nat),_] [2] U5 rfl ⟨Z2 Zx,trivial⟩ ?_)
          refine cj 4 (fun hb12=>?_) fun hb12=>?_
          ·
           try simp at hb12
           refine Zb (nx (Zf (Zc (ZG tb hJ [0,1,2,3,1006,1007] [_,_,.ptr (hyC (ge bs j)),_,_,_,.rd (Zg (y.text.drop 1)),.bool (ofB (ge bs j) (y.text.drop 1))] [2,6,7] U6 rfl ⟨iIx Zq,fun _ _ _ hx hl _=>Yy (ys:=y.text.drop 1) (lo:=1) (hi:=y.text.length) (by rw[List.take_length]) Zd (fun _=>rfl) rfl (hl.dep 5 180 _ rfl rfl rfl rfl) (Rel.of_lit (.int .i64 1)) rfl sfz sfz hx,iFo hS hJ (c_of hJ (ge bs j) (y.text.drop 1)) Zc4,trivial⟩ ?_))))
           refine ln 4 fun hl8=>?_
           refine cj 5 (fun hb13=>?_) fun hb13=>?_
           ·
            try simp at hb13
            have q13:=ZaQ (p:=hOf y) (xs:=bs) (k:=j) (by omega) (by simpa [hOf]using hb13)
            refine qso tb hJ [1000] [_] [_] ?_
            exact Ze (Xe (m:=0) rfl rfl (eI (by subst_vars;grind[ZcW])))
           ·
            try simp at hb13
            refine Zb (nx (Yu tb hJ [0,1,2,1002] [_,.int (j+1:Nat),_] [1] U4 rfl ⟨Ya,trivial⟩ ?_))
            exact YH (j+1) [0,1,2,3] ⟨by omega,QM (by omega) f4_2 (by simpa [hOf]using hb13)⟩
          ·
           try simp at hb12
           have e12:=QL (p:=hOf y) f4_2 (by omega)
           refine Zt (nx (Zf (qso tb hJ [0,2,1000] [_] U3 ?_)))
           refine Zc (lpo (ι:=Nat) (fun j=>(j≤others.length)∧((others.take j).any (Zdv y)=false)) (fun _=>[]) (fun j=>[(21,.int (j:Nat))]) (fun j=>others.length-j) [0,1,2] [_,_] 0 ⟨Nat.zero_le _,rfl⟩ ?_)
           rintro j ⟨f5_1,f5_2⟩
           refine Zf (ZG tb hJ [0,1,2,1003] [_,_,.int (others.length:Nat),_] [2] U4 rfl ⟨Z2 Zx,trivial⟩ ?_)
           refine cj 3 (fun hb14=>?_) fun hb14=>?_
           ·
            try simp at hb14
            refine Zb (nx (Zf (Zc (ZG tb hJ [0,1,2,1016] [_,_,.ptr (hyC (ge others j)),_,_,_,_,_,_,_,_,.ptr (hyC (ge others j)),_,_,.bool (Zl1 (ge others j) y),_,_] [2,11,14] U4 rfl ⟨iIx Zq,gIx Zq (hk:=fun(hc':((decide (((ge others j).label)=y.label))==true)=true)=>by(try simp at hc');first | omega | (simp;omega) | grind[Zv]),iFo hS hJ (Zc5 hJ (ge others j) y) Zeb,trivial⟩ ?_))))
            refine cj 3 (fun hb15=>?_) fun hb15=>?_
            ·
             try simp at hb15
             have q15:=ZaQ (p:=Zdv y) (xs:=others) (k:=j) (by omega) (by simpa [Zdv]using hb15)
             refine qso tb hJ [1000] [_] [_] ?_
             exact Ze (Xe (m:=0) rfl rfl (eI (by subst_vars;grind[ZcW])))
            ·
             try simp at hb15
             refine Zb (nx (Yu tb hJ [0,1,1002] [_,.int (j+1:Nat),_] [1] U3 rfl ⟨Ya,trivial⟩ ?_))
             exact YH (j+1) [0,1,2] ⟨by omega,QM (by omega) f5_2 (by simp[Zdv];grind)⟩
           ·
            try simp at hb14
            have e14:=QL (p:=Zdv y) f5_2 (by omega)
            refine Zt (nx (qso tb hJ [1000] [_] [_] ?_))
            exact Ze (Xe (m:=0) rfl rfl (eI (by subst_vars;grind[ZcW])))
        ·
         try simp at hb9
         refine Zb (nx (Zf (qso tb hJ [0,2,1000] [_] U3 ?_)))
         refine Zc (lpo (ι:=Nat) (fun j=>(j≤others.length)∧((others.take j).any (Zdv y)=false)) (fun _=>[]) (fun j=>[(21,.int (j:Nat))]) (fun j=>others.length-j) [0,1,2] [_,_] 0 ⟨Nat.zero_le _,rfl⟩ ?_)
         rintro j ⟨f5_1,f5_2⟩
         refine Zf (ZG tb hJ [0,1,2,1003] [_,_,.int (others.length:Nat),_] [2] U4 rfl ⟨Z2 Zx,trivial⟩ ?_)
         refine cj 3 (fun hb14=>?_) fun hb14=>?_
         ·
          try simp at hb14
          refine Zb (nx (Zf (Zc (ZG tb hJ [0,1,2,1016] [_,_,.ptr (hyC (ge others j)),_,_,_,_,_,_,_,_,.ptr (hyC (ge others j)),_,_,.bool (Zl1 (ge others j) y),_,_] [2,11,14] U4 rfl ⟨iIx Zq,gIx Zq (hk:=fun(hc':((decide (((ge others j).label)=y.label))==true)=true)=>by(try simp at hc');first | omega | (simp;omega) | grind[Zv]),iFo hS hJ (Zc5 hJ (ge others j) y) Zeb,trivial⟩ ?_))))
          refine cj 3 (fun hb15=>?_) fun hb15=>?_
          ·
           try simp at hb15
           have q15:=ZaQ (p:=Zdv y) (xs:=others) (k:=j) (by omega) (by simpa [Zdv]using hb15)
           refine qso tb hJ [1000] [_] [_] ?_
           exact Ze (Xe (m:=0) rfl rfl (eI (by subst_vars;grind[ZcW])))
          ·
           try simp at hb15
           refine Zb (nx (Yu tb hJ [0,1,1002] [_,.int (j+1:Nat),_] [1] U3 rfl ⟨Ya,trivial⟩ ?_))
           exact YH (j+1) [0,1,2] ⟨by omega,QM (by omega) f5_2 (by simp[Zdv];grind)⟩
         ·
          try simp at hb14
          have e14:=QL (p:=Zdv y) f5_2 (by omega)
          refine Zt (nx (qso tb hJ [1000] [_] [_] ?_))
          exact Ze (Xe (m:=0) rfl rfl (eI (by subst_vars;grind[ZcW])))
     ·
      try simp at hb6
      refine Zb (nx (tsq ?_))
      refine Xp Zq hJ rfl rfl rfl (lb rfl) fun v4=>?_
      refine snK 1 tb rfl ?_
      refine seK [0,2,3,4,5] U5 rfl ?_
      refine nx (Zf (qso tb hJ (r5 [1000]) [_] U6 ?_))
      refine Zc (lpo (ι:=Nat×Value×(List Hy)) (fun(i,_,others)=>(i≤k)∧(others=oth d i)∧(others.length≤80*i)) (fun(_,vo,others)=>[OB.row vo 61 3 (others.map hyC)]) (fun(i,vo,_)=>[(17,.int (i:Nat)),(16,.lit vo)]) (fun(i,_,_)=>k-i) [1,2,3,4,5,0] U4 (0,v4,([]:List Hy)) ⟨Nat.zero_le _,rfl,Nat.zero_le _⟩ ?_)
      rintro⟨i,vo,others⟩ ⟨f2_1,f2_2,f2_3⟩
      refine Zf (qso tb hJ (r6 [1002]) U3 U7 ?_)
      refine cj 6 (fun hb8=>?_) fun hb8=>?_
      ·
       try simp at hb8
       refine Zb (nx (Zf (Zc (ZE (snK 4 tb rfl ?_)))))
       refine sy (.ptr (frC (ge d.frames i))) (fun h=>ZO (i:=(i:Int)) ZS rfl (h.get 1 rfl) (h.get 0 rfl) (Int.natCast_nonneg _) (ZU (xs:=d.frames) (k:=i) sfz) rfl h.x) ?_
       refine snK 1 tb rfl ?_
       refine sy (.rd (Xm ((ge d.frames i).hyps++(ge d.frames i).dummies))) (fun h=>Zbw (ZsQ hJ (ge d.frames i) (by have:=hz i (by omega);omega)) ZgU rfl (Zp hS _ h.keep h.x) (h.x.1) (Za (h.get 0 rfl) Zh) (jo hJ h.x)) ?_
       refine ZR (f:=hyC) (m:=6) (s:=126) others ((ge d.frames i).hyps++(ge d.frames i).dummies) (fun _=>rfl) QY hJ hJ0 rfl rfl rfl (lb rfl) rfl rfl (fun a w h=>(h.get 0 rfl)) (by first | (have:=hz i (by omega);simp;omega) | (have:=hz i (by omega);refine X7 ?_;simp;omega)) (by first | (have:=hz i (by omega);simp;omega) | (have:=hz i (by omega);refine X7 ?_;simp;omega)) fun v5=>?_
       refine snK 1 tb rfl ?_
       refine seK [0,2,6,9,10,11,12,13] U8 rfl ?_
       refine nx (ln 1 fun hl9=>?_)
       refine ln 2 fun hl10=>?_
       refine Yu tb hJ [0,3,4,5,6,1002] [_,.int (i+1:Nat),_] [1] U6 rfl ⟨Ya,trivial⟩ ?_
       exact YH (i+1,v5,others++((ge d.frames i).hyps++(ge d.frames i).dummies)) [1,2,3,4,5,0] ⟨by omega,by rw[Zb2 (by omega),f2_2],by have:=hz i (by omega);simp;omega⟩
      ·
       try simp at hb8
       have hik:i=k:=by omega
       rw[hik]at f2_2 f2_3
       refine Zt (nx (Zf (tw (fun h=>ZN hS h (m:=5) (s:=16) rfl) ?_)))
       refine qso tb hJ [0,2,4,1001] [_,_] U4 ?_
       refine ln 0 fun hl11=>?_
       refine cj 3 (fun hb9=>?_) fun hb9=>?_
       ·
        try simp at hb9
        have hy2:=Yx hb1 hb9
        refine Zf (fun a w h=>Zbd (id:=24) (t:=56) (e:=61) (size:=3) (bytes:=48) (i0:=0) (fol:=5) (d:=18) (ch:=[(2,(others.map hyC)),(4,(bs.map hyC))]) (fun ix'=>([.any,.rd (Xm others),.any,.rd (Xm bs),.any,.any]:List AV).getD ix' .any) (fun _=>true) [(0,16,.rd (Xm others)),(1,3,.rd (Xm bs)),(2,7,.ptr (hyC y))] ((others++bs).map hyC) (by simp) ?r24_2 hJ hJ0 h YC rfl rfl rfl rfl ⟨?_,⟨?_,⟨?_,⟨?_,⟨?_,⟨?_,trivial⟩⟩⟩⟩⟩⟩ ⟨rfl,rfl,⟨rfl,rfl,⟨rfl,rfl,trivial⟩⟩⟩ (fun v6=>?n24_2))
        case r24_2=>
         refine Row.mk' QY ⟨_,rfl,rfl,rfl,rfl,rfl⟩ ⟨?x24_2_0,⟨?x24_2_1,trivial⟩⟩ ⟨_,_,_,_,rfl,rfl,rfl,rfl,rfl,rfl,rfl,rfl,rfl⟩ rfl rfl rfl
         case x24_2_0=>exact⟨_,_,_,_,rfl,rfl,rfl,rfl,rfl,rfl,rfl,rfl,XA (f:=hyC) (fun _=>rfl),(by have hm:maxLen=9223372036854775807:=rfl;simp[upto];first | (have:=hz i (by omega);simp;omega) | (have:=hz i (by omega);refine X7 ?_;simp;omega)),(by have hm:maxLen=9223372036854775807:=rfl;simp[upto];first | (have:=hz i (by omega);simp;omega) | (have:=hz i (by omega);refine X7 ?_;simp;omega)),fun _ _ _ _ _ hl=>(hl.dep 1 137 _ rfl rfl rfl rfl)⟩
         case x24_2_1=>exact⟨_,_,_,_,rfl,rfl,rfl,rfl,rfl,rfl,rfl,rfl,XA (f:=hyC) (fun _=>rfl),(by have hm:maxLen=9223372036854775807:=rfl;simp[upto];first | (have:=hz i (by omega);simp;omega) | (have:=hz i (by omega);refine X7 ?_;simp;omega)),(by have hm:maxLen=9223372036854775807:=rfl;simp[upto];first | (have:=hz i (by omega);simp;omega) | (have:=hz i (by omega);refine X7 ?_;simp;omega)),fun _ _ _ _ _ hl=>(hl.dep 3 139 _ rfl rfl rfl rfl)⟩
        exact fun h=>Zn rfl h
        exact fun _ _=>⟨rfl,fun _ _ _ hx hl _=>Z5 rfl (hl.env 0 16 _ rfl rfl) hx⟩
        exact fun h=>Zn rfl h
        exact fun _ _=>⟨rfl,fun _ _ _ hx hl _=>Z5 rfl (hl.env 1 3 _ rfl rfl) hx⟩
        exact fun h=>Zn rfl h
        exact fun h=>Zn rfl h
        clear a w h
        refine nx (Zf (tw (fun h=>ZN hS h (m:=0) (s:=18) rfl) ?_))
        refine qso tb hJ [0,1,2,3,1000] [_] U5 ?_
        refine ln 0 fun hl12=>?_
        refine Zc (lpo (ι:=Nat) (fun j=>(j≤(others++bs).length)∧(((others++bs).take j).any (Zh8 y)=false)) (fun _=>[]) (fun j=>[(19,.int (j:Nat))]) (fun j=>(others++bs).length-j) (r5 []) U4 0 ⟨Nat.zero_le _,rfl⟩ ?_)
        rintro j ⟨f3_1,f3_2⟩
        refine Zf (ZG tb hJ (r5 [1003]) [_,_,.int ((others++bs).length:Nat),_] [2] U6 rfl ⟨Z2 Zx,trivial⟩ ?_)
        refine cj 5 (fun hb10=>?_) fun hb10=>?_
        ·
         try simp at hb10
         refine Zb (nx (Zf (Zc (ZG tb hJ (r5 [1006,1021]) [_,_,.ptr (hyC (ge (others++bs) j)),_,_,_,.rd (Zg (y.text.drop 1)),.bool (ofB (ge (others++bs) j) (y.text.drop 1)),_,_,_,.ptr (hyC (ge (others++bs) j)),_,_,.ptr [lS (ge ((ge (others++bs) j).text) 0)],_,_,_,.ptr [lS (ge y.text 0)],_,_,_] [2,6,7,11,14,18] U7 rfl ⟨iIx Zq,fun _ _ _ hx hl _=>Yy (ys:=y.text.drop 1) (lo:=1) (hi:=y.text.length) (by rw[List.take_length]) Zd (fun _=>rfl) rfl (hl.dep 5 152 _ rfl rfl rfl rfl) (Rel.of_lit (.int .i64 1)) rfl sfz sfz hx,iFo hS hJ (c_of hJ (ge (others++bs) j) (y.text.drop 1)) Zc4,gIx Zq (hk:=fun(hc':((ofB (ge (others++bs) j) (y.text.drop 1))==true)=true)=>by(try simp at hc');first | omega | (simp;omega) | grind[Zv]),gIx (k:=0) Zd (hk:=fun(hc':((ofB (ge (others++bs) j) (y.text.drop 1))==true)=true)=>by(try simp at hc');have:=Zoa hc';omega),gIx (k:=0) Zd (hk:=fun(hc':((ofB (ge (others++bs) j) (y.text.drop 1))==true)=true)=>by(try simp at hc');first | omega | (simp;omega) | grind[Zv]),trivial⟩ ?_))))
         refine ln 5 fun hl13=>?_
         refine cj 6 (fun hb11=>?_) fun hb11=>?_
         ·
          try simp at hb11
          have q11:=ZaQ (p:=Zh8 y) (xs:=others++bs) (k:=j) (by simp;omega) (by simpa [Zh8]using hb11)
          refine qso tb hJ [1000] [_] [_] ?_
          exact Ze (Xe (m:=0) rfl rfl (eI (by subst_vars;grind[ZcW])))
         ·
          try simp at hb11
          refine Zb (nx (Yu tb hJ [0,1,2,3,1002] [_,.int (j+1:Nat),_] [1] U5 rfl ⟨Ya,trivial⟩ ?_))
          exact YH (j+1) (r5 []) ⟨by simp;omega,QM (by simp;omega) f3_2 (by simp[Zh8];grind)⟩
        ·
         try simp at hb10
         have e10:=QL (p:=Zh8 y) f3_2 (by simp;omega)
         refine Zt (nx (qso tb hJ [1,2,3,1000] [_] U4 ?_))
         refine Zc (lpo (ι:=Nat) (fun j=>(j≤bs.length)∧((bs.take j).any (hOf y)=false)) (fun _=>[]) (fun j=>[(20,.int (j:Nat))]) (fun j=>bs.length-j) [0,1,2,3] U3 0 ⟨Nat.zero_le _,rfl⟩ ?_)
         rintro j ⟨f4_1,f4_2⟩
         refine Zf (ZG tb hJ [0,1,2,3,1003] [_,_,.int (bs.length:Nat),_] [2] U5 rfl ⟨Z2 Zx,trivial⟩ ?_)
         refine cj 4 (fun hb12=>?_) fun hb12=>?_
         ·
          try simp at hb12
          refine Zb (nx (Zf (Zc (ZG tb hJ [0,1,2,3,1006,1007] [_,_,.ptr (hyC (ge bs j)),_,_,_,.rd (Zg (y.text.drop 1)),.bool (ofB (ge bs j) (y.text.drop 1))] [2,6,7] U6 rfl ⟨iIx Zq,fun _ _ _ hx hl _=>Yy (ys:=y.text.drop 1) (lo:=1) (hi:=y.text.length) (by rw[List.take_length]) Zd (fun _=>rfl) rfl (hl.dep 5 180 _ rfl rfl rfl rfl) (Rel.of_lit (.int .i64 1)) rfl sfz sfz hx,iFo hS hJ (c_of hJ (ge bs j) (y.text.drop 1)) Zc4,trivial⟩ ?_))))
          refine ln 4 fun hl14=>?_
          refine cj 5 (fun hb13=>?_) fun hb13=>?_
          ·
           try simp at hb13
           have q13:=ZaQ (p:=hOf y) (xs:=bs) (k:=j) (by omega) (by simpa [hOf]using hb13)
           refine qso tb hJ [1000] [_] [_] ?_
           exact Ze (Xe (m:=0) rfl rfl (eI (by subst_vars;grind[ZcW])))
          ·
           try simp at hb13
           refine Zb (nx (Yu tb hJ [0,1,2,1002] [_,.int (j+1:Nat),_] [1] U4 rfl ⟨Ya,trivial⟩ ?_))
           exact YH (j+1) [0,1,2,3] ⟨by omega,QM (by omega) f4_2 (by simpa [hOf]using hb13)⟩
         ·
          try simp at hb12
          have e12:=QL (p:=hOf y) f4_2 (by omega)
          refine Zt (nx (Zf (qso tb hJ [0,2,1000] [_] U3 ?_)))
          refine Zc (lpo (ι:=Nat) (fun j=>(j≤others.length)∧((others.take j).any (Zdv y)=false)) (fun _=>[]) (fun j=>[(21,.int (j:Nat))]) (fun j=>others.length-j) [0,1,2] [_,_] 0 ⟨Nat.zero_le _,rfl⟩ ?_)
          rintro j ⟨f5_1,f5_2⟩
          refine Zf (ZG tb hJ [0,1,2,1003] [_,_,.int (others.length:Nat),_] [2] U4 rfl ⟨Z2 Zx,trivial⟩ ?_)
          refine cj 3 (fun hb14=>?_) fun hb14=>?_
          ·
           try simp at hb14
           refine Zb (nx (Zf (Zc (ZG tb hJ [0,1,2,1016] [_,_,.ptr (hyC (ge others j)),_,_,_,_,_,_,_,_,.ptr (hyC (ge others j)),_,_,.bool (Zl1 (ge others j) y),_,_] [2,11,14] U4 rfl ⟨iIx Zq,gIx Zq (hk:=fun(hc':((decide (((ge others j).label)=y.label))==true)=true)=>by(try simp at hc');first | omega | (simp;omega) | grind[Zv]),iFo hS hJ (Zc5 hJ (ge others j) y) Zeb,trivial⟩ ?_))))
           refine cj 3 (fun hb15=>?_) fun hb15=>?_
           ·
            try simp at hb15
            have q15:=ZaQ (p:=Zdv y) (xs:=others) (k:=j) (by omega) (by simpa [Zdv]using hb15)
            refine qso tb hJ [1000] [_] [_] ?_
            exact Ze (Xe (m:=0) rfl rfl (eI (by subst_vars;grind[ZcW])))
           ·
            try simp at hb15
            refine Zb (nx (Yu tb hJ [0,1,1002] [_,.int (j+1:Nat),_] [1] U3 rfl ⟨Ya,trivial⟩ ?_))
            exact YH (j+1) [0,1,2] ⟨by omega,QM (by omega) f5_2 (by simp[Zdv];grind)⟩
          ·
           try simp at hb14
           have e14:=QL (p:=Zdv y) f5_2 (by omega)
           refine Zt (nx (qso tb hJ [1000] [_] [_] ?_))
           exact Ze (Xe (m:=0) rfl rfl (eI (by subst_vars;grind[ZcW])))
       ·
        try simp at hb9
        refine Zb (nx (Zf (qso tb hJ [0,2,1000] [_] U3 ?_)))
        refine Zc (lpo (ι:=Nat) (fun j=>(j≤others.length)∧((others.take j).any (Zdv y)=false)) (fun _=>[]) (fun j=>[(21,.int (j:Nat))]) (fun j=>others.length-j) [0,1,2] [_,_] 0 ⟨Nat.zero_le _,rfl⟩ ?_)
        rintro j ⟨f5_1,f5_2⟩
        refine Zf (ZG tb hJ [0,1,2,1003] [_,_,.int (others.length:Nat),_] [2] U4 rfl ⟨Z2 Zx,trivial⟩ ?_)
        refine cj 3 (fun hb14=>?_) fun hb14=>?_
        ·
         try simp at hb14
         refine Zb (nx (Zf (Zc (ZG tb hJ [0,1,2,1016] [_,_,.ptr (hyC (ge others j)),_,_,_,_,_,_,_,_,.ptr (hyC (ge others j)),_,_,.bool (Zl1 (ge others j) y),_,_] [2,11,14] U4 rfl ⟨iIx Zq,gIx Zq (hk:=fun(hc':((decide (((ge others j).label)=y.label))==true)=true)=>by(try simp at hc');first | omega | (simp;omega) | grind[Zv]),iFo hS hJ (Zc5 hJ (ge others j) y) Zeb,trivial⟩ ?_))))
         refine cj 3 (fun hb15=>?_) fun hb15=>?_
         ·
          try simp at hb15
          have q15:=ZaQ (p:=Zdv y) (xs:=others) (k:=j) (by omega) (by simpa [Zdv]using hb15)
          refine qso tb hJ [1000] [_] [_] ?_
          exact Ze (Xe (m:=0) rfl rfl (eI (by subst_vars;grind[ZcW])))
         ·
          try simp at hb15
          refine Zb (nx (Yu tb hJ [0,1,1002] [_,.int (j+1:Nat),_] [1] U3 rfl ⟨Ya,trivial⟩ ?_))
          exact YH (j+1) [0,1,2] ⟨by omega,QM (by omega) f5_2 (by simp[Zdv];grind)⟩
        ·
         try simp at hb14
         have e14:=QL (p:=Zdv y) f5_2 (by omega)
         refine Zt (nx (qso tb hJ [1000] [_] [_] ?_))
         exact Ze (Xe (m:=0) rfl rfl (eI (by subst_vars;grind[ZcW])))
theorem Zjz {J:World→Prop} (hJ:Stab J) (d:Db) (f:Fr) (h1:d.vars.length≤8000) (h2:f.hyps.length≤40) (h3:f.wide.length*32≤140737488351232) (h4:∀ h∈f.hyps,h.floating=true→h.text.length=2):Fn Tryz.prog J 97 [.agg (dbC d),.agg (frC f)] (.bool (ZdZ d f)):=by
 refine Zo (N:=113) Tryz.func97 rfl rfl (lb rfl) fun S w0 hS hJ0=>?_
 refine tw Z1 ?_
 refine ZG tb hJ [1000,1001] [.ptr (dbC d),.ptr (frC f),_] [0,1] [_,_] rfl ⟨fun _ _ hk hx hl _=>Yq rfl (hl.env 0 0 _ rfl rfl) (Zp hS _ hk hx _ (Nat.le_refl _)) (jo hJ hx),fun _ _ hk hx hl _=>Yq rfl (hl.env 1 1 _ rfl rfl) (Zp hS _ hk hx _ (Nat.le_refl _)) (jo hJ hx),trivial⟩ ?_
 refine ZG tb hJ [0,1,1001,1003,1004,1006,1007,1008] [_,_,_,_,.rd (Yg (f.text::(YX f.hyps).map Hy.text)),_,_,.rd (Zg (Q7 d.vars (f.text::(YX f.hyps).map Hy.text).flatten)),_] [4,7] U8 rfl ⟨iFo hS hJ (Zmn hJ f.hyps f.text sfz) Zsm,iFo hS hJ (ZjB hJ (f.text::(YX f.hyps).map Hy.text) d.vars sfz) Zsn,trivial⟩ ?_
 refine ln 2 fun hl1=>?_
 refine ln 3 fun hl2=>?_
 refine ln 4 fun hl3=>?_
 refine ln 5 fun hl4=>?_
 refine ln 6 fun hl5=>?_
 refine tsq ?_
 refine Xp Zd hJ rfl rfl rfl (lb rfl) fun v1=>?_
 refine snK 1 tb rfl ?_
 refine seK [0,2,3,9] U4 rfl ?_
 refine nx (Zf (qso tb hJ [0,1,2,3,1000] [_] U5 ?_))
 refine Zc (lpo (ι:=Nat×Value×(List BA)) (fun(k,_,found)=>(k≤f.hyps.length)∧(found=ZdE (f.hyps.take k))∧(found.length≤k)∧((f.hyps.take k).all (hIn (QR d f))=true)) (fun(_,vo,found)=>[OB.row vo 9 1 (found.map Zad)]) (fun(k,vo,_)=>[(7,.int (k:Nat)),(6,.lit vo)]) (fun(k,_,_)=>f.hyps.length-k) [1,2,3,4,0] U3 (0,v1,([]:List BA)) ⟨Nat.zero_le _,rfl,Nat.zero_le _,rfl⟩ ?_)
 rintro⟨k,vo,found⟩ ⟨f1_1,f1_2,f1_3,f1_4⟩
 refine Zf (ZG tb hJ (r5 [1004]) [_,_,_,.int (f.hyps.length:Nat),_] [3] U6 rfl ⟨Z2 Zx,trivial⟩ ?_)
 refine cj 5 (fun hb1=>?_) fun hb1=>?_
 ·
  try simp at hb1
  refine Zb (nx (Zf (Zc (ZG tb hJ (r5 [1005]) [_,_,_,.ptr (hyC (ge f.hyps k)),_,_] [3] U6 rfl ⟨iIx Zq,trivial⟩ ?_))))
  refine cj 5 (fun hb2=>?_) fun hb2=>?_
  ·
   try simp at hb2
   refine Zf (ZG tb hJ (r5 [1007]) [_,_,_,.ptr (hyC (ge f.hyps k)),_,_,.bool (ofB (ge f.hyps k) (Q7 d.vars (f.text::(YX f.hyps).map Hy.text).flatten)),_] [3,6] U6 rfl ⟨iIx Zq,iFo hS hJ (c_of hJ (ge f.hyps k) (Q7 d.vars (f.text::(YX f.hyps).map Hy.text).flatten)) Zc4,trivial⟩ ?_)
   refine cj 5 (fun hb3=>?_) fun hb3=>?_
   ·
    try simp at hb3
    have q3:f.hyps.all (hIn (QR d f))=false:=QC hb1 (by simp only[hIn,hb2,QR];simpa using hb3)
    refine qso tb hJ [1000] [_] [_] ?_
    exact Ze (Xe (m:=0) rfl rfl (eB (by first | (rw[ZdZ,q3];rfl) | (rw[ZdZ,e1,q5];rfl) | (rw[ZdZ,e1,e4,q7];rfl) | (rw[ZdZ,e1,e4,e6];rfl))))
   ·
    try simp at hb3
    refine Zb (nx (ZE (snK 4 tb rfl ?_)))
    refine sy (.ptr (hyC (ge f.hyps k))) (fun h=>ZO (i:=(k:Int)) Zq rfl (h.get 1 rfl) (h.get 0 rfl) (Int.natCast_nonneg _) (ZU (xs:=f.hyps) (k:=k) sfz) rfl h.x) ?_
    refine snK 2 tb rfl ?_
    refine sy (.ptr [lS (ge ((ge f.hyps k).text) 1)]) (fun h=>ZO (i:=((1:Nat):Int)) Zd rfl (h.get 0 rfl) (Rel.of_lit (.int .i64 1)) (Int.natCast_nonneg _) (ZU (xs:=(ge f.hyps k).text) (k:=1) (by have:=h4 _ (Zv hb1) hb2;omega)) rfl h.x) ?_
    refine snK 1 tb rfl ?_
    refine sy (.rd (Zg ([(ge ((ge f.hyps k).text) 1)]))) (fun h=>YD Zd ZaT rfl (h.get 0 rfl) (Zp hS _ h.keep h.x _ (Nat.le_refl _)) (jo hJ h.x)) ?_
    refine ZR (f:=Zad) (m:=9) (s:=41) found ([(ge ((ge f.hyps k).text) 1)]) (fun _=>rfl) Xh hJ hJ0 rfl rfl rfl (lb rfl) rfl rfl (fun a w h=>(h.get 0 rfl)) (by first | (simp;omega) | (refine ZiQ ?_;simp;omega)) (by first | (simp;omega) | (refine ZiQ ?_;simp;omega)) fun v2=>?_
    refine snK 1 tb rfl ?_
    refine seK [0,2,5,12,13,14,15] U7 rfl ?_
    refine nx (ln 1 fun hl6=>?_)
    refine ln 2 fun hl7=>?_
    refine Yu tb hJ [0,3,4,5,1002] [_,.int (k+1:Nat),_] [1] U5 rfl ⟨Ya,trivial⟩ ?_
    exact YH (k+1,v2,found++([(ge ((ge f.hyps k).text) 1)])) [1,2,3,4,0] ⟨by omega,by rw[f1_2,ZdE,ZdE,Z6 (by omega)];simp[hb2],by simp;omega,by rw[XT (by omega),f1_4];simp only[hIn,hb2,QR];simpa using hb3⟩
  ·
   try simp at hb2
   refine Zb (nx (Yu tb hJ [0,1,2,4,1002] [_,.int (k+1:Nat),_] [1] U5 rfl ⟨Ya,trivial⟩ ?_))
   exact YH (k+1,vo,found) [0,1,2,4,3] ⟨by omega,by rw[f1_2,ZdE,ZdE,Z6 (by omega)];simp[hb2],by omega,by rw[XT (by omega),f1_4];simp[hIn,hb2]⟩
 ·
  try simp at hb1
  have e1:f.hyps.all (hIn (QR d f))=true:=by rw[←ZF (xs:=f.hyps) (by omega)];exact f1_4
  have f1_2':found=ZdE f.hyps:=by rw[f1_2,ZF (by omega)]
  refine Zt (nx (Zf (tw (fun h=>ZN hS h (m:=4) (s:=6) rfl) ?_)))
  refine qso tb hJ [0,1,2,3,1000] [_] U5 ?_
  refine ln 0 fun hl8=>?_
  refine Zc (lpo (ι:=Nat) (fun k=>(k≤(QR d f).length)∧(((QR d f).take k).all (fun s=>decide (s∈ZdE f.hyps))=true)) (fun _=>[]) (fun k=>[(8,.int (k:Nat))]) (fun k=>(QR d f).length-k) (r5 []) U4 0 ⟨Nat.zero_le _,rfl⟩ ?_)
  rintro k ⟨f2_1,f2_2⟩
  refine Zf (ZG tb hJ (r5 [1003]) [_,_,.int ((Q7 d.vars (f.text::(YX f.hyps).map Hy.text).flatten).length:Nat),_] [2] U6 rfl ⟨Z2 Zm,trivial⟩ ?_)
  refine cj 5 (fun hb4=>?_) fun hb4=>?_
  ·
   try simp at hb4
   have hb4':=hb4
   replace hb4:k< (QR d f).length:=hb4
   refine Zb (nx (Zf (Zc (ZG tb hJ (r5 [1006]) [_,_,_,.ptr [lS (ge (Q7 d.vars (f.text::(YX f.hyps).map Hy.text).flatten) k)],_,.bool (decide ((ge (Q7 d.vars (f.text::(YX f.hyps).map Hy.text).flatten) k)∈found)),_] [3,5] U6 rfl ⟨iIx Zd,iFo hS hJ (Zci hJ found (ge (Q7 d.vars (f.text::(YX f.hyps).map Hy.text).flatten) k)) XW,trivial⟩ ?_))))
   refine cj 5 (fun hb5=>?_) fun hb5=>?_
   ·
    try simp at hb5
    have q5:(QR d f).all (fun s=>decide (s∈ZdE f.hyps))=false:=QC hb4 (decide_eq_false (by rw[←f1_2'];exact hb5))
    refine qso tb hJ [1000] [_] [_] ?_
    exact Ze (Xe (m:=0) rfl rfl (eB (by first | (rw[ZdZ,q3];rfl) | (rw[ZdZ,e1,q5];rfl) | (rw[ZdZ,e1,e4,q7];rfl) | (rw[ZdZ,e1,e4,e6];rfl))))
   ·
    try simp at hb5
    refine Zb (nx (Yu tb hJ [0,1,2,3,1002] [_,.int (k+1:Nat),_] [1] U5 rfl ⟨Ya,trivial⟩ ?_))
    exact YH (k+1) (r5 []) ⟨by omega,by rw[XT hb4,f2_2,Bool.true_and];exact decide_eq_true (by rw[←f1_2'];exact hb5)⟩
  ·
   try simp at hb4
   replace hb4:(QR d f).length≤k:=hb4
   have e4:(QR d f).all (fun s=>decide (s∈ZdE f.hyps))=true:=by rw[←ZF (xs:=QR d f) hb4];exact f2_2
   refine Zt (nx (Zf (qso tb hJ [1,2,3,1000] [_] U4 ?_)))
   refine Zc (lpo (ι:=Nat) (fun k=>(k≤f.wide.length)∧((f.wide.take k).any (Zwn d)=false)) (fun _=>[]) (fun k=>[(9,.int (k:Nat))]) (fun k=>f.wide.length-k) [0,1,2,3] U3 0 ⟨Nat.zero_le _,rfl⟩ ?_)
   rintro k ⟨f3_1,f3_2⟩
   refine Zf (ZG tb hJ [0,1,2,3,1002,1004] [_,_,_,.int (f.wide.length:Nat),_] [3] U6 rfl ⟨Z2 ZL,trivial⟩ ?_)
   refine ln 4 fun hl9=>?_
   refine cj 5 (fun hb6=>?_) fun hb6=>?_
   ·
    try simp at hb6
    refine Zb (nx (Zf (Zc (tsq ?_))))
    refine snK 3 tb rfl ?_
    refine sy (.ptr (prC (ge f.wide k))) (fun h=>ZO (i:=(k:Int)) Zu rfl (h.get 1 rfl) (h.get 0 rfl) (Int.natCast_nonneg _) (ZU (xs:=f.wide) (k:=k) sfz) rfl h.x) ?_
    refine snK 1 tb rfl ?_
    refine XZ (cs:=prC (ge f.wide k)) ZcA rfl rfl rfl (lb rfl) rfl rfl rfl (by decide) (m:=0) rfl rfl (fun a w h=>Zp hS _ h.keep h.x _ (Nat.le_refl _)) (fun a w h w' hk'=>Yz hJ _ _ hk' h.x) ?_
    refine seK [0,6,7,8,9] U5 rfl ?_
    refine nx (ZG tb hJ [1,2,3,4,1020] [_,_,_,_,_,_,_,_,_,_,.bool (decide (((ge f.wide k).a)∈d.vars)),_,_,_,_,_,_,_,.bool (decide (((ge f.wide k).b)∈d.vars)),_,_] [10,18] U5 rfl ⟨iFo hS hJ (Zci hJ d.vars ((ge f.wide k).a)) XW,iFo hS hJ (Zci hJ d.vars ((ge f.wide k).b)) XW,trivial⟩ ?_)
    refine cj 4 (fun hb7=>?_) fun hb7=>?_
    ·
     have q7:f.wide.any (Zwn d)=true:=ZaQ (by omega:k<f.wide.length) hb7
     refine qso tb hJ [1000] [_] [_] ?_
     exact Ze (Xe (m:=0) rfl rfl (eB (by first | (rw[ZdZ,q3];rfl) | (rw[ZdZ,e1,q5];rfl) | (rw[ZdZ,e1,e4,q7];rfl) | (rw[ZdZ,e1,e4,e6];rfl))))
    ·
     refine Zb (nx (Yu tb hJ [0,1,2,1002] [_,.int (k+1:Nat),_] [1] U4 rfl ⟨Ya,trivial⟩ ?_))
     exact YH (k+1) [0,1,2,3] ⟨by omega,QM (by omega) f3_2 hb7⟩
   ·
    try simp at hb6
    have e6:=QL (p:=Zwn d) f3_2 (by omega)
    refine Zt (nx (ZG tb hJ [1004,1015] [_,_,_,_,.rd (Xc (Zfs f.wide ([]:List Pr))),.bool (decide (f.wide=(Zfs f.wide ([]:List Pr)))),_,_,_,_,_,_,.rd (Xc (f.wide.filter (inV (Q7 d.vars (f.text::(YX f.hyps).map Hy.text).flatten)))),.bool (decide (f.apart=(f.wide.filter (inV (Q7 d.vars (f.text::(YX f.hyps).map Hy.text).flatten))))),_,_] [4,5,12,13] [_,_] rfl ⟨fun _ _ hk hx hl _=>Zbw (c_Join hJ f.wide ([]:List Pr) (by simp only[List.length_nil];omega)) Zsl rfl (Zp hS _ hk hx) (hx.1) (Za (hl.dep 3 101 _ rfl rfl rfl rfl) (Za (ZgB (Rel.of_lit (.slice none 0 0))) Zh)) (jo hJ hx),iFo hS hJ (Ze8 hJ f.wide (Zfs f.wide ([]:List Pr))) Zk9,fun _ _ hk hx hl hc=>Zbw (ZsK hJ f.wide (Q7 d.vars (f.text::(YX f.hyps).map Hy.text).flatten) (by have hc':((decide (f.wide=(Zfs f.wide ([]:List Pr))))==true)=true:=hc;(try simp at hc');(omega))) Zsk rfl (Zp hS _ hk hx) (hx.1) (Za (hl.dep 10 108 _ rfl rfl rfl hc) (Za (hl.dep 11 109 _ rfl rfl rfl hc) Zh)) (jo hJ hx),iFo hS hJ (Ze8 hJ f.apart (f.wide.filter (inV (Q7 d.vars (f.text::(YX f.hyps).map Hy.text).flatten)))) Zk9,trivial⟩ ?_))
    refine ln 0 fun hl10=>?_
    exact Ze (Xe (m:=1) rfl rfl (eB (by first | (rw[ZdZ,q3];rfl) | (rw[ZdZ,e1,q5];rfl) | (rw[ZdZ,e1,e4,q7];rfl) | (rw[ZdZ,e1,e4,e6];rfl))))
theorem Zpz {J:World→Prop} (hJ:Stab J) (d:Db)  :Fn Tryz.prog J 52 [.agg (dbC d)] (.int (Zbo d)):=by
 refine Zo (N:=63) Tryz.func52 rfl rfl (lb rfl) fun S w0 hS hJ0=>?_
 clear hJ0
 refine hqs tb hJ [1000] [.ptr (dbC d),_] [0] [_] rfl ⟨fun _ _ hk hx hl _=>Yq rfl (hl.env 0 0 _ rfl rfl) (hS _ hk.size) (js hJ hx),trivial⟩ ?_
 refine Zf (qs tb hJ [0,1000] [_] [_,_] ?_)
 refine Zc (lp (ι:=Nat) (fun k=>(k≤d.consts.length)∧(∀ j,j<k→Zft d j=0)) (fun k=>[(3,.int (k:Nat))]) (fun k=>d.consts.length-k) [0,1] [_] 0 ⟨Nat.zero_le _,fun j hj=>by omega⟩ ?_)
 rintro k ⟨f1_1,f1_2⟩
 refine Zf (hqs tb hJ [0,1,1002,1004] [_,_,_,.int (d.consts.length:Nat),_] [3] U4 rfl ⟨Z2 Zm,trivial⟩ ?_)
 refine ln 2 fun hl1=>?_
 refine cj 3 (fun hb1=>?_) fun hb1=>?_
 try simp at hb1
 refine Zb (nx (Zf (Zc (Zf (hqs tb hJ [0,1,1006] [_,_,_,.ptr [lS (ge d.consts k)],_,.bool (Zgl (ge d.consts k)),_] [3,5] U3 rfl ⟨iIx Zd,iFn hS hJ (Zf3 hJ (ge d.consts k)) Zpg,trivial⟩ ?_)))))
 refine cj 2 (fun hb2=>?_) fun hb2=>?_
 try simp at hb2
 have q2:Zft d k=2:=by simp[Zft,hb2]
 refine qs tb hJ [1000] [_] [_] ?_
 exact Ze (rtn (m:=0) rfl rfl (eI (by first | (have:=Ys (by omega:k<d.consts.length) f1_2 (by rw[q2];decide);rw[Zbo,this,q2];rfl) | (have:=Ys (by omega:k<d.vars.length) f2_2 (by rw[q5];decide);rw[Zbo,e1,this,q5];rfl) | (rw[Zbo,e1,e4];rfl))))
 try simp at hb2
 refine Zb (nx (hqs tb hJ [0,1,1003,1009] [_,_,_,.rd (Zg (d.consts.take k)),_,_,_,.ptr [lS (ge d.consts k)],_,.bool (decide ((ge d.consts k)∈(d.consts.take k)))] [3,7,9] U4 rfl ⟨fun _ _ _ hx hl _=>Yy (ys:=d.consts.take k) (lo:=0) (hi:=k) List.drop_zero Zd (fun _=>rfl) rfl (hl.dep 1 20 _ rfl rfl rfl rfl) rfl (hl.dep 2 21 _ rfl rfl rfl rfl) sfz sfz hx,iIx Zd,iFn hS hJ (Zci hJ (d.consts.take k) (ge d.consts k)) XW,trivial⟩ ?_))
 refine ln 2 fun hl2=>?_
 refine cj 3 (fun hb3=>?_) fun hb3=>?_
 try simp at hb3
 have q2:Zft d k=6:=by simp[Zft,hb2,hb3]
 refine qs tb hJ [1000] [_] [_] ?_
 exact Ze (rtn (m:=0) rfl rfl (eI (by first | (have:=Ys (by omega:k<d.consts.length) f1_2 (by rw[q2];decide);rw[Zbo,this,q2];rfl) | (have:=Ys (by omega:k<d.vars.length) f2_2 (by rw[q5];decide);rw[Zbo,e1,this,q5];rfl) | (rw[Zbo,e1,e4];rfl))))
 try simp at hb3
 refine Zb (nx (hqp tb hJ [0,1002] [_,.int (k+1:Nat),_] [1] [_,_] rfl ⟨Ya,trivial⟩ ?_))
 exact lpE (k+1) [0,1] ⟨by omega,ZK f1_2 (by simp_all[Zft])⟩
 try simp at hb1
 have e1:Xu d.consts.length (Zft d)=0:=X4 fun j hj=>f1_2 j (by omega)
 refine Zt (nx (Zf (qs tb hJ [0,1000] [_] [_,_] ?_)))
 refine Zc (lp (ι:=Nat) (fun k=>(k≤d.vars.length)∧(∀ j,j<k→Zgh d j=0)) (fun k=>[(4,.int (k:Nat))]) (fun k=>d.vars.length-k) [0,1] [_] 0 ⟨Nat.zero_le _,fun j hj=>by omega⟩ ?_)
 rintro k ⟨f2_1,f2_2⟩
 refine Zf (hqs tb hJ [0,1,1002,1004] [_,_,_,.int (d.vars.length:Nat),_] [3] U4 rfl ⟨Z2 Zm,trivial⟩ ?_)
 refine ln 2 fun hl3=>?_
 refine cj 3 (fun hb4=>?_) fun hb4=>?_
 try simp at hb4
 refine Zb (nx (Zf (Zc (Zf (hqs tb hJ [0,1,1006] [_,_,_,.ptr [lS (ge d.vars k)],_,.bool (Zgl (ge d.vars k)),_] [3,5] U3 rfl ⟨iIx Zd,iFn hS hJ (Zf3 hJ (ge d.vars k)) Zpg,trivial⟩ ?_)))))
 refine cj 2 (fun hb5=>?_) fun hb5=>?_
 try simp at hb5
 have q5:Zgh d k=2:=by simp[Zgh,hb5]
 refine qs tb hJ [1000] [_] [_] ?_
 exact Ze (rtn (m:=0) rfl rfl (eI (by first | (have:=Ys (by omega:k<d.consts.length) f1_2 (by rw[q2];decide);rw[Zbo,this,q2];rfl) | (have:=Ys (by omega:k<d.vars.length) f2_2 (by rw[q5];decide);rw[Zbo,e1,this,q5];rfl) | (rw[Zbo,e1,e4];rfl))))
 try simp at hb5
 refine Zb (nx (hqs tb hJ [0,1,1019] [_,_,_,_,_,.ptr [lS (ge d.vars k)],_,.bool (decide ((ge d.vars k)∈d.consts)),_,_,_,_,.rd (Zg (d.vars.take k)),_,_,_,.ptr [lS (ge d.vars k)],_,.bool (decide ((ge d.vars k)∈(d.vars.take k))),_] [5,7,12,16,18] U3 rfl ⟨iIx Zd,iFn hS hJ (Zci hJ d.consts (ge d.vars k)) XW,fun _ _ _ hx hl hc=>Yy (ys:=d.vars.take k) (lo:=0) (hi:=k) List.drop_zero Zd (fun _=>rfl) rfl (hl.dep 10 53 _ rfl rfl rfl hc) rfl (hl.dep 11 54 _ rfl rfl rfl hc) (by have hc':((decide ((ge d.vars k)∈d.consts))==false)=true:=hc;(try simp at hc');(first | omega | (simp;omega) | grind[Zv])) (by have hc':((decide ((ge d.vars k)∈d.consts))==false)=true:=hc;(try simp at hc');(first | omega | (simp;omega) | grind[Zv])) hx,gIx Zd (hk:=fun(hc':((decide ((ge d.vars k)∈d.consts))==false)=true)=>by(try simp at hc');first | omega | (simp;omega) | grind[Zv]),iFn hS hJ (Zci hJ (d.vars.take k) (ge d.vars k)) XW,trivial⟩ ?_))
 refine cj 2 (fun hb6=>?_) fun hb6=>?_
 try simp at hb6
 have q5:Zgh d k=6:=by simp_all[Zgh]
 refine qs tb hJ [1000] [_] [_] ?_
 exact Ze (rtn (m:=0) rfl rfl (eI (by first | (have:=Ys (by omega:k<d.consts.length) f1_2 (by rw[q2];decide);rw[Zbo,this,q2];rfl) | (have:=Ys (by omega:k<d.vars.length) f2_2 (by rw[q5];decide);rw[Zbo,e1,this,q5];rfl) | (rw[Zbo,e1,e4];rfl))))
 try simp at hb6
 refine Zb (nx (hqp tb hJ [0,1002] [_,.int (k+1:Nat),_] [1] [_,_] rfl ⟨Ya,trivial⟩ ?_))
 exact lpE (k+1) [0,1] ⟨by omega,ZK f2_2 (by simp_all[Zgh])⟩
 try simp at hb4
 have e4:Xu d.vars.length (Zgh d)=0:=X4 fun j hj=>f2_2 j (by omega)
 refine Zt (nx (qs tb hJ [1000] [_] [_] ?_))
 exact Ze (rtn (m:=0) rfl rfl (eI (by first | (have:=Ys (by omega:k<d.consts.length) f1_2 (by rw[q2];decide);rw[Zbo,this,q2];rfl) | (have:=Ys (by omega:k<d.vars.length) f2_2 (by rw[q5];decide);rw[Zbo,e1,this,q5];rfl) | (rw[Zbo,e1,e4];rfl))))
theorem Zwg {J:World→Prop} (hJ:Stab J) (d:Db) (k:Nat) (hk0:k<d.frames.length) (hf:d.frames.length≤400) (hv:d.vars.length≤8000) (hz:∀ i,i<k→(ge d.frames i).hyps.length≤40∧(ge d.frames i).dummies.length≤40) (hw:(ge d.frames k).wide.length*32≤140737488351232):Fn Tryz.prog J 53 [.agg (dbC d),.int (k:Nat)] (.int (frE d k)):=by
 refine Zo (N:=154) Tryz.func53 rfl rfl (lb rfl) fun S w0 hS hJ0=>?_
 clear hJ0
 refine hqs tb hJ [1,1000] [.ptr (dbC d),_] [0] [_,_] rfl ⟨fun _ _ hk hx hl _=>Yq rfl (hl.env 0 0 _ rfl rfl) (hS _ hk.size) (js hJ hx),trivial⟩ ?_
 refine tsq ?_
 refine snK 3 tb rfl ?_
 refine sy (.ptr (frC (ge d.frames k))) (fun h=>ZO (i:=(k:Int)) ZS rfl (h.get 1 rfl) (h.get 0 rfl) (Int.natCast_nonneg _) (ZU (xs:=d.frames) (k:=k) sfz) rfl h.x) ?_
 refine snK 1 tb rfl ?_
 refine XZ (cs:=frC (ge d.frames k)) ZdY rfl rfl rfl (lb rfl) rfl rfl rfl (by decide) (m:=0) rfl rfl (fun a w h=>hS _ h.keep.size) (fun a w h w' hk'=>hJ _ _ hk' h.x) ?_
 refine seK [0,4,6,7] U4 rfl ?_
 refine nx (ln 1 fun hl1=>?_)
 refine Zf (hqs tb hJ [0,2,3,1003] [_,_,.bool (QE ((ge d.frames k).label)),_] [2] U4 rfl ⟨iFn hS hJ (Zc6 hJ ((ge d.frames k).label)) ZgV,trivial⟩ ?_)
 refine cj 3 (fun hb1=>?_) fun hb1=>?_
 ·
  try simp at hb1
  refine qs tb hJ [1000] [_] [_] ?_
  exact Ze (rtn (m:=0) rfl rfl (eI (by first | (show Zb5 d k j=_;have q6:Zb5 d k j≠0:=ZgC hb5;rw[frE,ZcX];grind) | (rw[frE,ZcX];grind))))
 ·
  try simp at hb1
  refine Zb (nx (Zf (hqs tb hJ [0,1,2,1008,1009] [_,_,_,_,.tup [.bool (frL d k ((ge d.frames k).label)),.bool (hyL d k ((ge d.frames k).label))],_,_,_,_,_] [4] U5 rfl ⟨iFn hS hJ (ZjC hJ d k ((ge d.frames k).label) sfz (hz)) Zjw,trivial⟩ ?_)))
  refine hqs tb hJ [0,1,2,1009] [_,_,_,_,_,_,_,_,.bool (Zdj d ((ge d.frames k).label)),_] [8] U4 rfl ⟨iFn hS hJ (Zg2 hJ d ((ge d.frames k).label)) Zjv,trivial⟩ ?_
  refine cj 3 (fun hb2=>?_) fun hb2=>?_
  ·
   refine qs tb hJ [1000] [_] [_] ?_
   exact Ze (rtn (m:=0) rfl rfl (eI (by first | (show Zb5 d k j=_;have q6:Zb5 d k j≠0:=ZgC hb5;rw[frE,ZcX];grind) | (rw[frE,ZcX];grind))))
  ·
   refine Zb (nx (Zf (hqs tb hJ [0,1,2,1001,1009] [_,_,.int (((ge d.frames k).hyps).length:Nat),_,_,_,_,.int (((ge d.frames k).dummies).length:Nat),_,_] [2,7] U5 rfl ⟨Z2 Zx,Z2 Zx,trivial⟩ ?_)))
   refine ln 3 fun hl2=>?_
   refine cj 4 (fun hb3=>?_) fun hb3=>?_
   ·
    refine qs tb hJ [1000] [_] [_] ?_
    exact Ze (rtn (m:=0) rfl rfl (eI (by first | (show Zb5 d k j=_;have q6:Zb5 d k j≠0:=ZgC hb5;rw[frE,ZcX];grind) | (rw[frE,ZcX];grind))))
   ·
    have e3:(ge d.frames k).hyps.length≤40∧(ge d.frames k).dummies.length≤40:=by simp at hb3;omega
    refine Zb (nx (hqs tb hJ [0,1,2,1001,1002] [_,.rd (Xm ((ge d.frames k).hyps++(ge d.frames k).dummies)),_] [1] U5 rfl ⟨iFn hS hJ (ZsQ hJ (ge d.frames k) sfz) ZgU,trivial⟩ ?_))
    refine ln 3 fun hl3=>?_
    refine Zf (qs tb hJ [0,1,2,4,1000] [_] U5 ?_)
    refine Zc (lp (ι:=Nat) (fun j=>(j≤((ge d.frames k).hyps++(ge d.frames k).dummies).length)∧(∀ i,i<j→Zb5 d k i=0)) (fun j=>[(9,.int (j:Nat))]) (fun j=>((ge d.frames k).hyps++(ge d.frames k).dummies).length-j) (r5 []) U4 0 ⟨Nat.zero_le _,fun j hj=>by omega⟩ ?_)
    rintro j ⟨f1_1,f1_2⟩
    refine Zf (hqs tb hJ (r5 [1003]) [_,_,.int (((ge d.frames k).hyps++(ge d.frames k).dummies).length:Nat),_] [2] U6 rfl ⟨Z2 Zx,trivial⟩ ?_)
    refine cj 5 (fun hb4=>?_) fun hb4=>?_
    ·
     try simp at hb4
     refine Zb (nx (Zf (Zc (hqs tb hJ (r5 [1008,1015]) [_,_,_,_,.ptr (hyC (ge ((ge d.frames k).hyps++(ge d.frames k).dummies) j)),_,_,_,.rd (Xm (((ge d.frames k).hyps++(ge d.frames k).dummies).take j)),_,_,_,.int (((ge d.frames k).hyps).length:Nat),_,.int (ZcW d k (ge ((ge d.frames k).hyps++(ge d.frames k).dummies) j) (((ge d.frames k).hyps++(ge d.frames k).dummies).take j) (decide (((((ge d.frames k).hyps).length:Nat):Int)≤(j:Int)))),_] [4,8,12,14] U7 rfl ⟨iIx Zq,fun _ _ _ hx hl _=>Yy (ys:=((ge d.frames k).hyps++(ge d.frames k).dummies).take j) (lo:=0) (hi:=j) List.drop_zero Zq (fun _=>rfl) rfl (hl.dep 6 68 _ rfl rfl rfl rfl) rfl (hl.dep 7 69 _ rfl rfl rfl rfl) sfz sfz hx,Z2 Zx,iFn hS hJ (Zip hJ d k (ge ((ge d.frames k).hyps++(ge d.frames k).dummies) j) (((ge d.frames k).hyps++(ge d.frames k).dummies).take j) (decide (((((ge d.frames k).hyps).length:Nat):Int)≤(j:Int))) sfz sfz (by intro i hi;by_cases e:i=k;(subst e;exact e3);exact hz i (by omega)) (by have:=List.length_take_le' j ((ge d.frames k).hyps++(ge d.frames k).dummies);simp at this ⊢;omega)) Zvy,trivial⟩ ?_))))
     refine ln 5 fun hl4=>?_
     refine qs tb hJ (r5 [6,1001]) [_,_] U7 ?_
     refine cj 6 (fun hb5=>?_) fun hb5=>?_
     ·
      have q5:Zmu d k=Zb5 d k j:=Ys (by simp;omega) f1_2 (ZgC hb5)
      refine qs tb hJ [1001] [_,_] [_] ?_
      exact Ze (rtn (m:=0) rfl rfl (eI (by first | (show Zb5 d k j=_;have q6:Zb5 d k j≠0:=ZgC hb5;rw[frE,ZcX];grind) | (rw[frE,ZcX];grind))))
     ·
      refine Zb (nx (hqp tb hJ [0,1,2,3,1002] [_,.int (j+1:Nat),_] [1] U5 rfl ⟨Ya,trivial⟩ ?_))
      exact lpE (j+1) (r5 []) ⟨by simp;omega,ZK f1_2 (Ztu hb5)⟩
    ·
     try simp at hb4
     have e4:Zmu d k=0:=X4 fun i hi=>f1_2 i (by simp at hb4 hi;omega)
     refine Zt (nx (Zf (hqs tb hJ [0,1,2,1001,1009] [_,_,.int (((ge d.frames k).text).length:Nat),_,_,_,_,.int (((ge d.frames k).text).length:Nat),_,_] [2,7] U5 rfl ⟨Z2 Zm,Z2 Zm,trivial⟩ ?_)))
     refine ln 3 fun hl5=>?_
     refine cj 4 (fun hb6=>?_) fun hb6=>?_
     ·
      refine qs tb hJ [1000] [_] [_] ?_
      exact Ze (rtn (m:=0) rfl rfl (eI (by first | (show Zb5 d k j=_;have q6:Zb5 d k j≠0:=ZgC hb5;rw[frE,ZcX];grind) | (rw[frE,ZcX];grind))))
     ·
      refine Zb (nx (Zf (hqs tb hJ [0,1,2,1004] [_,_,_,.int (Zbt d ((ge d.frames k).text)),_] [3] U4 rfl ⟨iFn hS hJ (Ziq hJ d ((ge d.frames k).text) sfz) Zpf,trivial⟩ ?_)))
      refine qs tb hJ [0,1,2,3,1001] [_,_] U5 ?_
      refine cj 4 (fun hb7=>?_) fun hb7=>?_
      ·
       try simp at hb7
       refine qs tb hJ [1001] [_,_] [_] ?_
       exact Ze (rtn (m:=0) rfl rfl (eI (by first | (show Zb5 d k j=_;have q6:Zb5 d k j≠0:=ZgC hb5;rw[frE,ZcX];grind) | (rw[frE,ZcX];grind))))
      ·
       try simp at hb7
       refine Zb (nx (Zf (hqs tb hJ [0,1,2,1003] [_,_,.bool (ZdZ d (ge d.frames k)),_] [2] U4 rfl ⟨iFn hS hJ (Zjz hJ d (ge d.frames k) sfz sfz (hw) (fun h hh=>Zre e4 h (by simp[hh]))) Zvx,trivial⟩ ?_)))
       refine cj 3 (fun hb8=>?_) fun hb8=>?_
       ·
        try simp at hb8
        refine qs tb hJ [1000] [_] [_] ?_
        exact Ze (rtn (m:=0) rfl rfl (eI (by first | (show Zb5 d k j=_;have q6:Zb5 d k j≠0:=ZgC hb5;rw[frE,ZcX];grind) | (rw[frE,ZcX];grind))))
       ·
        try simp at hb8
        refine Zb (nx (Zf (hqs tb hJ [0,1,2,1001,1014] [_,_,.int (((ge d.frames k).proof).length:Nat),_,_,_,_,_,_,_,_,_,.int (((ge d.frames k).proof).length:Nat),_,_] [2,12] U5 rfl ⟨Z2 Zm,Z2 Zm,trivial⟩ ?_)))
        refine ln 3 fun hl6=>?_
        refine cj 4 (fun hb9=>?_) fun hb9=>?_
        ·
         refine qs tb hJ [1000] [_] [_] ?_
         exact Ze (rtn (m:=0) rfl rfl (eI (by first | (show Zb5 d k j=_;have q6:Zb5 d k j≠0:=ZgC hb5;rw[frE,ZcX];grind) | (rw[frE,ZcX];grind))))
        ·
         refine Zb (nx (Zf (qs tb hJ [0,1,2,1000] [_] U4 ?_)))
         refine Zc (lp (ι:=Nat) (fun j=>(j≤(ge d.frames k).proof.length)∧(((ge d.frames k).proof.take j).all Y1=true)) (fun j=>[(12,.int (j:Nat))]) (fun j=>(ge d.frames k).proof.length-j) [0,1,2,3] U3 0 ⟨Nat.zero_le _,rfl⟩ ?_)
         rintro j ⟨f2_1,f2_2⟩
         refine Zf (hqs tb hJ [0,1,2,3,1004] [_,_,_,.int (((ge d.frames k).proof).length:Nat),_] [3] U5 rfl ⟨Z2 Zm,trivial⟩ ?_)
         refine cj 4 (fun hb10=>?_) fun hb10=>?_
         ·
          try simp at hb10
          refine Zb (nx (Zf (Zc (hqs tb hJ [0,1,2,3,1006] [_,_,_,.ptr [lS (ge ((ge d.frames k).proof) j)],_,.bool (Y1 (ge ((ge d.frames k).proof) j)),_] [3,5] U5 rfl ⟨iIx Zd,iFn hS hJ (ZpG hJ (ge ((ge d.frames k).proof) j)) Zvw,trivial⟩ ?_))))
          refine cj 4 (fun hb11=>?_) fun hb11=>?_
          ·
           try simp at hb11
           have q11:(ge d.frames k).proof.all Y1=false:=QC hb10 hb11
           refine qs tb hJ [1000] [_] [_] ?_
           exact Ze (rtn (m:=0) rfl rfl (eI (by first | (show Zb5 d k j=_;have q6:Zb5 d k j≠0:=ZgC hb5;rw[frE,ZcX];grind) | (rw[frE,ZcX];grind))))
          ·
           try simp at hb11
           refine Zb (nx (hqp tb hJ [0,1,2,1002] [_,.int (j+1:Nat),_] [1] U4 rfl ⟨Ya,trivial⟩ ?_))
           exact lpE (j+1) [0,1,2,3] ⟨by omega,by rw[XT (by omega),f2_2];simpa using hb11⟩
         ·
          try simp at hb10
          have e10:(ge d.frames k).proof.all Y1=true:=by rw[←ZF (xs:=(ge d.frames k).proof) (by omega)];exact f2_2
          refine Zt (nx (hqs tb hJ [1,2,1001,1002] [_,.rd (Zg ((YX (ge d.frames k).hyps).map Hy.label)),_] [1] U4 rfl ⟨iFn hS hJ (ZdP hJ (ge d.frames k) sfz) Zpe,trivial⟩ ?_))
          refine ln 2 fun hl7=>?_
          refine Zf (hqs tb hJ [0,1,3,1002,1005] [_,_,.rd (Zg (ZjH d k)),_,.int (Zd7 (ZjH d k) ((YX (ge d.frames k).hyps).map Hy.label):Nat),_] [2,4] U5 rfl ⟨iFn hS hJ (ZsO hJ d k sfz sfz (fun h=>(hz (k-1) (by omega)).1)) ZsI,iFn hS hJ (ZsN hJ (ZjH d k) ((YX (ge d.frames k).hyps).map Hy.label)) ZsJ,trivial⟩ ?_)
          refine ln 3 fun hl8=>?_
          refine Zc (lp (ι:=Nat) (fun m=>(Zd7 (ZjH d k) ((YX (ge d.frames k).hyps).map Hy.label)≤m)∧(m≤((YX (ge d.frames k).hyps).map Hy.label).length)∧(∀ i,Zd7 (ZjH d k) ((YX (ge d.frames k).hyps).map Hy.label)≤i→i<m→hyL d k (ge ((YX (ge d.frames k).hyps).map Hy.label) i)=false)) (fun m=>[(14,.int (m:Nat))]) (fun m=>((YX (ge d.frames k).hyps).map Hy.label).length-m) [0,1,2,4] U3 (Zd7 (ZjH d k) ((YX (ge d.frames k).hyps).map Hy.label)) ⟨Nat.le_refl _,Zjs _ _,fun i h1 h2=>by omega⟩ ?_)
          rintro m ⟨f3_1,f3_2,f3_3⟩
          refine Zf (hqs tb hJ [0,1,2,3,1003] [_,_,.int (((YX (ge d.frames k).hyps).map Hy.label).length:Nat),_] [2] U5 rfl ⟨Z2 Zm,trivial⟩ ?_)
          refine cj 4 (fun hb12=>?_) fun hb12=>?_
          ·
           replace hb12:m< ((YX (ge d.frames k).hyps).map Hy.label).length:=by have:=of_decide_eq_true hb12;omega
           refine Zb (nx (Zf (Zc (hqs tb hJ [0,1,2,3,1011] [_,_,_,_,.ptr [lS (ge ((YX (ge d.frames k).hyps).map Hy.label) m)],_,.tup [.bool (frL d k (ge ((YX (ge d.frames k).hyps).map Hy.label) m)),.bool (hyL d k (ge ((YX (ge d.frames k).hyps).map Hy.label) m))],_,_,_,_,_] [4,6] U5 rfl ⟨iIx Zd,iFn hS hJ (ZjC hJ d k (ge ((YX (ge d.frames k).hyps).map Hy.label) m) sfz (hz)) Zjw,trivial⟩ ?_))))
           refine qs tb hJ [0,1,2,3,1000] [_] U5 ?_
           refine cj 4 (fun hb13=>?_) fun hb13=>?_
           ·
            try simp at hb13
            have q13:ordB d k (ge d.frames k)=true:=ZrB f3_1 hb12 hb13
            refine qs tb hJ [1000] [_] [_] ?_
            exact Ze (rtn (m:=0) rfl rfl (eI (by first | (show Zb5 d k j=_;have q6:Zb5 d k j≠0:=ZgC hb5;rw[frE,ZcX];grind) | (rw[frE,ZcX];grind))))
           ·
            try simp at hb13
            refine Zb (nx (hqp tb hJ [0,1,2,1002] [_,.int (m+1:Nat),_] [1] U4 rfl ⟨Ya,trivial⟩ ?_))
            exact lpE (m+1) [0,1,2,3] ⟨by omega,by omega,fun i h1 h2=>by by_cases e:i=m;(subst e;simpa using hb13);exact f3_3 i h1 (by omega)⟩
          ·
           replace hb12:((YX (ge d.frames k).hyps).map Hy.label).length≤m:=by have:=of_decide_eq_false hb12;omega
           have e12:ordB d k (ge d.frames k)=false:=ZoZ fun i h1 h2=>f3_3 i h1 (by omega)
           refine Zt (nx (qs tb hJ [1000] [_] [_] ?_))
           exact Ze (rtn (m:=0) rfl rfl (eI (by first | (show Zb5 d k j=_;have q6:Zb5 d k j≠0:=ZgC hb5;rw[frE,ZcX];grind) | (rw[frE,ZcX];grind))))
theorem ZpH {J:World→Prop} (hJ:Stab J) (d:Db) (hw:∀ i,i<d.frames.length→(ge d.frames i).wide.length*32≤140737488351232):Fn Tryz.prog J 39 [.agg (dbC d)] (.int (QK d)):=by
 refine Zo (N:=40) Tryz.func39 rfl rfl (lb rfl) fun S w0 hS hJ0=>?_
 clear hJ0
 refine hqs tb hJ [1000] [.ptr (dbC d),_] [0] [_] rfl ⟨fun _ _ hk hx hl _=>Yq rfl (hl.env 0 0 _ rfl rfl) (hS _ hk.size) (js hJ hx),trivial⟩ ?_
 refine Zf (hqs tb hJ [0,1001,1015] [_,_,.int (d.frames.length:Nat),_,_,_,_,.int (d.consts.length:Nat),_,_,_,_,_,.int (d.vars.length:Nat),_,_] [2,7,13] U3 rfl ⟨Z2 Xv,Z2 Zm,Z2 Zm,trivial⟩ ?_)
 refine ln 1 fun hl1=>?_
 refine cj 2 (fun hb1=>?_) fun hb1=>?_
 refine qs tb hJ [1000] [_] [_] ?_
 exact Ze (rtn (m:=0) rfl rfl (eI (by rw[QK];grind)))
 have e1:(d.frames.length≤400∧d.consts.length≤8000)∧d.vars.length≤8000:=by simp at hb1;omega
 refine Zb (nx (Zf (hqs tb hJ [0,1002] [_,.int (Zbo d),_] [1] [_,_] rfl ⟨iFn hS hJ (Zpz hJ d) ZvS,trivial⟩ ?_)))
 refine qs tb hJ [0,1,1001] [_,_] U3 ?_
 refine cj 2 (fun hb2=>?_) fun hb2=>?_
 try simp at hb2
 refine qs tb hJ [1001] [_,_] [_] ?_
 exact Ze (rtn (m:=0) rfl rfl (eI (by rw[QK];grind)))
 try simp at hb2
 refine Zb (nx (Zf (qs tb hJ [0,1000] [_] [_,_] ?_)))
 refine Zc (lp (ι:=Nat) (fun k=>(k≤d.frames.length)∧(∀ i,i<k→frE d i=0)) (fun k=>[(4,.int (k:Nat))]) (fun k=>d.frames.length-k) [0,1] [_] 0 ⟨Nat.zero_le _,fun j hj=>by omega⟩ ?_)
 rintro k ⟨f1_1,f1_2⟩
 refine Zf (hqs tb hJ [0,1,1004] [_,_,_,.int (d.frames.length:Nat),_] [3] U3 rfl ⟨Z2 Xv,trivial⟩ ?_)
 refine cj 2 (fun hb3=>?_) fun hb3=>?_
 try simp at hb3
 refine Zb (nx (Zf (Zc (hqs tb hJ [0,1,1003] [_,_,.int (frE d k),_] [2] U3 rfl ⟨iFn hS hJ (Zwg hJ d k sfz (e1.1.1) (e1.2) (fun i hi=>ZgM (f1_2 i hi)) (hw k (by omega))) ZvR,trivial⟩ ?_))))
 refine qs tb hJ [0,1,2,1001] [_,_] U4 ?_
 refine cj 3 (fun hb4=>?_) fun hb4=>?_
 try simp at hb4
 have q4:=Ys (by omega) f1_2 hb4
 refine qs tb hJ [1001] [_,_] [_] ?_
 exact Ze (rtn (m:=0) rfl rfl (eI (by rw[QK];grind)))
 try simp at hb4
 refine Zb (nx (hqp tb hJ [0,1002] [_,.int (k+1:Nat),_] [1] [_,_] rfl ⟨Ya,trivial⟩ ?_))
 exact lpE (k+1) [0,1] ⟨by omega,ZK f1_2 hb4⟩
 try simp at hb3
 have e3:Xu d.frames.length (frE d)=0:=X4 fun i hi=>f1_2 i (by omega)
 refine Zt (nx (qs tb hJ [1000] [_] [_] ?_))
 exact Ze (rtn (m:=0) rfl rfl (eI (by rw[QK];grind)))
theorem Zb1 {J:World→Prop} (hJ:Stab J) (M1:Nat) (M2:Nat) (M3:Nat) (M4:Nat) (M5:Nat) (cs:List BA) (vs:List BA) (s:BA)  :FnR Tryz.prog J 75 [OB.set keyS M1 cs,OB.set keyS M2 vs] [.ptr (mpC [M1,M2,M3,M4,M5]),.str s] (.bool (decide (s∈cs)||decide (s∈vs))):=by
 refine Yo (N:=19) Tryz.func75 rfl rfl (lb rfl) fun S w0 hS hJ0 hH=>?_
 clear hJ0
 refine qs tb hJ [0,1] [_] [_,_] ?_
 refine hqs tb hJ [1014] [_,_,_,_,_,.bool (decide (s∈cs)),_,_,_,_,_,_,.bool (decide (s∈vs)),_,_] [5,12] [_] rfl ⟨fun _ _ hk hx hl _=>YE (Kd:=keyS) (xs:=cs) Yd Yf s rfl (Xl hH hk (mo 0 rfl)) (hl.D 3 8 rfl rfl) (hl.D 4 9 rfl rfl) hx,fun _ _ hk hx hl hc=>YE (Kd:=keyS) (xs:=vs) Yd Yf s rfl (Xl hH hk (mo 1 rfl)) (hl.D 10 15 rfl hc) (hl.D 11 16 rfl hc) hx,trivial⟩ ?_
 exact Ze (rtn (m:=0) rfl rfl (eB (by first | rfl | grind[Zv])))
theorem Zuu {J:World→Prop} (hJ:Stab J) (M1:Nat) (M2:Nat) (M3:Nat) (M4:Nat) (M5:Nat) (cs:List BA) (vs:List BA) (s:BA)  :FnR Tryz.prog J 125 [OB.set keyS M1 cs,OB.set keyS M2 vs] [.str s,.ptr [.ptr (mpC [M1,M2,M3,M4,M5])]] (.bool (!(decide (s∈cs)||decide (s∈vs)))):=by
 refine Yo (N:=8) Tryz.func125 rfl rfl (lb rfl) fun S w0 hS hJ0 hH=>?_
 clear hJ0
 refine qs tb hJ [0,1] [_] [_,_] ?_
 refine hqs tb hJ [1004] [_,_,.bool (decide (s∈cs)||decide (s∈vs)),_,_] [2] [_] rfl ⟨fun _ _ hk hx hl _=>Xq (Zb1 hJ M1 M2 M3 M4 M5 cs vs s) ZgX rfl (nm hS hk) (hx) (ZT (Xl hH hk (mo 0 rfl)) (ZT (Xl hH hk (mo 1 rfl)) Zy)) (Za (hl.D 0 4 rfl rfl) (Za (hl.D 1 5 rfl rfl) Zh)) (js hJ hx),trivial⟩ ?_
 exact Ze (rtn (m:=0) rfl rfl rfl)
theorem ZhM {J:World→Prop} (hJ:Stab J) (xs:List BA) (f:FuncId) (caps:List AV) (Os:List OB) (p:BA→Bool) (hf:∀ q',FnR Tryz.prog J f Os ([.str (q')]++caps) (.bool (p q'))) (hk0:Zl Tryz.prog f):FnR Tryz.prog J 31 Os [.rd (Zg xs),.fn f caps] (.int (Yp p xs)):=by
 refine Yo (N:=19) Tryz.func31 rfl rfl (lb rfl) fun S w0 hS hJ0 hH=>?_
 clear hJ0
 refine ln 0 fun hl1=>?_
 refine qs tb hJ [0,1] [_] [_,_] ?_
 refine Zf (hqs tb hJ [0,1,1001,1002] [_,.int (xs.length:Nat),_] [1] U4 rfl ⟨Z2 Zm,trivial⟩ ?_)
 refine Zc (lp (ι:=Nat) (fun k=>(k≤xs.length)∧(∀ j,j<k→p (ge xs j)=false)) (fun k=>[(8,.int (k:Nat))]) (fun k=>xs.length-k) [0,1,2,3] U3 0 ⟨Nat.zero_le _,fun j hj=>by omega⟩ ?_)
 rintro k ⟨f1_1,f1_2⟩
 refine qs tb hJ [0,1,2,3,1000] [_] U5 ?_
 refine cjS 4 (fun hb1=>?_) fun hb1=>?_
 try simp at hb1
 refine Zb (nx (Zf (Zc (qs tb hJ [0,1,2,3,1001] [_,_] U5 ?_))))
 refine hqs tb hJ (r5 [1005]) [_,_,_,.ptr [lS (ge xs k)],_,.bool (p (ge xs k))] [3,5] U6 rfl ⟨iIx Zd,fun _ _ hk hx hl _=>ZdU (hf (ge xs k)) hk0 rfl (hl.D 0 11 rfl rfl) (nm hS hk) (hx) (fun _ ho=>Xl hH hk ho) (Za (hl.D 4 15 rfl rfl) Zh) (js hJ hx),trivial⟩ ?_
 refine cj 5 (fun hb2=>?_) fun hb2=>?_
 try simp at hb2
 refine qs tb hJ [1001] [_,_] [_] ?_
 exact Ze (rtn (m:=0) rfl rfl (eI (by first | exact(Xf hb1 hb2 f1_2).symm | exact(YT fun j hj=>f1_2 j (by omega)).symm)))
 try simp at hb2
 refine Zb (nx (hqp tb hJ [0,1,2,1001] [.int (k+1:Nat),_] [0] U4 rfl ⟨Ya,trivial⟩ ?_))
 exact lpE (k+1) [0,1,2,3] ⟨by omega,ZK f1_2 hb2⟩
 try simp at hb1
 refine Zt (nx (qs tb hJ [1000] [_] [_] ?_))
 exact Ze (rtn (m:=0) rfl rfl (eI (by first | exact(Xf hb1 hb2 f1_2).symm | exact(YT fun j hj=>f1_2 j (by omega)).symm)))
end Go.Proofs.YtneapgbkkkjagaaGreatDoor
set_option maxHeartbeats 8000000
set_option maxRecDepth 100000
namespace Go.Proofs.YtneapgbkkkjagaaGreatDoor
open Go.Proofs.Tryz (prog)
open Go.RowKit
theorem YY {J:World→Prop} (hJ:Stab J) (xs:List BA) (f:FuncId) (caps:List AV) (Os:List OB) (p:BA→Bool) (hf:∀ q',FnR prog J f Os ([.str (q')]++caps) (.bool (p q'))) (hk0:Zl prog f):FnR prog J 7 Os [.rd (Zg xs),.fn f caps] (.bool (xs.any p)):=by
 refine Yo (N:=9) Tryz.func7 rfl rfl (lb rfl) fun S w0 hS hJ0 hH=>?_
 clear hJ0
 refine ln 0 fun hl1=>?_
 refine qs tb hJ [0,1] [_] [_,_] ?_
 refine hqs tb hJ [1004] [_,_,.int (Yp p xs),_,_] [2] [_] rfl ⟨fun _ _ hk hx hl _=>Xq (ZhM hJ xs f caps Os p (hf) (hk0)) Zv5 rfl (nm hS hk) (hx) (fun _ ho=>Xl hH hk ho) (Za (hl.D 0 5 rfl rfl) (Za (hl.D 1 6 rfl rfl) Zh)) (js hJ hx),trivial⟩ ?_
 exact Ze (rtn (m:=0) rfl rfl (eB (by rw[←Zb6])))
theorem ZdJ {J:World→Prop} (hJ:Stab J) (xs:List Hy) (f:FuncId) (caps:List AV) (Os:List OB) (p:Hy→Bool) (hf:∀ q',FnR prog J f Os ([.agg (hyC (q'))]++caps) (.bool (p q'))) (hk0:Zl prog f):FnR prog J 48 Os [.rd (Xm xs),.fn f caps] (.int (Yp p xs)):=by
 refine Yo (N:=19) Tryz.func48 rfl rfl (lb rfl) fun S w0 hS hJ0 hH=>?_
 clear hJ0
 refine ln 0 fun hl1=>?_
 refine qs tb hJ [0,1] [_] [_,_] ?_
 refine Zf (hqs tb hJ [0,1,1001,1002] [_,.int (xs.length:Nat),_] [1] U4 rfl ⟨Z2 Zx,trivial⟩ ?_)
 refine Zc (lp (ι:=Nat) (fun k=>(k≤xs.length)∧(∀ j,j<k→p (ge xs j)=false)) (fun k=>[(8,.int (k:Nat))]) (fun k=>xs.length-k) [0,1,2,3] U3 0 ⟨Nat.zero_le _,fun j hj=>by omega⟩ ?_)
 rintro k ⟨f1_1,f1_2⟩
 refine qs tb hJ [0,1,2,3,1000] [_] U5 ?_
 refine cjS 4 (fun hb1=>?_) fun hb1=>?_
 try simp at hb1
 refine Zb (nx (Zf (Zc (qs tb hJ [0,1,2,3,1001] [_,_] U5 ?_))))
 refine hqs tb hJ (r5 [1005]) [_,_,_,.ptr (hyC (ge xs k)),_,.bool (p (ge xs k))] [3,5] U6 rfl ⟨iIx Zq,fun _ _ hk hx hl _=>ZdU (hf (ge xs k)) hk0 rfl (hl.D 0 11 rfl rfl) (nm hS hk) (hx) (fun _ ho=>Xl hH hk ho) (Za (hl.D 4 15 rfl rfl) Zh) (js hJ hx),trivial⟩ ?_
 refine cj 5 (fun hb2=>?_) fun hb2=>?_
 try simp at hb2
 refine qs tb hJ [1001] [_,_] [_] ?_
 exact Ze (rtn (m:=0) rfl rfl (eI (by first | exact(Xf hb1 hb2 f1_2).symm | exact(YT fun j hj=>f1_2 j (by omega)).symm)))
 try simp at hb2
 refine Zb (nx (hqp tb hJ [0,1,2,1001] [.int (k+1:Nat),_] [0] U4 rfl ⟨Ya,trivial⟩ ?_))
 exact lpE (k+1) [0,1,2,3] ⟨by omega,ZK f1_2 hb2⟩
 try simp at hb1
 refine Zt (nx (qs tb hJ [1000] [_] [_] ?_))
 exact Ze (rtn (m:=0) rfl rfl (eI (by first | exact(Xf hb1 hb2 f1_2).symm | exact(YT fun j hj=>f1_2 j (by omega)).symm)))
theorem Qm {J:World→Prop} (hJ:Stab J) (xs:List Hy) (f:FuncId) (caps:List AV) (Os:List OB) (p:Hy→Bool) (hf:∀ q',FnR prog J f Os ([.agg (hyC (q'))]++caps) (.bool (p q'))) (hk0:Zl prog f):FnR prog J 29 Os [.rd (Xm xs),.fn f caps] (.bool (xs.any p)):=by
 refine Yo (N:=9) Tryz.func29 rfl rfl (lb rfl) fun S w0 hS hJ0 hH=>?_
 clear hJ0
 refine ln 0 fun hl1=>?_
 refine qs tb hJ [0,1] [_] [_,_] ?_
 refine hqs tb hJ [1004] [_,_,.int (Yp p xs),_,_] [2] [_] rfl ⟨fun _ _ hk hx hl _=>Xq (ZdJ hJ xs f caps Os p (hf) (hk0)) Zpp rfl (nm hS hk) (hx) (fun _ ho=>Xl hH hk ho) (Za (hl.D 0 5 rfl rfl) (Za (hl.D 1 6 rfl rfl) Zh)) (js hJ hx),trivial⟩ ?_
 exact Ze (rtn (m:=0) rfl rfl (eB (by rw[←Zb6])))
theorem ZhN {J:World→Prop} (hJ:Stab J) (xs:List Pr) (f:FuncId) (caps:List AV) (Os:List OB) (p:Pr→Bool) (hf:∀ q',FnR prog J f Os ([.agg (prC (q'))]++caps) (.bool (p q'))) (hk0:Zl prog f):FnR prog J 179 Os [.rd (Xc xs),.fn f caps] (.int (Yp p xs)):=by
 refine Yo (N:=19) Tryz.func179 rfl rfl (lb rfl) fun S w0 hS hJ0 hH=>?_
 clear hJ0
 refine ln 0 fun hl1=>?_
 refine qs tb hJ [0,1] [_] [_,_] ?_
 refine Zf (hqs tb hJ [0,1,1001,1002] [_,.int (xs.length:Nat),_] [1] U4 rfl ⟨Z2 ZL,trivial⟩ ?_)
 refine Zc (lp (ι:=Nat) (fun k=>(k≤xs.length)∧(∀ j,j<k→p (ge xs j)=false)) (fun k=>[(8,.int (k:Nat))]) (fun k=>xs.length-k) [0,1,2,3] U3 0 ⟨Nat.zero_le _,fun j hj=>by omega⟩ ?_)
 rintro k ⟨f1_1,f1_2⟩
 refine qs tb hJ [0,1,2,3,1000] [_] U5 ?_
 refine cjS 4 (fun hb1=>?_) fun hb1=>?_
 try simp at hb1
 refine Zb (nx (Zf (Zc (qs tb hJ [0,1,2,3,1001] [_,_] U5 ?_))))
 refine hqs tb hJ (r5 [1005]) [_,_,_,.ptr (prC (ge xs k)),_,.bool (p (ge xs k))] [3,5] U6 rfl ⟨iIx Zu,fun _ _ hk hx hl _=>ZdU (hf (ge xs k)) hk0 rfl (hl.D 0 11 rfl rfl) (nm hS hk) (hx) (fun _ ho=>Xl hH hk ho) (Za (hl.D 4 15 rfl rfl) Zh) (js hJ hx),trivial⟩ ?_
 refine cj 5 (fun hb2=>?_) fun hb2=>?_
 try simp at hb2
 refine qs tb hJ [1001] [_,_] [_] ?_
 exact Ze (rtn (m:=0) rfl rfl (eI (by first | exact(Xf hb1 hb2 f1_2).symm | exact(YT fun j hj=>f1_2 j (by omega)).symm)))
 try simp at hb2
 refine Zb (nx (hqp tb hJ [0,1,2,1001] [.int (k+1:Nat),_] [0] U4 rfl ⟨Ya,trivial⟩ ?_))
 exact lpE (k+1) [0,1,2,3] ⟨by omega,ZK f1_2 hb2⟩
 try simp at hb1
 refine Zt (nx (qs tb hJ [1000] [_] [_] ?_))
 exact Ze (rtn (m:=0) rfl rfl (eI (by first | exact(Xf hb1 hb2 f1_2).symm | exact(YT fun j hj=>f1_2 j (by omega)).symm)))
theorem ZhO {J:World→Prop} (hJ:Stab J) (xs:List Fr) (f:FuncId) (caps:List AV) (Os:List OB) (p:Fr→Bool) (hf:∀ q',FnR prog J f Os ([.agg (frC (q'))]++caps) (.bool (p q'))) (hk0:Zl prog f):FnR prog J 47 Os [.rd (ZfP xs),.fn f caps] (.int (Yp p xs)):=by
 refine Yo (N:=19) Tryz.func47 rfl rfl (lb rfl) fun S w0 hS hJ0 hH=>?_
 clear hJ0
 refine ln 0 fun hl1=>?_
 refine qs tb hJ [0,1] [_] [_,_] ?_
 refine Zf (hqs tb hJ [0,1,1001,1002] [_,.int (xs.length:Nat),_] [1] U4 rfl ⟨Z2 Xv,trivial⟩ ?_)
 refine Zc (lp (ι:=Nat) (fun k=>(k≤xs.length)∧(∀ j,j<k→p (ge xs j)=false)) (fun k=>[(8,.int (k:Nat))]) (fun k=>xs.length-k) [0,1,2,3] U3 0 ⟨Nat.zero_le _,fun j hj=>by omega⟩ ?_)
 rintro k ⟨f1_1,f1_2⟩
 refine qs tb hJ [0,1,2,3,1000] [_] U5 ?_
 refine cjS 4 (fun hb1=>?_) fun hb1=>?_
 try simp at hb1
 refine Zb (nx (Zf (Zc (qs tb hJ [0,1,2,3,1001] [_,_] U5 ?_))))
 refine hqs tb hJ (r5 [1005]) [_,_,_,.ptr (frC (ge xs k)),_,.bool (p (ge xs k))] [3,5] U6 rfl ⟨iIx ZS,fun _ _ hk hx hl _=>ZdU (hf (ge xs k)) hk0 rfl (hl.D 0 11 rfl rfl) (nm hS hk) (hx) (fun _ ho=>Xl hH hk ho) (Za (hl.D 4 15 rfl rfl) Zh) (js hJ hx),trivial⟩ ?_
 refine cj 5 (fun hb2=>?_) fun hb2=>?_
 try simp at hb2
 refine qs tb hJ [1001] [_,_] [_] ?_
 exact Ze (rtn (m:=0) rfl rfl (eI (by first | exact(Xf hb1 hb2 f1_2).symm | exact(YT fun j hj=>f1_2 j (by omega)).symm)))
 try simp at hb2
 refine Zb (nx (hqp tb hJ [0,1,2,1001] [.int (k+1:Nat),_] [0] U4 rfl ⟨Ya,trivial⟩ ?_))
 exact lpE (k+1) [0,1,2,3] ⟨by omega,ZK f1_2 hb2⟩
 try simp at hb1
 refine Zt (nx (qs tb hJ [1000] [_] [_] ?_))
 exact Ze (rtn (m:=0) rfl rfl (eI (by first | exact(Xf hb1 hb2 f1_2).symm | exact(YT fun j hj=>f1_2 j (by omega)).symm)))
theorem Zex {J:World→Prop} (hJ:Stab J) (xs:List Fr) (f:FuncId) (caps:List AV) (Os:List OB) (p:Fr→Bool) (hf:∀ q',FnR prog J f Os ([.agg (frC (q'))]++caps) (.bool (p q'))) (hk0:Zl prog f):FnR prog J 26 Os [.rd (ZfP xs),.fn f caps] (.bool (xs.any p)):=by
 refine Yo (N:=9) Tryz.func26 rfl rfl (lb rfl) fun S w0 hS hJ0 hH=>?_
 clear hJ0
 refine ln 0 fun hl1=>?_
 refine qs tb hJ [0,1] [_] [_,_] ?_
 refine hqs tb hJ [1004] [_,_,.int (Yp p xs),_,_] [2] [_] rfl ⟨fun _ _ hk hx hl _=>Xq (ZhO hJ xs f caps Os p (hf) (hk0)) ZvV rfl (nm hS hk) (hx) (fun _ ho=>Xl hH hk ho) (Za (hl.D 0 5 rfl rfl) (Za (hl.D 1 6 rfl rfl) Zh)) (js hJ hx),trivial⟩ ?_
 exact Ze (rtn (m:=0) rfl rfl (eB (by rw[←Zb6])))
theorem Zkp {J:World→Prop} (hJ:Stab J) (xs:List BA) (ys:List BA)  :Fn prog J 24 [.rd (Zg xs),.rd (Zg ys)] (.bool (decide (xs=ys))):=by
 refine Zo (N:=26) Tryz.func24 rfl rfl (lb rfl) fun S w0 hS hJ0=>?_
 clear hJ0
 refine ln 0 fun hl1=>?_
 refine ln 1 fun hl2=>?_
 refine qs tb hJ [0,1] [_] [_,_] ?_
 refine Zf (hqs tb hJ [0,1,1004] [_,.int (xs.length:Nat),_,.int (ys.length:Nat),_] [1,3] U3 rfl ⟨Z2 Zm,Z2 Zm,trivial⟩ ?_)
 refine cj 2 (fun hb1=>?_) fun hb1=>?_
 try simp at hb1
 refine qs tb hJ [1000] [_] [_] ?_
 exact Ze (rtn (m:=0) rfl rfl (eB (by first | (have:=Za3 (xs:=xs) (ys:=ys) (by omega) (fun j hj=>f1_2 j (by omega));simp[this];done) | (symm;rw[decide_eq_false_iff_not];intro e;subst e;simp_all;done))))
 try simp at hb1
 refine Zb (nx (Zf (hqs tb hJ [0,1,1001,1002] [_,.int (xs.length:Nat),_] [1] U4 rfl ⟨Z2 Zm,trivial⟩ ?_)))
 refine Zc (lp (ι:=Nat) (fun k=>(k≤xs.length)∧(∀ j,j<k→ge xs j=ge ys j)) (fun k=>[(13,.int (k:Nat))]) (fun k=>xs.length-k) [0,1,2,3] U3 0 ⟨Nat.zero_le _,fun j hj=>by omega⟩ ?_)
 rintro k ⟨f1_1,f1_2⟩
 refine qs tb hJ [0,1,2,3,1000] [_] U5 ?_
 refine cjS 4 (fun hb2=>?_) fun hb2=>?_
 try simp at hb2
 refine Zb (nx (Zf (Zc (qs tb hJ [0,1,2,3,1001] [_,_] U5 ?_))))
 refine hqs tb hJ [0,1,2,3,1008] [_,_,.ptr [lS (ge xs k)],_,_,_,.ptr [lS (ge ys k)],_,_] [2,6] U5 rfl ⟨iIx Zd,iIx Zd,trivial⟩ ?_
 refine cj 4 (fun hb3=>?_) fun hb3=>?_
 try simp at hb3
 refine qs tb hJ [1000] [_] [_] ?_
 exact Ze (rtn (m:=0) rfl rfl (eB (by first | (have:=Za3 (xs:=xs) (ys:=ys) (by omega) (fun j hj=>f1_2 j (by omega));simp[this];done) | (symm;rw[decide_eq_false_iff_not];intro e;subst e;simp_all;done))))
 try simp at hb3
 refine Zb (nx (hqp tb hJ [0,1,2,1001] [.int (k+1:Nat),_] [0] U4 rfl ⟨Ya,trivial⟩ ?_))
 exact lpE (k+1) [0,1,2,3] ⟨by omega,ZK f1_2 hb3⟩
 try simp at hb2
 refine Zt (nx (qs tb hJ [1000] [_] [_] ?_))
 exact Ze (rtn (m:=0) rfl rfl (eB (by first | (have:=Za3 (xs:=xs) (ys:=ys) (by omega) (fun j hj=>f1_2 j (by omega));simp[this];done) | (symm;rw[decide_eq_false_iff_not];intro e;subst e;simp_all;done))))
theorem Zkq {J:World→Prop} (hJ:Stab J) (xs:List BA) (b:xs.length*16≤140737488351232):FnM (ι:=Value) prog J 42 [] [.rd (Zg xs)] [] (fun i'=>.lit (i')) (fun i'=>[OB.row i' 9 1 (xs.map Zad)]):=by
 refine Yt (N:=8) Tryz.func42 rfl rfl (lb rfl) fun S w0 R hS hJ0 hH=>?_
 refine YA (B:=So J S w0 8 (R) [(0,.rd (Zg xs))]) ?_ fun a w h=>h
 refine ln 0 fun hl1=>?_
 refine qso tb hJ [0] [_] [_] ?_
 refine Zf (tsq ?_)
 refine snK 1 tb rfl ?_
 refine Zgo (f:=Zad) (xs:=xs) Zm rfl rfl rfl (lb rfl) (fun a w h=>(h.get 0 rfl)) fun g1 hg1=>?_
 refine seK [0,2] [_,_] rfl ?_
 refine nx (cj 0 (fun hb1=>?_) fun hb1=>?_)
 try simp at hb1
 refine qso tb hJ [1000] [_] [_] ?_
 refine tw (YV 9 1 hJ) ?_
 refine tw (ob0 (congrArg (fun z'=>OB.row (.slice none 0 0) 9 1 ((z').map Zad)) (show([]:List BA)=xs from by first | exact(hg1 (by assumption)).symm | simp))) ?_
 exact Ze (fun a w h=>Ye  (m:=0) (.slice none 0 0) rfl h rfl rfl)
 try simp at hb1
 refine Zb (nx (Zf (fun a w h=>Zbd (id:=3) (t:=22) (e:=9) (size:=1) (bytes:=16) (i0:=0) (fol:=3) (d:=2) (ch:=[(2,(xs.map Zad))]) (fun ix'=>([.any,.rd (Zg xs),.any,.any]:List AV).getD ix' .any) (fun _=>true) [] (xs.map Zad) (by simp) ?r3_1 hJ hJ0 h YC rfl rfl rfl rfl ⟨?_,⟨?_,⟨?_,⟨?_,trivial⟩⟩⟩⟩ trivial (fun v2=>?n3_1))))
 case r3_1=>
  refine Row.mk' Xh ⟨_,rfl,rfl,rfl,rfl,rfl⟩ ⟨?x3_1_0,trivial⟩ ⟨_,_,_,_,rfl,rfl,rfl,rfl,rfl,rfl,rfl,rfl,rfl⟩ rfl rfl rfl
  case x3_1_0=>exact⟨_,_,_,_,rfl,rfl,rfl,rfl,rfl,rfl,rfl,rfl,XA (f:=Zad) (fun _=>rfl),(by have hm:maxLen=9223372036854775807:=rfl;simp[upto];first | omega | (simp;omega)),(by have hm:maxLen=9223372036854775807:=rfl;simp[upto];first | omega | (simp;omega)),fun _ _ _ _ _ hl=>(hl.D 1 6 rfl rfl)⟩
 exact fun h=>Zn rfl h
 exact fun _ _=>⟨rfl,fun _ _ _ hx hl _=>Z5 rfl (hl.env 1 0 _ rfl rfl) hx⟩
 exact fun h=>Zn rfl h
 exact fun h=>Zn rfl h
 clear a w h
 exact nx (Ze (fun a w h=>Ye  (m:=0) v2 rfl h rfl rfl))
theorem Zq3 {J:World→Prop} (hJ:Stab J) (xs:List Hy) (b:xs.length*48≤140737488351232):FnM (ι:=Value) prog J 61 [] [.rd (Xm xs)] [] (fun i'=>.lit (i')) (fun i'=>[OB.row i' 61 3 (xs.map hyC)]):=by
 refine Yt (N:=8) Tryz.func61 rfl rfl (lb rfl) fun S w0 R hS hJ0 hH=>?_
 refine YA (B:=So J S w0 8 (R) [(0,.rd (Xm xs))]) ?_ fun a w h=>h
 refine ln 0 fun hl1=>?_
 refine qso tb hJ [0] [_] [_] ?_
 refine Zf (tsq ?_)
 refine snK 1 tb rfl ?_
 refine Zgo (f:=hyC) (xs:=xs) Zx rfl rfl rfl (lb rfl) (fun a w h=>(h.get 0 rfl)) fun g1 hg1=>?_
 refine seK [0,2] [_,_] rfl ?_
 refine nx (cj 0 (fun hb1=>?_) fun hb1=>?_)
 try simp at hb1
 refine qso tb hJ [1000] [_] [_] ?_
 refine tw (YV 61 3 hJ) ?_
 refine tw (ob0 (congrArg (fun z'=>OB.row (.slice none 0 0) 61 3 ((z').map hyC)) (show([]:List Hy)=xs from by first | exact(hg1 (by assumption)).symm | simp))) ?_
 exact Ze (fun a w h=>Ye  (m:=0) (.slice none 0 0) rfl h rfl rfl)
 try simp at hb1
 refine Zb (nx (Zf (fun a w h=>Zbd (id:=3) (t:=56) (e:=61) (size:=3) (bytes:=48) (i0:=0) (fol:=3) (d:=2) (ch:=[(2,(xs.map hyC))]) (fun ix'=>([.any,.rd (Xm xs),.any,.any]:List AV).getD ix' .any) (fun _=>true) [] (xs.map hyC) (by simp) ?r3_1 hJ hJ0 h YC rfl rfl rfl rfl ⟨?_,⟨?_,⟨?_,⟨?_,trivial⟩⟩⟩⟩ trivial (fun v2=>?n3_1))))
 case r3_1=>
  refine Row.mk' QY ⟨_,rfl,rfl,rfl,rfl,rfl⟩ ⟨?x3_1_0,trivial⟩ ⟨_,_,_,_,rfl,rfl,rfl,rfl,rfl,rfl,rfl,rfl,rfl⟩ rfl rfl rfl
  case x3_1_0=>exact⟨_,_,_,_,rfl,rfl,rfl,rfl,rfl,rfl,rfl,rfl,XA (f:=hyC) (fun _=>rfl),(by have hm:maxLen=9223372036854775807:=rfl;simp[upto];first | omega | (simp;omega)),(by have hm:maxLen=9223372036854775807:=rfl;simp[upto];first | omega | (simp;omega)),fun _ _ _ _ _ hl=>(hl.D 1 6 rfl rfl)⟩
 exact fun h=>Zn rfl h
 exact fun _ _=>⟨rfl,fun _ _ _ hx hl _=>Z5 rfl (hl.env 1 0 _ rfl rfl) hx⟩
 exact fun h=>Zn rfl h
 exact fun h=>Zn rfl h
 clear a w h
 exact nx (Ze (fun a w h=>Ye  (m:=0) v2 rfl h rfl rfl))
theorem Zq2 {J:World→Prop} (hJ:Stab J) (xs:List Pr) (b:xs.length*32≤140737488351232):FnM (ι:=Value) prog J 62 [] [.rd (Xc xs)] [] (fun i'=>.lit (i')) (fun i'=>[OB.row i' 104 2 (xs.map prC)]):=by
 refine Yt (N:=8) Tryz.func62 rfl rfl (lb rfl) fun S w0 R hS hJ0 hH=>?_
 refine YA (B:=So J S w0 8 (R) [(0,.rd (Xc xs))]) ?_ fun a w h=>h
 refine ln 0 fun hl1=>?_
 refine qso tb hJ [0] [_] [_] ?_
 refine Zf (tsq ?_)
 refine snK 1 tb rfl ?_
 refine Zgo (f:=prC) (xs:=xs) ZL rfl rfl rfl (lb rfl) (fun a w h=>(h.get 0 rfl)) fun g1 hg1=>?_
 refine seK [0,2] [_,_] rfl ?_
 refine nx (cj 0 (fun hb1=>?_) fun hb1=>?_)
 try simp at hb1
 refine qso tb hJ [1000] [_] [_] ?_
 refine tw (YV 104 2 hJ) ?_
 refine tw (ob0 (congrArg (fun z'=>OB.row (.slice none 0 0) 104 2 ((z').map prC)) (show([]:List Pr)=xs from by first | exact(hg1 (by assumption)).symm | simp))) ?_
 exact Ze (fun a w h=>Ye  (m:=0) (.slice none 0 0) rfl h rfl rfl)
 try simp at hb1
 refine Zb (nx (Zf (fun a w h=>Zbd (id:=3) (t:=57) (e:=104) (size:=2) (bytes:=32) (i0:=0) (fol:=3) (d:=2) (ch:=[(2,(xs.map prC))]) (fun ix'=>([.any,.rd (Xc xs),.any,.any]:List AV).getD ix' .any) (fun _=>true) [] (xs.map prC) (by simp) ?r3_1 hJ hJ0 h YC rfl rfl rfl rfl ⟨?_,⟨?_,⟨?_,⟨?_,trivial⟩⟩⟩⟩ trivial (fun v2=>?n3_1))))
 case r3_1=>
  refine Row.mk' Zcb ⟨_,rfl,rfl,rfl,rfl,rfl⟩ ⟨?x3_1_0,trivial⟩ ⟨_,_,_,_,rfl,rfl,rfl,rfl,rfl,rfl,rfl,rfl,rfl⟩ rfl rfl rfl
  case x3_1_0=>exact⟨_,_,_,_,rfl,rfl,rfl,rfl,rfl,rfl,rfl,rfl,XA (f:=prC) (fun _=>rfl),(by have hm:maxLen=9223372036854775807:=rfl;simp[upto];first | omega | (simp;omega)),(by have hm:maxLen=9223372036854775807:=rfl;simp[upto];first | omega | (simp;omega)),fun _ _ _ _ _ hl=>(hl.D 1 6 rfl rfl)⟩
 exact fun h=>Zn rfl h
 exact fun _ _=>⟨rfl,fun _ _ _ hx hl _=>Z5 rfl (hl.env 1 0 _ rfl rfl) hx⟩
 exact fun h=>Zn rfl h
 exact fun h=>Zn rfl h
 clear a w h
 exact nx (Ze (fun a w h=>Ye  (m:=0) v2 rfl h rfl rfl))
theorem ZgA {J:World→Prop} (hJ:Stab J) (v:Value) (xs:List Hy) (f:FuncId) (caps:List AV) (Os:List OB) (Hs:List OB) (p:Hy→Bool) (hf:∀ q',FnR prog J f (Os++Hs) ([.agg (hyC (q'))]++caps) (.bool (p q'))) (hk0:Zl prog f) (hn:xs.length≤9223372036854775807):FnM (ι:=Unit) prog J 87 Hs [.lit v,.fn f caps] (OB.row v 61 3 (xs.map hyC)::Os) (fun _=>.rd (Xm (xs.filter fun x'=>!p x'))) (fun _=>(Os)):=by
 refine Yt (N:=42) Tryz.func87 rfl rfl (lb rfl) fun S w0 R hS hJ0 hH=>?_
 refine YA (B:=So J S w0 42 (OB.row v 61 3 (xs.map hyC)::(Os++R)) [(0,.lit v),(1,.fn f caps)]) ?_ fun a w h=>h
 refine qso tb hJ [0,1] [_] [_,_] ?_
 refine ZoI tb hJ [0,1,1003] [_,_,.int (Yp p xs),_] [2] U3 rfl ⟨fun _ _ hk hx hl _=>Xq (ZdJ hJ xs f caps (Os++Hs) p (hf) (hk0)) Zpp rfl (nm hS hk) (hx.1) (ZgK (fun _ ho=>Zd6 hx (List.mem_cons_of_mem _ (List.mem_append_left _ ho))) (fun _ ho=>ZkG hH hk hx ho)) (Za (Qn hS hx (mo 0 rfl) (hl.D 0 8 rfl rfl)) (Za (hl.D 1 9 rfl rfl) Zh)) (jo hJ hx),trivial⟩ ?_
 refine Zf (qso tb hJ [0,1,2,1001] [_,_] U4 ?_)
 refine cj 3 (fun hb1=>?_) fun hb1=>?_
 have e1:=of_decide_eq_true hb1
 refine qso tb hJ [1001] [_,_] [_] ?_
 refine tw (fun h=>ZN hS h (m:=0) (s:=4) rfl) ?_
 exact Ze (fun a w h=>Ye  (m:=0) () rfl h rfl (congrArg (fun z=>AV.rd (Xm z)) (show xs=(xs.filter fun x'=>!p x')from by first | exact DelF.none e1 | exact f1_1.fin (by have:=f1_1.len;omega))))
 have e1:=of_decide_eq_false hb1
 refine Zb (nx (Zf (tw (sa 2 rfl (congrArg AV.int (show Yp p xs=(((Yp p xs).toNat:Nat):Int)from by have:=Zas e1;omega))) ?_)))
 refine ZG tb hJ [0,1,2,1002] [_,.int ((Yp p xs).toNat+1:Nat),_] [1] U4 rfl ⟨Ya (h0:=by have:=(Zas e1).2.1;omega),trivial⟩ ?_
 refine Zc (lpo (ι:=Nat×Nat×(List Hy)×Value) (fun(i,j,ys,_)=>(DelF p xs ys i j)) (fun(_,_,ys,vo)=>(OB.row vo 61 3 (ys.map hyC)::(Os++R))) (fun(i,j,_,vo)=>[(5,.int (i:Nat)),(6,.int (j:Nat)),(0,.lit vo)]) (fun(_,j,_,_)=>xs.length-j) [1,2,3,0] [_] ((Yp p xs).toNat,(Yp p xs).toNat+1,xs,v) (show(DelF p xs xs ((Yp p xs).toNat) ((Yp p xs).toNat+1))from DelF.init e1) ?_)
 rintro⟨i,j,ys,vo⟩ hF
 have f1_1:DelF p xs ys i j:=hF
 refine Zf (ZoI tb hJ [0,1,2,3,1003] [_,_,.int (ys.length:Nat),_] [2] U5 rfl ⟨fun _ _ _ hx hl _=>ZaD Zx rfl (Qn hS hx (mo 0 rfl) (hl.D 1 17 rfl rfl)) hx,trivial⟩ ?_)
 refine cj 4 (fun hb2=>?_) fun hb2=>?_
 try simp at hb2
 refine Zb (nx (Zf (Zc (tsq ?_))))
 refine snK 2 tb rfl ?_
 refine sy (.lit (XG vo (j*3))) (fun h=>Y6 (i:=(j:Int)) Zq rfl (Zi h.x (mo 0 rfl)) (h.get 1 rfl) (h.get 0 rfl) (Int.natCast_nonneg _) (by rw[List.length_map];exact Int.ofNat_lt.2 (by omega)) h.x) ?_
 refine sy (.agg (hyC (ge ys j))) (fun h=>QA (i:=j) XU rfl (Zi h.x (mo 0 rfl)) (h.get 0 rfl) (Q4 (xs:=ys) (k:=j) (by omega)) rfl h.x) ?_
 refine XZ (cs:=hyC (ge ys j)) ZbX rfl rfl rfl (lb rfl) rfl rfl rfl (by decide) (m:=0) rfl rfl (fun a w h=>Zp hS _ h.keep h.x _ (Nat.le_refl _)) (fun a w h w' hk'=>Yz hJ _ _ hk' h.x) ?_
 refine seK [0,5,6,7,8] U5 rfl ?_
 refine nx (ZG tb hJ (r5 [1003]) [_,_,.bool (p (ge ys j)),_] [2] U6 rfl ⟨fun _ _ hk hx hl _=>ZdU (hf (ge ys j)) hk0 rfl (hl.D 0 26 rfl rfl) (Zp hS _ hk hx) (hx.1) (ZgK (fun _ ho=>Zi hx (List.mem_cons_of_mem _ (List.mem_append_left _ ho))) (fun _ ho=>Yr hH hk hx ho)) (Za (hl.D 1 27 rfl rfl) Zh) (jo hJ hx),trivial⟩ ?_)
 refine cj 5 (fun hb3=>?_) fun hb3=>?_
 try simp at hb3
 refine tsq ?_
 refine snK 3 tb rfl ?_
 refine sy (.lit (XG vo (i*3))) (fun h=>Y6 (i:=(i:Int)) Zq rfl (Zi h.x (mo 0 rfl)) (h.get 2 rfl) (h.get 1 rfl) (Int.natCast_nonneg _) (by rw[List.length_map];exact Int.ofNat_lt.2 (by have:=f1_1.le;omega)) h.x) ?_
 refine Zaz (i:=i) hJ hJ0 YL rfl rfl rfl (by rw[List.length_map];exact(by have:=f1_1.le;omega)) rfl (fun a w h=>⟨(h.get 0 rfl),(h.get 1 rfl)⟩) ?_
 rw[show(ys.map hyC).set i (hyC (ge ys j))=(ys.set i (ge ys j)).map hyC from List.map_set.symm]
 refine seK [5,6,7,8] U4 rfl ?_
 refine nx (Yu tb hJ [0,2,3,1002] [_,.int (i+1:Nat),_] [1] U4 rfl ⟨Ya (h0:=by have:=f1_1.le;have:=f1_1.len;omega),trivial⟩ ?_)
 refine nx (Yu tb hJ [0,2,3,1002] [_,.int (j+1:Nat),_] [1] U4 rfl ⟨Ya (h0:=by have:=f1_1.lt;have:=f1_1.len;omega),trivial⟩ ?_)
 exact YH (i+1,j+1,ys.set i (ge ys j),vo) [0,2,3,1] (show(DelF p xs (ys.set i (ge ys j)) (i+1) (j+1))from f1_1.keep (by have:=f1_1.len;omega) (by simpa using hb3)) (hm:=(show xs.length-(j+1)<xs.length-j from by have:=f1_1.lt;have:=f1_1.len;omega))
 try simp at hb3
 refine Zb (nx (Yu tb hJ [1,2,4,1002] [_,.int (j+1:Nat),_] [1] U4 rfl ⟨Ya (h0:=by have:=f1_1.lt;have:=f1_1.len;omega),trivial⟩ ?_))
 exact YH (i,j+1,ys,vo) [0,1,3,2] (show(DelF p xs ys i (j+1))from f1_1.skip (by have:=f1_1.len;omega) (by simpa using hb3)) (hm:=(show xs.length-(j+1)<xs.length-j from by have:=f1_1.lt;have:=f1_1.len;omega))
 try simp at hb2
 refine Zt (nx (tsq ?_))
 refine snK 2 tb rfl ?_
 refine sy (.lit (ZfB vo i 3)) (fun h=>Zhx (lo:=i) Zq rfl (Zi h.x (mo 0 rfl)) (h.get 1 rfl) (h.get 0 rfl) (by rw[List.length_map];exact(by have:=f1_1.le;have:=f1_1.lt;have:=f1_1.len;omega)) h.x) ?_
 refine Zgp (lo:=i) Zlg Zx (by decide) hJ hJ0 rfl rfl rfl (by rw[List.length_map];exact(by have:=f1_1.le;have:=f1_1.lt;have:=f1_1.len;omega)) (fun a w h=>(h.get 0 rfl)) ?_
 rw[←List.map_take]
 refine seK [4,6] [_,_] rfl ?_
 refine nx (ZG tb hJ [1003] [_,_,.lit (Zcn vo i),_] [2] [_] rfl ⟨fun _ _ _ hx hl _=>Zhz (m:=i) Zq rfl (Zi hx (mo 0 rfl)) (by first | rfl | (rw[List.length_map];exact(by have:=f1_1.le;have:=f1_1.lt;have:=f1_1.len;simp;omega))) (hl.D 0 39 rfl rfl) (hl.D 1 40 rfl rfl) hx,trivial⟩ ?_)
 refine tw (fun h=>ZN hS h (m:=0) (s:=4) rfl) ?_
 exact Ze (fun a w h=>Ye  (m:=0) () rfl h rfl (congrArg (fun z=>AV.rd (Xm z)) (show(ys.take i)=(xs.filter fun x'=>!p x')from by first | exact DelF.none e1 | exact f1_1.fin (by have:=f1_1.len;omega))))
theorem Zgz {J:World→Prop} (hJ:Stab J) (v:Value) (xs:List Pr) (f:FuncId) (caps:List AV) (Os:List OB) (Hs:List OB) (p:Pr→Bool) (hf:∀ q',FnR prog J f (Os++Hs) ([.agg (prC (q'))]++caps) (.bool (p q'))) (hk0:Zl prog f) (hn:xs.length≤9223372036854775807):FnM (ι:=Unit) prog J 156 Hs [.lit v,.fn f caps] (OB.row v 104 2 (xs.map prC)::Os) (fun _=>.rd (Xc (xs.filter fun x'=>!p x'))) (fun _=>(Os)):=by
 refine Yt (N:=42) Tryz.func156 rfl rfl (lb rfl) fun S w0 R hS hJ0 hH=>?_
 refine YA (B:=So J S w0 42 (OB.row v 104 2 (xs.map prC)::(Os++R)) [(0,.lit v),(1,.fn f caps)]) ?_ fun a w h=>h
 refine qso tb hJ [0,1] [_] [_,_] ?_
 refine ZoI tb hJ [0,1,1003] [_,_,.int (Yp p xs),_] [2] U3 rfl ⟨fun _ _ hk hx hl _=>Xq (ZhN hJ xs f caps (Os++Hs) p (hf) (hk0)) ZrR rfl (nm hS hk) (hx.1) (ZgK (fun _ ho=>Zd6 hx (List.mem_cons_of_mem _ (List.mem_append_left _ ho))) (fun _ ho=>ZkG hH hk hx ho)) (Za (Qn hS hx (mo 0 rfl) (hl.D 0 8 rfl rfl)) (Za (hl.D 1 9 rfl rfl) Zh)) (jo hJ hx),trivial⟩ ?_
 refine Zf (qso tb hJ [0,1,2,1001] [_,_] U4 ?_)
 refine cj 3 (fun hb1=>?_) fun hb1=>?_
 have e1:=of_decide_eq_true hb1
 refine qso tb hJ [1001] [_,_] [_] ?_
 refine tw (fun h=>ZN hS h (m:=0) (s:=4) rfl) ?_
 exact Ze (fun a w h=>Ye  (m:=0) () rfl h rfl (congrArg (fun z=>AV.rd (Xc z)) (show xs=(xs.filter fun x'=>!p x')from by first | exact DelF.none e1 | exact f1_1.fin (by have:=f1_1.len;omega))))
 have e1:=of_decide_eq_false hb1
 refine Zb (nx (Zf (tw (sa 2 rfl (congrArg AV.int (show Yp p xs=(((Yp p xs).toNat:Nat):Int)from by have:=Zas e1;omega))) ?_)))
 refine ZG tb hJ [0,1,2,1002] [_,.int ((Yp p xs).toNat+1:Nat),_] [1] U4 rfl ⟨Ya (h0:=by have:=(Zas e1).2.1;omega),trivial⟩ ?_
 refine Zc (lpo (ι:=Nat×Nat×(List Pr)×Value) (fun(i,j,ys,_)=>(DelF p xs ys i j)) (fun(_,_,ys,vo)=>(OB.row vo 104 2 (ys.map prC)::(Os++R))) (fun(i,j,_,vo)=>[(5,.int (i:Nat)),(6,.int (j:Nat)),(0,.lit vo)]) (fun(_,j,_,_)=>xs.length-j) [1,2,3,0] [_] ((Yp p xs).toNat,(Yp p xs).toNat+1,xs,v) (show(DelF p xs xs ((Yp p xs).toNat) ((Yp p xs).toNat+1))from DelF.init e1) ?_)
 rintro⟨i,j,ys,vo⟩ hF
 have f1_1:DelF p xs ys i j:=hF
 refine Zf (ZoI tb hJ [0,1,2,3,1003] [_,_,.int (ys.length:Nat),_] [2] U5 rfl ⟨fun _ _ _ hx hl _=>ZaD ZL rfl (Qn hS hx (mo 0 rfl) (hl.D 1 17 rfl rfl)) hx,trivial⟩ ?_)
 refine cj 4 (fun hb2=>?_) fun hb2=>?_
 try simp at hb2
 refine Zb (nx (Zf (Zc (tsq ?_))))
 refine snK 2 tb rfl ?_
 refine sy (.lit (XG vo (j*2))) (fun h=>Y6 (i:=(j:Int)) Zu rfl (Zi h.x (mo 0 rfl)) (h.get 1 rfl) (h.get 0 rfl) (Int.natCast_nonneg _) (by rw[List.length_map];exact Int.ofNat_lt.2 (by omega)) h.x) ?_
 refine sy (.agg (prC (ge ys j))) (fun h=>QA (i:=j) YN rfl (Zi h.x (mo 0 rfl)) (h.get 0 rfl) (Q4 (xs:=ys) (k:=j) (by omega)) rfl h.x) ?_
 refine XZ (cs:=prC (ge ys j)) ZcA rfl rfl rfl (lb rfl) rfl rfl rfl (by decide) (m:=0) rfl rfl (fun a w h=>Zp hS _ h.keep h.x _ (Nat.le_refl _)) (fun a w h w' hk'=>Yz hJ _ _ hk' h.x) ?_
 refine seK [0,5,6,7,8] U5 rfl ?_
 refine nx (ZG tb hJ (r5 [1003]) [_,_,.bool (p (ge ys j)),_] [2] U6 rfl ⟨fun _ _ hk hx hl _=>ZdU (hf (ge ys j)) hk0 rfl (hl.D 0 26 rfl rfl) (Zp hS _ hk hx) (hx.1) (ZgK (fun _ ho=>Zi hx (List.mem_cons_of_mem _ (List.mem_append_left _ ho))) (fun _ ho=>Yr hH hk hx ho)) (Za (hl.D 1 27 rfl rfl) Zh) (jo hJ hx),trivial⟩ ?_)
 refine cj 5 (fun hb3=>?_) fun hb3=>?_
 try simp at hb3
 refine tsq ?_
 refine snK 3 tb rfl ?_
 refine sy (.lit (XG vo (i*2))) (fun h=>Y6 (i:=(i:Int)) Zu rfl (Zi h.x (mo 0 rfl)) (h.get 2 rfl) (h.get 1 rfl) (Int.natCast_nonneg _) (by rw[List.length_map];exact Int.ofNat_lt.2 (by have:=f1_1.le;omega)) h.x) ?_
 refine Zaz (i:=i) hJ hJ0 YK rfl rfl rfl (by rw[List.length_map];exact(by have:=f1_1.le;omega)) rfl (fun a w h=>⟨(h.get 0 rfl),(h.get 1 rfl)⟩) ?_
 rw[show(ys.map prC).set i (prC (ge ys j))=(ys.set i (ge ys j)).map prC from List.map_set.symm]
 refine seK [5,6,7,8] U4 rfl ?_
 refine nx (Yu tb hJ [0,2,3,1002] [_,.int (i+1:Nat),_] [1] U4 rfl ⟨Ya (h0:=by have:=f1_1.le;have:=f1_1.len;omega),trivial⟩ ?_)
 refine nx (Yu tb hJ [0,2,3,1002] [_,.int (j+1:Nat),_] [1] U4 rfl ⟨Ya (h0:=by have:=f1_1.lt;have:=f1_1.len;omega),trivial⟩ ?_)
 exact YH (i+1,j+1,ys.set i (ge ys j),vo) [0,2,3,1] (show(DelF p xs (ys.set i (ge ys j)) (i+1) (j+1))from f1_1.keep (by have:=f1_1.len;omega) (by simpa using hb3)) (hm:=(show xs.length-(j+1)<xs.length-j from by have:=f1_1.lt;have:=f1_1.len;omega))
 try simp at hb3
 refine Zb (nx (Yu tb hJ [1,2,4,1002] [_,.int (j+1:Nat),_] [1] U4 rfl ⟨Ya (h0:=by have:=f1_1.lt;have:=f1_1.len;omega),trivial⟩ ?_))
 exact YH (i,j+1,ys,vo) [0,1,3,2] (show(DelF p xs ys i (j+1))from f1_1.skip (by have:=f1_1.len;omega) (by simpa using hb3)) (hm:=(show xs.length-(j+1)<xs.length-j from by have:=f1_1.lt;have:=f1_1.len;omega))
 try simp at hb2
 refine Zt (nx (tsq ?_))
 refine snK 2 tb rfl ?_
 refine sy (.lit (ZfB vo i 2)) (fun h=>Zhx (lo:=i) Zu rfl (Zi h.x (mo 0 rfl)) (h.get 1 rfl) (h.get 0 rfl) (by rw[List.length_map];exact(by have:=f1_1.le;have:=f1_1.lt;have:=f1_1.len;omega)) h.x) ?_
 refine Zgp (lo:=i) Zeg ZL (by decide) hJ hJ0 rfl rfl rfl (by rw[List.length_map];exact(by have:=f1_1.le;have:=f1_1.lt;have:=f1_1.len;omega)) (fun a w h=>(h.get 0 rfl)) ?_
 rw[←List.map_take]
 refine seK [4,6] [_,_] rfl ?_
 refine nx (ZG tb hJ [1003] [_,_,.lit (Zcn vo i),_] [2] [_] rfl ⟨fun _ _ _ hx hl _=>Zhz (m:=i) Zu rfl (Zi hx (mo 0 rfl)) (by first | rfl | (rw[List.length_map];exact(by have:=f1_1.le;have:=f1_1.lt;have:=f1_1.len;simp;omega))) (hl.D 0 39 rfl rfl) (hl.D 1 40 rfl rfl) hx,trivial⟩ ?_)
 refine tw (fun h=>ZN hS h (m:=0) (s:=4) rfl) ?_
 exact Ze (fun a w h=>Ye  (m:=0) () rfl h rfl (congrArg (fun z=>AV.rd (Xc z)) (show(ys.take i)=(xs.filter fun x'=>!p x')from by first | exact DelF.none e1 | exact f1_1.fin (by have:=f1_1.len;omega))))
end Go.Proofs.YtneapgbkkkjagaaGreatDoor
