/-
  FACTS of the program's types and functions.
  CONTRACTS: small functions of the references that only read.
  CONTRACTS of the program: look-ups, functions that take functions.
  CONTRACTS of the library: slices' functions.
  CONTRACTS of the library: slices.DeleteFunc.
-/
import Derived.Test.YtdgbcfloaenhbaaGreatDoorXR
import Derived.Laws.StructEq
set_option maxHeartbeats 8000000
set_option maxRecDepth 100000
namespace Go.Proofs.YtdgbcfloaenhbaaGreatDoor
open Go.RowKit
theorem Yl:Tryz.prog.follows .mixedOrders=true:=by kernel_rfl
theorem ZkY:(Tryz.prog.fieldsOf 143).toList=[{ name:= "A",type:=9,offset:=0,embedded:=false,tag:= "",pkgPath:= "",byteOffset:=0 }, { name:= "B",type:=9,offset:=1,embedded:=false,tag:= "",pkgPath:= "",byteOffset:=16 }]:=by kernel_rfl
theorem ZkW:Tryz.prog.underlying 143=some (.struct (Tryz.prog.fieldsOf 143)):=by kernel_rfl
theorem Zph:Tryz.prog.underlying 9=some .string:=by kernel_rfl
theorem ZfB (c:Array Value) (i:Nat) (v:Value) (h:c[i]?=some v) (w:World):(part 9 c i).run Tryz.prog w= .ok v w:=by
 simp[part,Tryz.isAgg9,h]
theorem Zl6:ZmV Tryz.prog 143:=by
 intro a b c d w x y
 refine⟨by simp[eqGuard],by simp[eqGuard],?_⟩
 unfold Op.equal Op.maxDepth
 rw[run_equalIn_struct w 9999 143 _ _ ZkW (by kernel_rfl),ZkY]
 have e1:=fun(c:Array Value) (v:Value) (i:Nat) (h:c[i]?=some v)=>ZfB c i v h
 have q1:=run_equalIn_string (P:=Tryz.prog) w 9998 9 a c Zph
 have q2:=run_equalIn_string (P:=Tryz.prog) w 9998 9 b d Zph
 rw[Q7]at q1 q2
 simp only[Op.eqFields]
 rw[if_pos (by decide),if_pos (by decide)]
 simp only[Sem.run_bind]
 rw[e1 _ (.string a) 0 rfl w,Result.andThen_ok,e1 _ (.string c) 0 rfl w,Result.andThen_ok,q1,Result.andThen_ok]
 by_cases h1:a=c
 · simp only[h1,decide_true,Bool.not_true,Bool.false_eq_true,if_false,Sem.run_bind]
   rw[e1 _ (.string b) 1 rfl w,Result.andThen_ok,e1 _ (.string d) 1 rfl w,Result.andThen_ok,q2,Result.andThen_ok]
   by_cases h2:b=d
   · simp[h2,Sem.run_pure]
   · simp[h2,Sem.run_pure]
 · simp[h1,Sem.run_pure]
theorem Yb:Tryz.prog.underlying 9=some .string:=by kernel_rfl
theorem ZpA:XX Tryz.prog 93:=fun w=>by kernel_rfl
theorem ZR:Zj5 Tryz.prog 93 9 4 keyS.kind:=⟨by kernel_rfl,by kernel_rfl⟩
theorem ZY:ZgN Tryz.prog 4 (.bool false):=⟨(.bool false),fun w=>by kernel_rfl,fun S w=>Rel.of_lit _⟩
theorem ZjK:ZT Tryz.prog 97 1 1:=fun b off w=>by kernel_rfl
theorem ZfZ:XX Tryz.prog 92:=fun w=>by kernel_rfl
theorem Ze8:Zp Tryz.prog 56:=Zt Tryz.func56 rfl rfl
theorem Zx:Tryz.prog.underlying 22=some (.slice 9):=by kernel_rfl
theorem Zi:Yd Tryz.prog 22 9 1:=⟨by kernel_rfl,fun w=>by kernel_rfl⟩
theorem QX:XX Tryz.prog 9:=fun w=>by kernel_rfl
theorem Zsi:Zp Tryz.prog 12:=Zt Tryz.func12 rfl rfl
theorem ZO:Tryz.prog.underlying 67=some (.slice 66):=by kernel_rfl
theorem ZK:Yd Tryz.prog 67 66 3:=⟨by kernel_rfl,fun w=>by kernel_rfl⟩
theorem X7:XN Tryz.prog 66 3:=⟨fun w=>by kernel_rfl,fun w=>by kernel_rfl⟩
theorem Zmt:Zp Tryz.prog 89:=Zt Tryz.func89 rfl rfl
theorem Z6:Tryz.prog.underlying 68=some (.slice 143):=by kernel_rfl
theorem ZC:Yd Tryz.prog 68 143 2:=⟨by kernel_rfl,fun w=>by kernel_rfl⟩
theorem YZ:XN Tryz.prog 143 2:=⟨fun w=>by kernel_rfl,fun w=>by kernel_rfl⟩
theorem XV:Zfr Tryz.prog 22 9 1 16:=ZpY (.string ⟨#[]⟩) (by kernel_rfl) (by kernel_rfl) rfl (by decide) (fun w=>by kernel_rfl)
theorem ZdM:Zfr Tryz.prog 67 66 3 48:=ZpY (.agg #[.string ⟨#[]⟩,.bool false,.slice none 0 0]) (by kernel_rfl) (by kernel_rfl) rfl (by decide) (fun w=>by kernel_rfl)
theorem Zj4:Zfr Tryz.prog 68 143 2 32:=ZpY (.agg #[.string ⟨#[]⟩,.string ⟨#[]⟩]) (by kernel_rfl) (by kernel_rfl) rfl (by decide) (fun w=>by kernel_rfl)
theorem ZaY:Zm3 Tryz.prog 66 3:=⟨(#[.string ⟨#[]⟩,.bool false,.slice none 0 0]),rfl,by kernel_rfl⟩
theorem YO:XG Tryz.prog 66 3:=fun w=>by kernel_rfl
theorem ZiU:Zd2 Tryz.prog 66 3:=⟨(.agg #[.string ⟨#[]⟩,.bool false,.slice none 0 0]),fun w=>by kernel_rfl,rfl,by simp[Value.cells,Value.oneCell']⟩
theorem ZoS:Zp Tryz.prog 113:=Zt Tryz.func113 rfl rfl
theorem Zc2:Zm3 Tryz.prog 143 2:=⟨(#[.string ⟨#[]⟩,.string ⟨#[]⟩]),rfl,by kernel_rfl⟩
theorem Y0:XG Tryz.prog 143 2:=fun w=>by kernel_rfl
theorem ZcY:Zd2 Tryz.prog 143 2:=⟨(.agg #[.string ⟨#[]⟩,.string ⟨#[]⟩]),fun w=>by kernel_rfl,rfl,by simp[Value.cells,Value.oneCell']⟩
theorem Qz:ZT Tryz.prog 143 0 0:=fun b off w=>by kernel_rfl
theorem Zmq:Zp Tryz.prog 99:=Zt Tryz.func99 rfl rfl
theorem Qy:ZT Tryz.prog 143 1 1:=fun b off w=>by kernel_rfl
theorem Za8:ZT Tryz.prog 66 0 0:=fun b off w=>by kernel_rfl
theorem Zf1:XX Tryz.prog 4:=fun w=>by kernel_rfl
theorem undb_4:Tryz.prog.underlying 4=some .bool:=by kernel_rfl
theorem Q4:ZT Tryz.prog 66 2 2:=fun b off w=>by kernel_rfl
theorem YX:XX Tryz.prog 22:=fun w=>by kernel_rfl
theorem Zms:Zp Tryz.prog 9:=Zt Tryz.func9 rfl rfl
theorem Z0:Yd Tryz.prog 104 22 1:=⟨by kernel_rfl,fun w=>by kernel_rfl⟩
theorem ZcX:ZcJ Tryz.prog 22:=⟨.slice none 0 0,fun w=>by kernel_rfl⟩
theorem Zbb:Zfr Tryz.prog 104 22 1 24:=ZpY (.slice none 0 0) (by kernel_rfl) (by kernel_rfl) rfl (by decide) (fun w=>by kernel_rfl)
theorem Zae:Tryz.prog.underlying 104=some (.slice 22):=by kernel_rfl
theorem Zo2:Zp Tryz.prog 102:=Zt Tryz.func102 rfl rfl
theorem Zo3:Zp Tryz.prog 101:=Zt Tryz.func101 rfl rfl
theorem Zo4:Zp Tryz.prog 100:=Zt Tryz.func100 rfl rfl
theorem ZrL:Zp Tryz.prog 70:=Zt Tryz.func70 rfl rfl
theorem Za7:ZT Tryz.prog 70 2 2:=fun b off w=>by kernel_rfl
theorem Zf0:XX Tryz.prog 67:=fun w=>by kernel_rfl
theorem ZrM:Zp Tryz.prog 69:=Zt Tryz.func69 rfl rfl
theorem ZrN:Zp Tryz.prog 68:=Zt Tryz.func68 rfl rfl
theorem Yz:Zfq Tryz.prog 66 [.lit (.string ⟨#[]⟩),.lit (.bool false),.sl []]:=⟨(.agg #[.string ⟨#[]⟩,.bool false,.slice none 0 0]),fun w=>by kernel_rfl,fun S w=>(show RdL S w [.lit (.string ⟨#[]⟩),.lit (.bool false),.sl []] [.string ⟨#[]⟩,.bool false,.slice none 0 0]from⟨.lit _ (Nat.zero_le _),.lit _ True.intro,.nil _ _ (Nat.zero_le _),trivial⟩)⟩
theorem ZmC:Zp Tryz.prog 33:=Zt Tryz.func33 rfl rfl
theorem QV:XG Tryz.prog 22 1:=fun w=>by kernel_rfl
theorem ZrG:Zp Tryz.prog 82:=Zt Tryz.func82 rfl rfl
theorem ZdL:Zp Tryz.prog 4:=Zt Tryz.func4 rfl rfl
theorem ZbB:Zfq Tryz.prog 107 ((List.replicate 256 (0:UInt8)).map u8D):=Znc (.agg (Array.replicate 256 (.int .u8 0))) (fun w=>by kernel_rfl) (by simp[Value.cells])
theorem XH:Tryz.prog.underlying 3=some (.int .i64):=by kernel_rfl
theorem ZaC:Tryz.prog.underlying 5=some (.int .u8):=by kernel_rfl
theorem Xx:ArrT Tryz.prog 107 5 256:=⟨by kernel_rfl,fun w=>by kernel_rfl,by decide⟩
theorem ZcP:XG Tryz.prog 5 1:=fun w=>by kernel_rfl
theorem ZdN:XN Tryz.prog 107 256:=⟨fun w=>by kernel_rfl,fun w=>by kernel_rfl⟩
theorem Zcm:XG Tryz.prog 107 256:=fun w=>by kernel_rfl
theorem Zko:Tryz.prog.underlying 83=some (.slice 5):=by kernel_rfl
theorem Zbv:Yd Tryz.prog 83 5 1:=⟨by kernel_rfl,fun w=>by kernel_rfl⟩
theorem one_5:XX Tryz.prog 5:=fun w=>by kernel_rfl
theorem ZrI:Zp Tryz.prog 77:=Zt Tryz.func77 rfl rfl
theorem ZrW:Zp Tryz.prog 51:=Zt Tryz.func51 rfl rfl
theorem ZrV:Zp Tryz.prog 52:=Zt Tryz.func52 rfl rfl
theorem zero_5:ZcJ Tryz.prog 5:=⟨.int .u8 0,fun w=>by kernel_rfl⟩
theorem ZmA:Zp Tryz.prog 42:=Zt Tryz.func42 rfl rfl
theorem Zkb:Zd2 Tryz.prog 5 1:=⟨(.int .u8 0),fun w=>by kernel_rfl,rfl,by simp[Value.cells,Value.oneCell']⟩
theorem ZiN:Zp Tryz.prog 116:=Zt Tryz.func116 rfl rfl
theorem Zhv:Zp Tryz.prog 55:=Zt Tryz.func55 rfl rfl
theorem ZoQ:Zp Tryz.prog 117:=Zt Tryz.func117 rfl rfl
theorem ZiO:Zp Tryz.prog 115:=Zt Tryz.func115 rfl rfl
theorem Zbs:XX Tryz.prog 3:=fun w=>by kernel_rfl
theorem ZaD:Tryz.prog.underlying 176=some (.array 10 175):=by kernel_rfl
theorem ZaZ:XG Tryz.prog 175 4:=fun w=>by kernel_rfl
theorem ZgM:XN Tryz.prog 175 4:=⟨fun w=>by kernel_rfl,fun w=>by kernel_rfl⟩
theorem ZbA:Zfq Tryz.prog 175 [.lit (.string ⟨#[]⟩),.lit (.bool false),.lit (.int .i64 0),.lit (.int .i64 0)]:=⟨(.agg #[.string ⟨#[]⟩,.bool false,.int .i64 0,.int .i64 0]),fun w=>by kernel_rfl,fun S w=>(show RdL S w [.lit (.string ⟨#[]⟩),.lit (.bool false),.lit (.int .i64 0),.lit (.int .i64 0)] [.string ⟨#[]⟩,.bool false,.int .i64 0,.int .i64 0]from⟨.lit _ (Nat.zero_le _),.lit _ True.intro,.lit _ True.intro,.lit _ True.intro,trivial⟩)⟩
theorem Ze9:Zp Tryz.prog 35:=Zt Tryz.func35 rfl rfl
theorem Zhp:ZT Tryz.prog 150 2 2:=fun b off w=>by kernel_rfl
theorem Zho:ZT Tryz.prog 150 3 3:=fun b off w=>by kernel_rfl
theorem ZoZ:Zp Tryz.prog 105:=Zt Tryz.func105 rfl rfl
theorem ZaB:Tryz.prog.underlying 151=some (.slice 150):=by kernel_rfl
theorem QT:Yd Tryz.prog 151 150 4:=⟨by kernel_rfl,fun w=>by kernel_rfl⟩
theorem ZoR:Zp Tryz.prog 114:=Zt Tryz.func114 rfl rfl
theorem Zcj:ZcJ Tryz.prog 9:=⟨.string ⟨#[]⟩,fun w=>by kernel_rfl⟩
theorem Zhn:ZT Tryz.prog 175 0 0:=fun b off w=>by kernel_rfl
theorem Zo0:Zp Tryz.prog 104:=Zt Tryz.func104 rfl rfl
theorem Zo1:Zp Tryz.prog 103:=Zt Tryz.func103 rfl rfl
theorem Zkk:Zm3 Tryz.prog 150 4:=⟨(#[.int .i64 0,.string ⟨#[]⟩,.slice none 0 0,.slice none 0 0]),rfl,by kernel_rfl⟩
theorem ZoY:Zp Tryz.prog 106:=Zt Tryz.func106 rfl rfl
theorem Zhy:Zbn Tryz.prog 150 4:=⟨#[.int .i64 0,.string ⟨#[]⟩,.slice none 0 0,.slice none 0 0],rfl,fun i=>(#[(0,1),(1,1),(2,1),(3,1)]:Array (Nat×Nat))[i]?,fun j hj=>by rcases j with _ | _ | _ | _ | j<;>first | rfl | omega,fun parts=>by kernel_rfl⟩
theorem Zm5:ZcJ Tryz.prog 150:=⟨.agg #[.int .i64 0,.string ⟨#[]⟩,.slice none 0 0,.slice none 0 0],fun w=>by kernel_rfl⟩
theorem ZrA:Zp Tryz.prog 88:=Zt Tryz.func88 rfl rfl
theorem ZjO:ZT Tryz.prog 49 1 1:=fun b off w=>by kernel_rfl
theorem ZjJ:ZT Tryz.prog 97 2 2:=fun b off w=>by kernel_rfl
theorem Zdv:ZT Tryz.prog 113 1 1:=fun b off w=>by kernel_rfl
theorem Zln:XX Tryz.prog 95:=fun w=>by kernel_rfl
theorem Zal:Zj5 Tryz.prog 95 9 9 keyS.kind:=⟨by kernel_rfl,by kernel_rfl⟩
theorem ZcZ:ZgN Tryz.prog 9 (.str default):=⟨(.string ⟨#[]⟩),fun w=>by kernel_rfl,fun S w=>(show Rel S w (.str ⟨#[]⟩) _ from Rel.of_lit _ (Nat.zero_le _))⟩
theorem ZjI:ZT Tryz.prog 97 4 4:=fun b off w=>by kernel_rfl
theorem Q3:ZT Tryz.prog 97 3 3:=fun b off w=>by kernel_rfl
theorem ZfY:XX Tryz.prog 94:=fun w=>by kernel_rfl
theorem X9:Zj5 Tryz.prog 94 9 66 keyS.kind:=⟨by kernel_rfl,by kernel_rfl⟩
theorem Zac:ZgN Tryz.prog 66 (.agg (hyC default)):=⟨(.agg #[.string ⟨#[]⟩,.bool false,.slice none 0 0]),fun w=>by kernel_rfl,fun S w=>(show Rel S w (.agg [.lit (.string ⟨#[]⟩),.lit (.bool false),.sl []]) _ from(by simp only[Rel];exact⟨[.string ⟨#[]⟩,.bool false,.slice none 0 0],rfl,.lit _ (Nat.zero_le _),.lit _ True.intro,.nil _ _ (Nat.zero_le _),trivial⟩))⟩
theorem Zmu:Zp Tryz.prog 81:=Zt Tryz.func81 rfl rfl
theorem Zmx:Zp Tryz.prog 59:=Zt Tryz.func59 rfl rfl
theorem Zeq:ZT Tryz.prog 70 4 4:=fun b off w=>by kernel_rfl
theorem ZrE:Zp Tryz.prog 84:=Zt Tryz.func84 rfl rfl
theorem ZrF:Zp Tryz.prog 83:=Zt Tryz.func83 rfl rfl
theorem ZgV:Tryz.prog.underlying 93=some (.map 9 4):=by kernel_rfl
theorem ZjM:ZT Tryz.prog 70 6 6:=fun b off w=>by kernel_rfl
theorem ZpB:XX Tryz.prog 68:=fun w=>by kernel_rfl
theorem Qr:Zfq Tryz.prog 143 [.lit (.string ⟨#[]⟩),.lit (.string ⟨#[]⟩)]:=⟨(.agg #[.string ⟨#[]⟩,.string ⟨#[]⟩]),fun w=>by kernel_rfl,fun S w=>(show RdL S w [.lit (.string ⟨#[]⟩),.lit (.string ⟨#[]⟩)] [.string ⟨#[]⟩,.string ⟨#[]⟩]from⟨.lit _ (Nat.zero_le _),.lit _ (Nat.zero_le _),trivial⟩)⟩
theorem ZrD:Zp Tryz.prog 85:=Zt Tryz.func85 rfl rfl
theorem ZjN:ZT Tryz.prog 70 3 3:=fun b off w=>by kernel_rfl
theorem ZrB:Zp Tryz.prog 87:=Zt Tryz.func87 rfl rfl
theorem ZrC:Zp Tryz.prog 86:=Zt Tryz.func86 rfl rfl
theorem ZrR:Zp Tryz.prog 62:=Zt Tryz.func62 rfl rfl
theorem Zc3:Tryz.prog.underlying 136=some (.slice 67):=by kernel_rfl
theorem Qm:Yd Tryz.prog 136 67 1:=⟨by kernel_rfl,fun w=>by kernel_rfl⟩
theorem ZrH:Zp Tryz.prog 80:=Zt Tryz.func80 rfl rfl
theorem ZgU:Tryz.prog.underlying 95=some (.map 9 9):=by kernel_rfl
theorem ZrS:Zp Tryz.prog 61:=Zt Tryz.func61 rfl rfl
theorem ZrP:Zp Tryz.prog 65:=Zt Tryz.func65 rfl rfl
theorem Zcf:ZT Tryz.prog 70 0 0:=fun b off w=>by kernel_rfl
theorem ZhA:Zbn Tryz.prog 113 2:=⟨#[.map none,.map none],rfl,fun i=>(#[(0,1),(1,1)]:Array (Nat×Nat))[i]?,fun j hj=>by rcases j with _ | _ | j<;>first | rfl | omega,fun parts=>by kernel_rfl⟩
theorem ZgT:Zfq Tryz.prog 113 [.lit (.map none),.lit (.map none)]:=⟨(.agg #[.map none,.map none]),fun w=>by kernel_rfl,fun S w=>(show RdL S w [.lit (.map none),.lit (.map none)] [.map none,.map none]from⟨.lit _ True.intro,.lit _ True.intro,trivial⟩)⟩
theorem Zje:XG Tryz.prog 113 2:=fun w=>by kernel_rfl
theorem Zd6:Zd2 Tryz.prog 67 1:=⟨(.slice none 0 0),fun w=>by kernel_rfl,rfl,by simp[Value.cells,Value.oneCell']⟩
theorem Zmy:Zp Tryz.prog 57:=Zt Tryz.func57 rfl rfl
theorem ZrU:Zp Tryz.prog 58:=Zt Tryz.func58 rfl rfl
theorem ZiS:XN Tryz.prog 70 8:=⟨fun w=>by kernel_rfl,fun w=>by kernel_rfl⟩
theorem ZrT:Zp Tryz.prog 60:=Zt Tryz.func60 rfl rfl
theorem ZjL:ZT Tryz.prog 70 7 7:=fun b off w=>by kernel_rfl
theorem Zmz:Zp Tryz.prog 48:=Zt Tryz.func48 rfl rfl
theorem ZrQ:Zp Tryz.prog 63:=Zt Tryz.func63 rfl rfl
theorem Zmw:Zp Tryz.prog 64:=Zt Tryz.func64 rfl rfl
theorem Zmv:Zp Tryz.prog 66:=Zt Tryz.func66 rfl rfl
theorem ZrO:Zp Tryz.prog 67:=Zt Tryz.func67 rfl rfl
theorem Za9:ZT Tryz.prog 49 2 2:=fun b off w=>by kernel_rfl
theorem Zih:XX Tryz.prog 47:=fun w=>by kernel_rfl
theorem Zb1:Tryz.prog.underlying 47=some (.slice 70):=by kernel_rfl
theorem Zj0:Zbn Tryz.prog 97 5:=⟨#[.map none,.map none,.map none,.map none,.map none],rfl,fun i=>(#[(0,1),(1,1),(2,1),(3,1),(4,1)]:Array (Nat×Nat))[i]?,fun j hj=>by rcases j with _ | _ | _ | _ | _ | j<;>first | rfl | omega,fun parts=>by kernel_rfl⟩
theorem Zfn:XN Tryz.prog 49 3:=⟨fun w=>by kernel_rfl,fun w=>by kernel_rfl⟩
theorem Zr0:Zp Tryz.prog 46:=Zt Tryz.func46 rfl rfl
theorem Xf:Yd Tryz.prog 47 70 8:=⟨by kernel_rfl,fun w=>by kernel_rfl⟩
theorem Zm8:Zm3 Tryz.prog 70 8:=⟨(#[.string ⟨#[]⟩,.bool false,.slice none 0 0,.slice none 0 0,.slice none 0 0,.slice none 0 0,.slice none 0 0,.slice none 0 0]),rfl,by kernel_rfl⟩
theorem ZrZ:Zp Tryz.prog 47:=Zt Tryz.func47 rfl rfl
theorem Zfu:Tryz.prog.underlying 164=some (.slice 166):=by kernel_rfl
theorem Zbl:Yd Tryz.prog 164 166 2:=⟨by kernel_rfl,fun w=>by kernel_rfl⟩
theorem Zkj:Zm3 Tryz.prog 166 2:=⟨(#[.string ⟨#[]⟩,.slice none 0 0]),rfl,by kernel_rfl⟩
theorem Zam:Zj5 Tryz.prog 180 9 22 keyS.kind:=⟨by kernel_rfl,by kernel_rfl⟩
theorem Zbz:ZgN Tryz.prog 22 (.rd (Zb default)):=⟨(.slice none 0 0),fun w=>by kernel_rfl,fun S w=>(show Rel S w (.rd (.sl [])) _ from(by simp only[Rel];exact .nil _ _ (Nat.zero_le _)))⟩
theorem ZbT:Zp Tryz.prog 119:=Zt Tryz.func119 rfl rfl
theorem X2:Zj5 Tryz.prog 76 9 4 keyS.kind:=⟨by kernel_rfl,by kernel_rfl⟩
theorem Zfa:Zp Tryz.prog 118:=Zt Tryz.func118 rfl rfl
theorem ZoP:Zp Tryz.prog 120:=Zt Tryz.func120 rfl rfl
theorem ZhX:XG Tryz.prog 9 1:=fun w=>by kernel_rfl
theorem Yh:ZT Tryz.prog 106 4 13:=fun b off w=>by kernel_rfl
theorem Qu:XX Tryz.prog 104:=fun w=>by kernel_rfl
theorem Za0:XG Tryz.prog 104 1:=fun w=>by kernel_rfl
theorem Zcg:Zbn Tryz.prog 42 2:=⟨#[.int .i64 0,.int .i64 0],rfl,fun i=>(#[(0,1),(1,1)]:Array (Nat×Nat))[i]?,fun j hj=>by rcases j with _ | _ | j<;>first | rfl | omega,fun parts=>by kernel_rfl⟩
theorem Zcw:ZT Tryz.prog 106 7 16:=fun b off w=>by kernel_rfl
theorem Qi:XG Tryz.prog 4 1:=fun w=>by kernel_rfl
theorem Zcv:ZT Tryz.prog 106 8 17:=fun b off w=>by kernel_rfl
theorem QU:XG Tryz.prog 42 2:=fun w=>by kernel_rfl
theorem ZiJ:Zp Tryz.prog 141:=Zt Tryz.func141 rfl rfl
theorem Zi3:Tryz.prog.underlying 201=some (.slice 3):=by kernel_rfl
theorem ZaR:Yd Tryz.prog 201 3 1:=⟨by kernel_rfl,fun w=>by kernel_rfl⟩
theorem ZcW:Zp Tryz.prog 136:=Zt Tryz.func136 rfl rfl
theorem Zfs:Zd2 Tryz.prog 3 1:=⟨(.int .i64 0),fun w=>by kernel_rfl,rfl,by simp[Value.cells,Value.oneCell']⟩
theorem ZiK:Zp Tryz.prog 135:=Zt Tryz.func135 rfl rfl
theorem Zcl:Tryz.prog.underlying 195=some (.int .u64):=by kernel_rfl
theorem ZoH:Zp Tryz.prog 133:=Zt Tryz.func133 rfl rfl
theorem ZiL:Zp Tryz.prog 134:=Zt Tryz.func134 rfl rfl
theorem Zhz:Zbn Tryz.prog 143 2:=⟨#[.string ⟨#[]⟩,.string ⟨#[]⟩],rfl,fun i=>(#[(0,1),(1,1)]:Array (Nat×Nat))[i]?,fun j hj=>by rcases j with _ | _ | j<;>first | rfl | omega,fun parts=>by kernel_rfl⟩
theorem ZiM:Zp Tryz.prog 129:=Zt Tryz.func129 rfl rfl
theorem ZoK:Zp Tryz.prog 130:=Zt Tryz.func130 rfl rfl
theorem ZoJ:Zp Tryz.prog 131:=Zt Tryz.func131 rfl rfl
theorem ZoL:Zp Tryz.prog 124:=Zt Tryz.func124 rfl rfl
theorem Znd:Zfq Tryz.prog 4 [.lit (.bool false)]:=⟨(.bool false),fun w=>by kernel_rfl,fun S w=>(show RdL S w [.lit (.bool false)] [.bool false]from⟨.lit _ True.intro,trivial⟩)⟩
theorem ZoO:Zp Tryz.prog 121:=Zt Tryz.func121 rfl rfl
theorem Zkl:Zfq Tryz.prog 68 [.sl []]:=⟨(.slice none 0 0),fun w=>by kernel_rfl,fun S w=>(show RdL S w [.sl []] [.slice none 0 0]from⟨.nil _ _ (Nat.zero_le _),trivial⟩)⟩
theorem ZkE:XG Tryz.prog 68 1:=fun w=>by kernel_rfl
theorem ZoN:Zp Tryz.prog 122:=Zt Tryz.func122 rfl rfl
theorem ZoI:Zp Tryz.prog 132:=Zt Tryz.func132 rfl rfl
theorem ZoM:Zp Tryz.prog 123:=Zt Tryz.func123 rfl rfl
theorem Zdw:ZT Tryz.prog 106 0 0:=fun b off w=>by kernel_rfl
theorem Zhq:ZT Tryz.prog 128 2 2:=fun b off w=>by kernel_rfl
theorem YT:Zp Tryz.prog 20:=Zt Tryz.func20 rfl rfl
theorem Zhx:Zbn Tryz.prog 166 2:=⟨#[.string ⟨#[]⟩,.slice none 0 0],rfl,fun i=>(#[(0,1),(1,1)]:Array (Nat×Nat))[i]?,fun j hj=>by rcases j with _ | _ | j<;>first | rfl | omega,fun parts=>by kernel_rfl⟩
theorem Zm4:ZcJ Tryz.prog 166:=⟨.agg #[.string ⟨#[]⟩,.slice none 0 0],fun w=>by kernel_rfl⟩
theorem ZhD:Zfr Tryz.prog 164 166 2 40:=ZpY (.agg #[.string ⟨#[]⟩,.slice none 0 0]) (by kernel_rfl) (by kernel_rfl) rfl (by decide) (fun w=>by kernel_rfl)
theorem ZoW:Zp Tryz.prog 108:=Zt Tryz.func108 rfl rfl
theorem ZoV:Zp Tryz.prog 109:=Zt Tryz.func109 rfl rfl
theorem X4:ZT Tryz.prog 106 1 3:=fun b off w=>by kernel_rfl
theorem ZoU:Zp Tryz.prog 110:=Zt Tryz.func110 rfl rfl
theorem ZoT:Zp Tryz.prog 111:=Zt Tryz.func111 rfl rfl
theorem Zht:Zp Tryz.prog 95:=Zt Tryz.func95 rfl rfl
theorem ZrJ:Zp Tryz.prog 76:=Zt Tryz.func76 rfl rfl
theorem Zhr:ZT Tryz.prog 128 0 0:=fun b off w=>by kernel_rfl
theorem ZdS:Tryz.prog.underlying 130=some (.array 5 129):=by kernel_rfl
theorem ZqX:XX Tryz.prog 129:=fun w=>by kernel_rfl
theorem Zjd:XG Tryz.prog 129 1:=fun w=>by kernel_rfl
theorem ZQ:XX Tryz.prog 100:=fun w=>by kernel_rfl
theorem YJ:XN Tryz.prog 128 4:=⟨fun w=>by kernel_rfl,fun w=>by kernel_rfl⟩
theorem ZaP:ZT Tryz.prog 106 5 14:=fun b off w=>by kernel_rfl
theorem YI:ZT Tryz.prog 106 6 15:=fun b off w=>by kernel_rfl
theorem ZG:ZT Tryz.prog 106 3 12:=fun b off w=>by kernel_rfl
theorem Qe:XX Tryz.prog 103:=fun w=>by kernel_rfl
theorem Zck:Tryz.prog.underlying 103=some (.slice 128):=by kernel_rfl
theorem ZdK:Zp Tryz.prog 73:=Zt Tryz.func73 rfl rfl
theorem Yf:Yd Tryz.prog 103 128 4:=⟨by kernel_rfl,fun w=>by kernel_rfl⟩
theorem Zad:Zfq Tryz.prog 128 [.lit (.int .i64 0),.sl [],.lit (.int .i64 0),.lit (.bool false)]:=⟨(.agg #[.int .i64 0,.slice none 0 0,.int .i64 0,.bool false]),fun w=>by kernel_rfl,fun S w=>(show RdL S w [.lit (.int .i64 0),.sl [],.lit (.int .i64 0),.lit (.bool false)] [.int .i64 0,.slice none 0 0,.int .i64 0,.bool false]from⟨.lit _ True.intro,.nil _ _ (Nat.zero_le _),.lit _ True.intro,.lit _ True.intro,trivial⟩)⟩
theorem Xg:XG Tryz.prog 128 4:=fun w=>by kernel_rfl
theorem Zhw:Zp Tryz.prog 16:=Zt Tryz.func16 rfl rfl
theorem YR:ZT Tryz.prog 128 3 3:=fun b off w=>by kernel_rfl
theorem QF:XG Tryz.prog 3 1:=fun w=>by kernel_rfl
theorem Zhu:Zp Tryz.prog 74:=Zt Tryz.func74 rfl rfl
theorem Zez:Tryz.prog.underlying 178=some (.array 2 67):=by kernel_rfl
theorem ZkF:XG Tryz.prog 67 1:=fun w=>by kernel_rfl
theorem ZoX:Zp Tryz.prog 107:=Zt Tryz.func107 rfl rfl
theorem Zcx:ZT Tryz.prog 106 2 11:=fun b off w=>by kernel_rfl
theorem Zlo:XX Tryz.prog 102:=fun w=>by kernel_rfl
theorem Zcs:Zj5 Tryz.prog 102 9 3 keyS.kind:=⟨by kernel_rfl,by kernel_rfl⟩
theorem ZgR:ZgN Tryz.prog 3 (.int default):=⟨(.int .i64 0),fun w=>by kernel_rfl,fun S w=>(show Rel S w (.int 0) _ from Rel.of_lit _)⟩
theorem Zr6:Zp Tryz.prog 34:=Zt Tryz.func34 rfl rfl
theorem Zr7:Zp Tryz.prog 32:=Zt Tryz.func32 rfl rfl
theorem Zr5:Zp Tryz.prog 36:=Zt Tryz.func36 rfl rfl
theorem Zd7:Zfq Tryz.prog 36 [.lit (.int .i64 0),.lit (.bool false)]:=⟨(.agg #[.int .i64 0,.bool false]),fun w=>by kernel_rfl,fun S w=>(show RdL S w [.lit (.int .i64 0),.lit (.bool false)] [.int .i64 0,.bool false]from⟨.lit _ True.intro,.lit _ True.intro,trivial⟩)⟩
theorem ZfA:XG Tryz.prog 36 2:=fun w=>by kernel_rfl
theorem ZjS:ZT Tryz.prog 36 1 1:=fun b off w=>by kernel_rfl
theorem ZiT:XN Tryz.prog 36 2:=⟨fun w=>by kernel_rfl,fun w=>by kernel_rfl⟩
theorem Zry:Zp Tryz.prog 92:=Zt Tryz.func92 rfl rfl
theorem Zr2:Zp Tryz.prog 40:=Zt Tryz.func40 rfl rfl
theorem Zrz:Zp Tryz.prog 91:=Zt Tryz.func91 rfl rfl
theorem ZmH:Zp Tryz.prog 15:=Zt Tryz.func15 rfl rfl
theorem Zmr:Zp Tryz.prog 90:=Zt Tryz.func90 rfl rfl
theorem Qg:ZcJ Tryz.prog 128:=⟨.agg #[.int .i64 0,.slice none 0 0,.int .i64 0,.bool false],fun w=>by kernel_rfl⟩
theorem YU:Zfr Tryz.prog 103 128 4 48:=ZpY (.agg #[.int .i64 0,.slice none 0 0,.int .i64 0,.bool false]) (by kernel_rfl) (by kernel_rfl) rfl (by decide) (fun w=>by kernel_rfl)
theorem Y1:XG Tryz.prog 103 1:=fun w=>by kernel_rfl
theorem ZmG:Zp Tryz.prog 18:=Zt Tryz.func18 rfl rfl
theorem Zft:Zfq Tryz.prog 22 [.sl []]:=⟨(.slice none 0 0),fun w=>by kernel_rfl,fun S w=>(show RdL S w [.sl []] [.slice none 0 0]from⟨.nil _ _ (Nat.zero_le _),trivial⟩)⟩
theorem ZmF:Zp Tryz.prog 19:=Zt Tryz.func19 rfl rfl
theorem ZhN:Zfq Tryz.prog 3 [.lit (.int .i64 0)]:=⟨(.int .i64 0),fun w=>by kernel_rfl,fun S w=>(show RdL S w [.lit (.int .i64 0)] [.int .i64 0]from⟨.lit _ True.intro,trivial⟩)⟩
theorem ZmE:Zp Tryz.prog 22:=Zt Tryz.func22 rfl rfl
theorem ZhM:Zm3 Tryz.prog 36 2:=⟨(#[.int .i64 0,.bool false]),rfl,by kernel_rfl⟩
theorem ZmB:Zp Tryz.prog 38:=Zt Tryz.func38 rfl rfl
theorem ZrK:Zp Tryz.prog 72:=Zt Tryz.func72 rfl rfl
theorem Zi0:Zfq Tryz.prog 100 [.lit (.pointer none)]:=⟨(.pointer none),fun w=>by kernel_rfl,fun S w=>(show RdL S w [.lit (.pointer none)] [.pointer none]from⟨.lit _ True.intro,trivial⟩)⟩
theorem Zjf:XG Tryz.prog 100 1:=fun w=>by kernel_rfl
theorem Zb0:Zfq Tryz.prog 42 [.lit (.int .i64 0),.lit (.int .i64 0)]:=⟨(.agg #[.int .i64 0,.int .i64 0]),fun w=>by kernel_rfl,fun S w=>(show RdL S w [.lit (.int .i64 0),.lit (.int .i64 0)] [.int .i64 0,.int .i64 0]from⟨.lit _ True.intro,.lit _ True.intro,trivial⟩)⟩
theorem ZrY:Zp Tryz.prog 49:=Zt Tryz.func49 rfl rfl
theorem ZrX:Zp Tryz.prog 50:=Zt Tryz.func50 rfl rfl
theorem Zbc:XN Tryz.prog 42 2:=⟨fun w=>by kernel_rfl,fun w=>by kernel_rfl⟩
theorem Zr1:Zp Tryz.prog 41:=Zt Tryz.func41 rfl rfl
theorem Zr9:Zp Tryz.prog 29:=Zt Tryz.func29 rfl rfl
theorem Zr8:Zp Tryz.prog 30:=Zt Tryz.func30 rfl rfl
theorem ZgS:Zfq Tryz.prog 49 [.sl [],.sl [],.sl []]:=⟨(.agg #[.slice none 0 0,.slice none 0 0,.slice none 0 0]),fun w=>by kernel_rfl,fun S w=>(show RdL S w [.sl [],.sl [],.sl []] [.slice none 0 0,.slice none 0 0,.slice none 0 0]from⟨.nil _ _ (Nat.zero_le _),.nil _ _ (Nat.zero_le _),.nil _ _ (Nat.zero_le _),trivial⟩)⟩
theorem Xq:Zd2 Tryz.prog 9 1:=⟨(.string ⟨#[]⟩),fun w=>by kernel_rfl,rfl,by simp[Value.cells,Value.oneCell']⟩
theorem Zeu:Zbn Tryz.prog 66 3:=⟨#[.string ⟨#[]⟩,.bool false,.slice none 0 0],rfl,fun i=>(#[(0,1),(1,1),(2,1)]:Array (Nat×Nat))[i]?,fun j hj=>by rcases j with _ | _ | _ | j<;>first | rfl | omega,fun parts=>by kernel_rfl⟩
theorem Zj1:Zbn Tryz.prog 49 3:=⟨#[.slice none 0 0,.slice none 0 0,.slice none 0 0],rfl,fun i=>(#[(0,1),(1,1),(2,1)]:Array (Nat×Nat))[i]?,fun j hj=>by rcases j with _ | _ | _ | j<;>first | rfl | omega,fun parts=>by kernel_rfl⟩
theorem ZkG:XG Tryz.prog 49 3:=fun w=>by kernel_rfl
theorem ZcA:Yd Tryz.prog 44 43 3:=⟨by kernel_rfl,fun w=>by kernel_rfl⟩
theorem Zi2:Tryz.prog.underlying 44=some (.slice 43):=by kernel_rfl
theorem Zpe:XN Tryz.prog 43 3:=⟨fun w=>by kernel_rfl,fun w=>by kernel_rfl⟩
theorem Zm9:Zm3 Tryz.prog 43 3:=⟨(#[.slice none 0 0,.int .i64 0,.int .i64 0]),rfl,by kernel_rfl⟩
theorem ZjQ:ZT Tryz.prog 43 0 0:=fun b off w=>by kernel_rfl
theorem Zsg:Zp Tryz.prog 14:=Zt Tryz.func14 rfl rfl
theorem Zsh:Zp Tryz.prog 13:=Zt Tryz.func13 rfl rfl
theorem Zna:Zm3 Tryz.prog 42 2:=⟨(#[.int .i64 0,.int .i64 0]),rfl,by kernel_rfl⟩
theorem ZjP:ZT Tryz.prog 43 1 1:=fun b off w=>by kernel_rfl
set_option maxRecDepth 100000 in
theorem tb_one:∀ t∈[3,4,5,9,22,24,27,47,67,68,86,92,93,94,95,100,102,103,104,163,164,180,201],XX Tryz.prog t:=by
 intro t h
 simp only[List.mem_cons,List.not_mem_nil,or_false]at h
 rcases h with rfl | rfl | rfl | rfl | rfl | rfl | rfl | rfl | rfl | rfl | rfl | rfl | rfl | rfl | rfl | rfl | rfl | rfl | rfl | rfl | rfl | rfl | rfl<;>exact fun w=>by kernel_rfl
set_option maxRecDepth 100000 in
theorem tb_agg:∀ q∈[(36,2),(37,2),(42,2),(49,3),(66,3),(70,8),(113,2),(128,4),(143,2),(150,4),(166,2),(175,4)],XN Tryz.prog q.1 q.2:=by
 intro q h
 simp only[List.mem_cons,List.not_mem_nil,or_false]at h
 rcases h with rfl | rfl | rfl | rfl | rfl | rfl | rfl | rfl | rfl | rfl | rfl | rfl<;>exact⟨fun w=>by kernel_rfl,fun w=>by kernel_rfl⟩
set_option maxRecDepth 100000 in
theorem tb_fld:∀ q∈[(36,0,0),(36,1,1),(37,0,0),(37,1,1),(42,0,0),(42,1,1),(49,0,0),(49,1,1),(49,2,2),(66,0,0),(66,1,1),(66,2,2),(70,0,0),(70,1,1),(70,2,2),(70,3,3),(70,4,4),(70,5,5),(70,6,6),(70,7,7),(97,0,0),(97,1,1),(97,2,2),(97,3,3),(97,4,4),(106,0,0),(106,1,3),(106,2,11),(106,3,12),(106,4,13),(106,5,14),(106,6,15),(106,7,16),(106,8,17),(113,0,0),(113,1,1),(128,0,0),(128,1,1),(128,2,2),(128,3,3),(143,0,0),(143,1,1),(150,0,0),(150,1,1),(150,2,2),(150,3,3),(166,0,0),(166,1,1),(175,0,0),(175,1,1),(175,2,2),(175,3,3)],ZT Tryz.prog q.1 q.2.1 q.2.2:=by
 intro q h
 simp only[List.mem_cons,List.not_mem_nil,or_false]at h
 rcases h with rfl | rfl | rfl | rfl | rfl | rfl | rfl | rfl | rfl | rfl | rfl | rfl | rfl | rfl | rfl | rfl | rfl | rfl | rfl | rfl | rfl | rfl | rfl | rfl | rfl | rfl | rfl | rfl | rfl | rfl | rfl | rfl | rfl | rfl | rfl | rfl | rfl | rfl | rfl | rfl | rfl | rfl | rfl | rfl | rfl | rfl | rfl | rfl | rfl | rfl | rfl | rfl<;>exact fun b off w=>by kernel_rfl
def tb:Tbl Tryz.prog where
 one:=Zrg [3,4,5,9,22,24,27,47,67,68,86,92,93,94,95,100,102,103,104,163,164,180,201]
 agg:=lk1 [(36,2),(37,2),(42,2),(49,3),(66,3),(70,8),(113,2),(128,4),(143,2),(150,4),(166,2),(175,4)]
 fld:=lk2 [(36,0,0),(36,1,1),(37,0,0),(37,1,1),(42,0,0),(42,1,1),(49,0,0),(49,1,1),(49,2,2),(66,0,0),(66,1,1),(66,2,2),(70,0,0),(70,1,1),(70,2,2),(70,3,3),(70,4,4),(70,5,5),(70,6,6),(70,7,7),(97,0,0),(97,1,1),(97,2,2),(97,3,3),(97,4,4),(106,0,0),(106,1,3),(106,2,11),(106,3,12),(106,4,13),(106,5,14),(106,6,15),(106,7,16),(106,8,17),(113,0,0),(113,1,1),(128,0,0),(128,1,1),(128,2,2),(128,3,3),(143,0,0),(143,1,1),(150,0,0),(150,1,1),(150,2,2),(150,3,3),(166,0,0),(166,1,1),(175,0,0),(175,1,1),(175,2,2),(175,3,3)]
 h1:=fun t h=>tb_one t (Zit h)
 h2:=fun t k h=>tb_agg (t,k+1) (ZlB h)
 h3:=fun s f d h=>tb_fld (s,f,d) (ZlA h)
 mix:=Yl
theorem ZmL {J:World→Prop} (hJ:Stab J) (s:ByteArray)  :Fn Tryz.prog J 39 [.str s] (.bool (QN s)):=by
 refine Zw (N:=58) Tryz.func39 rfl rfl (lb rfl) fun S w0 hS hJ0=>?_
 clear hJ0
 refine lnS 0 fun hl1=>?_
 refine qs tb hJ [0] [_] [_] ?_
 refine Zk (qs tb hJ [0,1000] [_] [_,_] ?_)
 refine Zf (lp (ι:=Nat) (fun k=>(k≤s.size)∧(∀ j,j<k→Zj9 (bt s j)=false)) (fun k=>[(3,.int (k:Nat))]) (fun k=>s.size-k) [0,1] [_] 0 (show(0≤s.size)∧(∀ j,j<0→Zj9 (bt s j)=false)from by first | trivial | grind) ?_)
 rintro k ⟨f1_1,f1_2⟩
 refine Zk (hqs tb hJ [0,1,1003] [_,_,.int (s.size:Nat),_] [2] [_,_,_] rfl ⟨ZpI Yb,trivial⟩ ?_)
 refine cj 2 (fun hb1=>?_) fun hb1=>?_
 try simp at hb1
 refine Zc (nx (Zk (Zf (hqs tb hJ [0,1,1003] [_,_,.rd (.lit (.int .u8 ((ge s.data.toList k).toNat:Int))),_] [2] [_,_,_] rfl ⟨fun _ _ _ hx hl _=>ZfJ (i:=(k:Int)) Yb rfl (hl.dep 0 12 _ rfl rfl rfl rfl) (hl.dep 1 13 _ rfl rfl rfl rfl) (Int.natCast_nonneg _) (ZbV (s:=s) (k:=k) sfz) hx,trivial⟩ ?_))))
 refine qs tb hJ [0,1,2,1014] [_,_,_,_,_,_,_,_,_,_,_,_,_,_,_] [_,_,_,_] ?_
 refine qs tb hJ [0,1,1021] [_,_,_,_,_,_,_,_,_,_,_,_,_,_,_,_,_,_,_,_,_,_] [_,_,_] ?_
 refine cj 2 (fun hb2=>?_) fun hb2=>?_
 refine qs tb hJ [1000] [_] [_] ?_
 exact Zg (rtn (m:=0) rfl rfl (eB ((Zra hb1 hb2).symm)))
 refine Zc (nx (hqp tb hJ [0,1002] [_,.int (k+1:Nat),_] [1] [_,_] rfl ⟨Yw,trivial⟩ ?_))
 exact lpE (k+1) [0,1] ⟨by omega,ZZ f1_2 hb2⟩
 try simp at hb1
 refine ZB (nx (hqs tb hJ [1007] [_,_,_,_,.int (s.size:Nat),_,_,_] [4] [_] rfl ⟨ZpI Yb,trivial⟩ ?_))
 exact Zg (rtn (m:=0) rfl rfl (eB ((Zog fun j hj=>f1_2 j (by omega)).symm)))
theorem Za2 {J:World→Prop} (hJ:Stab J) (M1:Nat) (M2:Nat) (M3:Nat) (M4:Nat) (M5:Nat) (cs:List ByteArray) (vs:List ByteArray) (s:ByteArray)  :FnR Tryz.prog J 56 [OB.set keyS M1 cs,OB.set keyS M2 vs] [.ptr (mpC [M1,M2,M3,M4,M5]),.str s] (.bool (decide (s∈cs)||decide (s∈vs))):=by
 refine Yc (N:=19) Tryz.func56 rfl rfl (lb rfl) fun S w0 hS hJ0 hH=>?_
 clear hJ0
 refine qs tb hJ [0,1] [_] [_,_] ?_
 refine hqs tb hJ [1014] [_,_,_,_,_,.bool (decide (s∈cs)),_,_,_,_,_,_,.bool (decide (s∈vs)),_,_] [5,12] [_] rfl ⟨fun _ _ hk hx hl _=>Yj (Kd:=keyS) (xs:=cs) ZR ZY s rfl (Y5 hH hk (mo 0 rfl)) (hl.D 3 8 rfl rfl) (hl.D 4 9 rfl rfl) hx,fun _ _ hk hx hl hc=>Yj (Kd:=keyS) (xs:=vs) ZR ZY s rfl (Y5 hH hk (mo 1 rfl)) (hl.D 10 15 rfl hc) (hl.D 11 16 rfl hc) hx,trivial⟩ ?_
 exact Zg (rtn (m:=0) rfl rfl (eB (by first | rfl | grind[ZM])))
theorem ZqC {J:World→Prop} (hJ:Stab J) (M1:Nat) (M2:Nat) (M3:Nat) (M4:Nat) (M5:Nat) (cs:List ByteArray) (vs:List ByteArray) (s:ByteArray)  :FnR Tryz.prog J 82 [OB.set keyS M1 cs,OB.set keyS M2 vs] [.str s,.ptr [.ptr (mpC [M1,M2,M3,M4,M5])]] (.bool (!(decide (s∈cs)||decide (s∈vs)))):=by
 refine Yc (N:=8) Tryz.func82 rfl rfl (lb rfl) fun S w0 hS hJ0 hH=>?_
 clear hJ0
 refine qs tb hJ [0,1] [_] [_,_] ?_
 refine hqs tb hJ [1004] [_,_,.bool (decide (s∈cs)||decide (s∈vs)),_,_] [2] [_] rfl ⟨fun _ _ hk hx hl _=>Xj (Za2 hJ (M1:=M1) (M2:=M2) (M3:=M3) (M4:=M4) (M5:=M5) (cs:=cs) (vs:=vs) (s:=s) ) Ze8 rfl (nm hS hk) (hx) (ZH (Y5 hH hk (mo 0 rfl)) (ZH (Y5 hH hk (mo 1 rfl)) Zs)) (Za (hl.D 0 4 rfl rfl) (Za (hl.D 1 5 rfl rfl) Ze)) (js hJ hx),trivial⟩ ?_
 exact Zg (rtn (m:=0) rfl rfl rfl)
theorem ZfS {J:World→Prop} (hJ:Stab J) (xs:List ByteArray) (f:FuncId) (caps:List AV) (Os:List OB) (p:ByteArray→Bool) (hf:∀ q',FnR Tryz.prog J f Os ([.str (q')]++caps) (.bool (p q'))) (hk0:Zp Tryz.prog f):FnR Tryz.prog J 12 Os [.rd (Zb xs),.fn f caps] (.int (Z9 p xs)):=by
 refine Yc (N:=19) Tryz.func12 rfl rfl (lb rfl) fun S w0 hS hJ0 hH=>?_
 clear hJ0
 refine ln 0 fun hl1=>?_
 refine qs tb hJ [0,1] [_] [_,_] ?_
 refine Zk (hqs tb hJ [0,1,1001,1002] [_,.int (xs.length:Nat),_] [1] [_,_,_,_] rfl ⟨YK Zx,trivial⟩ ?_)
 refine Zf (lp (ι:=Nat) (fun k=>(k≤xs.length)∧(∀ j,j<k→p (ge xs j)=false)) (fun k=>[(8,.int (k:Nat))]) (fun k=>xs.length-k) [0,1,2,3] [_,_,_] 0 ⟨Nat.zero_le _,fun j hj=>by omega⟩ ?_)
 rintro k ⟨f1_1,f1_2⟩
 refine qs tb hJ [0,1,2,3,1000] [_] [_,_,_,_,_] ?_
 refine cjS 4 (fun hb1=>?_) fun hb1=>?_
 try simp at hb1
 refine Zc (nx (Zk (Zf (qs tb hJ [0,1,2,3,1001] [_,_] [_,_,_,_,_] ?_))))
 refine hqs tb hJ [0,1,2,3,4,1005] [_,_,_,.ptr [.lit (.string (ge xs k))],_,.bool (p (ge xs k))] [3,5] [_,_,_,_,_,_] rfl ⟨iIx Zi,fun _ _ hk hx hl _=>ZcH (hf (ge xs k)) hk0 rfl (hl.D 0 11 rfl rfl) (nm hS hk) (hx) (fun _ ho=>Y5 hH hk ho) (Za (hl.D 4 15 rfl rfl) Ze) (js hJ hx),trivial⟩ ?_
 refine cj 5 (fun hb2=>?_) fun hb2=>?_
 try simp at hb2
 refine qs tb hJ [1001] [_,_] [_] ?_
 exact Zg (rtn (m:=0) rfl rfl (eI (by first | exact(Xa hb1 hb2 f1_2).symm | exact(YH fun j hj=>f1_2 j (by omega)).symm)))
 try simp at hb2
 refine Zc (nx (hqp tb hJ [0,1,2,1001] [.int (k+1:Nat),_] [0] [_,_,_,_] rfl ⟨Yw,trivial⟩ ?_))
 exact lpE (k+1) [0,1,2,3] ⟨by omega,ZZ f1_2 hb2⟩
 try simp at hb1
 refine ZB (nx (qs tb hJ [1000] [_] [_] ?_))
 exact Zg (rtn (m:=0) rfl rfl (eI (by first | exact(Xa hb1 hb2 f1_2).symm | exact(YH fun j hj=>f1_2 j (by omega)).symm)))
theorem YB {J:World→Prop} (hJ:Stab J) (xs:List ByteArray) (f:FuncId) (caps:List AV) (Os:List OB) (p:ByteArray→Bool) (hf:∀ q',FnR Tryz.prog J f Os ([.str (q')]++caps) (.bool (p q'))) (hk0:Zp Tryz.prog f):FnR Tryz.prog J 4 Os [.rd (Zb xs),.fn f caps] (.bool (xs.any p)):=by
 refine Yc (N:=9) Tryz.func4 rfl rfl (lb rfl) fun S w0 hS hJ0 hH=>?_
 clear hJ0
 refine ln 0 fun hl1=>?_
 refine qs tb hJ [0,1] [_] [_,_] ?_
 refine hqs tb hJ [1004] [_,_,.int (Z9 p xs),_,_] [2] [_] rfl ⟨fun _ _ hk hx hl _=>Xj (ZfS hJ (xs:=xs) (f:=f) (caps:=caps) (Os:=Os) (p:=p) (hf) (hk0)) Zsi rfl (nm hS hk) (hx) (fun _ ho=>Y5 hH hk ho) (Za (hl.D 0 5 rfl rfl) (Za (hl.D 1 6 rfl rfl) Ze)) (js hJ hx),trivial⟩ ?_
 exact Zg (rtn (m:=0) rfl rfl (eB (by rw[←ZbO])))
theorem Zcr {J:World→Prop} (hJ:Stab J) (xs:List Hy) (f:FuncId) (caps:List AV) (Os:List OB) (p:Hy→Bool) (hf:∀ q',FnR Tryz.prog J f Os ([.agg (hyC (q'))]++caps) (.bool (p q'))) (hk0:Zp Tryz.prog f):FnR Tryz.prog J 89 Os [.rd (XW xs),.fn f caps] (.int (Z9 p xs)):=by
 refine Yc (N:=19) Tryz.func89 rfl rfl (lb rfl) fun S w0 hS hJ0 hH=>?_
 clear hJ0
 refine ln 0 fun hl1=>?_
 refine qs tb hJ [0,1] [_] [_,_] ?_
 refine Zk (hqs tb hJ [0,1,1001,1002] [_,.int (xs.length:Nat),_] [1] [_,_,_,_] rfl ⟨YK ZO,trivial⟩ ?_)
 refine Zf (lp (ι:=Nat) (fun k=>(k≤xs.length)∧(∀ j,j<k→p (ge xs j)=false)) (fun k=>[(8,.int (k:Nat))]) (fun k=>xs.length-k) [0,1,2,3] [_,_,_] 0 ⟨Nat.zero_le _,fun j hj=>by omega⟩ ?_)
 rintro k ⟨f1_1,f1_2⟩
 refine qs tb hJ [0,1,2,3,1000] [_] [_,_,_,_,_] ?_
 refine cjS 4 (fun hb1=>?_) fun hb1=>?_
 try simp at hb1
 refine Zc (nx (Zk (Zf (qs tb hJ [0,1,2,3,1001] [_,_] [_,_,_,_,_] ?_))))
 refine hqs tb hJ [0,1,2,3,4,1005] [_,_,_,.ptr (hyC (ge xs k)),_,.bool (p (ge xs k))] [3,5] [_,_,_,_,_,_] rfl ⟨iIx ZK,fun _ _ hk hx hl _=>ZcH (hf (ge xs k)) hk0 rfl (hl.D 0 11 rfl rfl) (nm hS hk) (hx) (fun _ ho=>Y5 hH hk ho) (Za (hl.D 4 15 rfl rfl) Ze) (js hJ hx),trivial⟩ ?_
 refine cj 5 (fun hb2=>?_) fun hb2=>?_
 try simp at hb2
 refine qs tb hJ [1001] [_,_] [_] ?_
 exact Zg (rtn (m:=0) rfl rfl (eI (by first | exact(Xa hb1 hb2 f1_2).symm | exact(YH fun j hj=>f1_2 j (by omega)).symm)))
 try simp at hb2
 refine Zc (nx (hqp tb hJ [0,1,2,1001] [.int (k+1:Nat),_] [0] [_,_,_,_] rfl ⟨Yw,trivial⟩ ?_))
 exact lpE (k+1) [0,1,2,3] ⟨by omega,ZZ f1_2 hb2⟩
 try simp at hb1
 refine ZB (nx (qs tb hJ [1000] [_] [_] ?_))
 exact Zg (rtn (m:=0) rfl rfl (eI (by first | exact(Xa hb1 hb2 f1_2).symm | exact(YH fun j hj=>f1_2 j (by omega)).symm)))
theorem ZaK {J:World→Prop} (hJ:Stab J) (xs:List Hy) (f:FuncId) (caps:List AV) (Os:List OB) (p:Hy→Bool) (hf:∀ q',FnR Tryz.prog J f Os ([.agg (hyC (q'))]++caps) (.bool (p q'))) (hk0:Zp Tryz.prog f):FnR Tryz.prog J 64 Os [.rd (XW xs),.fn f caps] (.bool (xs.any p)):=by
 refine Yc (N:=9) Tryz.func64 rfl rfl (lb rfl) fun S w0 hS hJ0 hH=>?_
 clear hJ0
 refine ln 0 fun hl1=>?_
 refine qs tb hJ [0,1] [_] [_,_] ?_
 refine hqs tb hJ [1004] [_,_,.int (Z9 p xs),_,_] [2] [_] rfl ⟨fun _ _ hk hx hl _=>Xj (Zcr hJ (xs:=xs) (f:=f) (caps:=caps) (Os:=Os) (p:=p) (hf) (hk0)) Zmt rfl (nm hS hk) (hx) (fun _ ho=>Y5 hH hk ho) (Za (hl.D 0 5 rfl rfl) (Za (hl.D 1 6 rfl rfl) Ze)) (js hJ hx),trivial⟩ ?_
 exact Zg (rtn (m:=0) rfl rfl (eB (by rw[←ZbO])))
theorem ZfT {J:World→Prop} (hJ:Stab J) (xs:List Pr) (f:FuncId) (caps:List AV) (Os:List OB) (p:Pr→Bool) (hf:∀ q',FnR Tryz.prog J f Os ([.agg (prC (q'))]++caps) (.bool (p q'))) (hk0:Zp Tryz.prog f):FnR Tryz.prog J 113 Os [.rd (QI xs),.fn f caps] (.int (Z9 p xs)):=by
 refine Yc (N:=19) Tryz.func113 rfl rfl (lb rfl) fun S w0 hS hJ0 hH=>?_
 clear hJ0
 refine ln 0 fun hl1=>?_
 refine qs tb hJ [0,1] [_] [_,_] ?_
 refine Zk (hqs tb hJ [0,1,1001,1002] [_,.int (xs.length:Nat),_] [1] [_,_,_,_] rfl ⟨YK Z6,trivial⟩ ?_)
 refine Zf (lp (ι:=Nat) (fun k=>(k≤xs.length)∧(∀ j,j<k→p (ge xs j)=false)) (fun k=>[(8,.int (k:Nat))]) (fun k=>xs.length-k) [0,1,2,3] [_,_,_] 0 ⟨Nat.zero_le _,fun j hj=>by omega⟩ ?_)
 rintro k ⟨f1_1,f1_2⟩
 refine qs tb hJ [0,1,2,3,1000] [_] [_,_,_,_,_] ?_
 refine cjS 4 (fun hb1=>?_) fun hb1=>?_
 try simp at hb1
 refine Zc (nx (Zk (Zf (qs tb hJ [0,1,2,3,1001] [_,_] [_,_,_,_,_] ?_))))
 refine hqs tb hJ [0,1,2,3,4,1005] [_,_,_,.ptr (prC (ge xs k)),_,.bool (p (ge xs k))] [3,5] [_,_,_,_,_,_] rfl ⟨iIx ZC,fun _ _ hk hx hl _=>ZcH (hf (ge xs k)) hk0 rfl (hl.D 0 11 rfl rfl) (nm hS hk) (hx) (fun _ ho=>Y5 hH hk ho) (Za (hl.D 4 15 rfl rfl) Ze) (js hJ hx),trivial⟩ ?_
 refine cj 5 (fun hb2=>?_) fun hb2=>?_
 try simp at hb2
 refine qs tb hJ [1001] [_,_] [_] ?_
 exact Zg (rtn (m:=0) rfl rfl (eI (by first | exact(Xa hb1 hb2 f1_2).symm | exact(YH fun j hj=>f1_2 j (by omega)).symm)))
 try simp at hb2
 refine Zc (nx (hqp tb hJ [0,1,2,1001] [.int (k+1:Nat),_] [0] [_,_,_,_] rfl ⟨Yw,trivial⟩ ?_))
 exact lpE (k+1) [0,1,2,3] ⟨by omega,ZZ f1_2 hb2⟩
 try simp at hb1
 refine ZB (nx (qs tb hJ [1000] [_] [_] ?_))
 exact Zg (rtn (m:=0) rfl rfl (eI (by first | exact(Xa hb1 hb2 f1_2).symm | exact(YH fun j hj=>f1_2 j (by omega)).symm)))
theorem ZeQ {J:World→Prop} (hJ:Stab J) (xs:List ByteArray) (ys:List ByteArray)  :Fn Tryz.prog J 9 [.rd (Zb xs),.rd (Zb ys)] (.bool (decide (xs=ys))):=by
 refine Zw (N:=26) Tryz.func9 rfl rfl (lb rfl) fun S w0 hS hJ0=>?_
 clear hJ0
 refine ln 0 fun hl1=>?_
 refine ln 1 fun hl2=>?_
 refine qs tb hJ [0,1] [_] [_,_] ?_
 refine Zk (hqs tb hJ [0,1,1004] [_,.int (xs.length:Nat),_,.int (ys.length:Nat),_] [1,3] [_,_,_] rfl ⟨YK Zx,YK Zx,trivial⟩ ?_)
 refine cj 2 (fun hb1=>?_) fun hb1=>?_
 try simp at hb1
 refine qs tb hJ [1000] [_] [_] ?_
 exact Zg (rtn (m:=0) rfl rfl (eB (by first | (have:=Zdz (xs:=xs) (ys:=ys) (by omega) (fun j hj=>f1_2 j (by omega));simp[this];done) | (symm;rw[decide_eq_false_iff_not];intro e;subst e;simp_all;done))))
 try simp at hb1
 refine Zc (nx (Zk (hqs tb hJ [0,1,1001,1002] [_,.int (xs.length:Nat),_] [1] [_,_,_,_] rfl ⟨YK Zx,trivial⟩ ?_)))
 refine Zf (lp (ι:=Nat) (fun k=>(k≤xs.length)∧(∀ j,j<k→ge xs j=ge ys j)) (fun k=>[(13,.int (k:Nat))]) (fun k=>xs.length-k) [0,1,2,3] [_,_,_] 0 ⟨Nat.zero_le _,fun j hj=>by omega⟩ ?_)
 rintro k ⟨f1_1,f1_2⟩
 refine qs tb hJ [0,1,2,3,1000] [_] [_,_,_,_,_] ?_
 refine cjS 4 (fun hb2=>?_) fun hb2=>?_
 try simp at hb2
 refine Zc (nx (Zk (Zf (qs tb hJ [0,1,2,3,1001] [_,_] [_,_,_,_,_] ?_))))
 refine hqs tb hJ [0,1,2,3,1008] [_,_,.ptr [.lit (.string (ge xs k))],_,_,_,.ptr [.lit (.string (ge ys k))],_,_] [2,6] [_,_,_,_,_] rfl ⟨iIx Zi,iIx Zi,trivial⟩ ?_
 refine cj 4 (fun hb3=>?_) fun hb3=>?_
 try simp at hb3
 refine qs tb hJ [1000] [_] [_] ?_
 exact Zg (rtn (m:=0) rfl rfl (eB (by first | (have:=Zdz (xs:=xs) (ys:=ys) (by omega) (fun j hj=>f1_2 j (by omega));simp[this];done) | (symm;rw[decide_eq_false_iff_not];intro e;subst e;simp_all;done))))
 try simp at hb3
 refine Zc (nx (hqp tb hJ [0,1,2,1001] [.int (k+1:Nat),_] [0] [_,_,_,_] rfl ⟨Yw,trivial⟩ ?_))
 exact lpE (k+1) [0,1,2,3] ⟨by omega,ZZ f1_2 hb3⟩
 try simp at hb2
 refine ZB (nx (qs tb hJ [1000] [_] [_] ?_))
 exact Zg (rtn (m:=0) rfl rfl (eB (by first | (have:=Zdz (xs:=xs) (ys:=ys) (by omega) (fun j hj=>f1_2 j (by omega));simp[this];done) | (symm;rw[decide_eq_false_iff_not];intro e;subst e;simp_all;done))))
theorem Zif {J:World→Prop} (hJ:Stab J) (xs:List ByteArray) (b:xs.length*16≤140737488351232):FnM (ι:=Value) Tryz.prog J 33 [] [.rd (Zb xs)] [] (fun i'=>.lit (i')) (fun i'=>[OB.row i' 9 1 (xs.map Zav)]):=by
 refine Ya (N:=8) Tryz.func33 rfl rfl (lb rfl) fun S w0 R hS hJ0 hH=>?_
 refine Z8 (B:=St All (SO S (R)) w0 8 [(0,.rd (Zb xs))] (XO J S w0.heap.size (R))) ?_ fun a w h=>h
 refine ln 0 fun hl1=>?_
 refine qso tb hJ [0] [_] [_] ?_
 refine Zk (tsq ?_)
 refine snK 1 tb rfl ?_
 refine ZeD (f:=Zav) (xs:=xs) Zx rfl rfl rfl (lb rfl) (fun a w h=>(h.get 0 rfl)) fun g1 hg1=>?_
 refine seK [0,2] [_,_] rfl ?_
 refine nx (cj 0 (fun hb1=>?_) fun hb1=>?_)
 try simp at hb1
 refine qso tb hJ [1000] [_] [_] ?_
 refine tw (Yy 9 1 hJ) ?_
 refine tw (ob0 (congrArg (fun z'=>OB.row (.slice none 0 0) 9 1 ((z').map Zav)) (show([]:List ByteArray)=xs from by first | exact(hg1 (by assumption)).symm | simp))) ?_
 exact Zg (fun a w h=>ZS  (m:=0) (.slice none 0 0) rfl h rfl rfl)
 try simp at hb1
 refine Zc (nx (Zk (fun a w h=>ZeL (id:=3) (t:=22) (e:=9) (size:=1) (bytes:=16) (i0:=0) (fol:=3) (d:=2) (ch:=[(2,(xs.map Zav))]) (fun ix'=>([.any,.rd (Zb xs),.any,.any]:List AV).getD ix' .any) (fun ix'=>([true,true,true,true]:List Bool).getD ix' true) [] (xs.map Zav) (by simp) ?r3_1 hJ hJ0 h Yl rfl rfl rfl rfl ⟨?o3_1_0,⟨?o3_1_1,⟨?o3_1_2,⟨?o3_1_3,trivial⟩⟩⟩⟩ trivial (fun v2=>?n3_1))))
 case r3_1=>
  refine Row.mk' XV ⟨_,rfl,rfl,rfl,rfl,rfl⟩ ⟨?x3_1_0,trivial⟩ ⟨_,_,_,_,rfl,rfl,rfl,rfl,rfl,rfl,rfl,rfl,rfl⟩ rfl rfl rfl
  case x3_1_0=>exact⟨_,_,_,_,rfl,rfl,rfl,rfl,rfl,rfl,rfl,rfl,Zan (f:=Zav) (fun _=>rfl),(by have hm:maxLen=9223372036854775807:=rfl;simp[upto];first | omega | (simp;omega)),(by have hm:maxLen=9223372036854775807:=rfl;simp[upto];first | omega | (simp;omega)),fun _ _ _ _ _ hl=>(hl.D 1 6 rfl rfl)⟩
 exact fun h=>Zm rfl h
 exact fun _ _=>⟨rfl,fun _ _ _ hx hl _=>YA rfl (hl.env 1 0 _ rfl rfl) hx⟩
 exact fun h=>Zm rfl h
 exact fun h=>Zm rfl h
 clear a w h
 exact nx (Zg (fun a w h=>ZS  (m:=0) v2 rfl h rfl rfl))
theorem ZnY {J:World→Prop} (hJ:Stab J) (xs:List Hy) (b:xs.length*48≤140737488351232):FnM (ι:=Value) Tryz.prog J 69 [] [.rd (XW xs)] [] (fun i'=>.lit (i')) (fun i'=>[OB.row i' 66 3 (xs.map hyC)]):=by
 refine Ya (N:=8) Tryz.func69 rfl rfl (lb rfl) fun S w0 R hS hJ0 hH=>?_
 refine Z8 (B:=St All (SO S (R)) w0 8 [(0,.rd (XW xs))] (XO J S w0.heap.size (R))) ?_ fun a w h=>h
 refine ln 0 fun hl1=>?_
 refine qso tb hJ [0] [_] [_] ?_
 refine Zk (tsq ?_)
 refine snK 1 tb rfl ?_
 refine ZeD (f:=hyC) (xs:=xs) ZO rfl rfl rfl (lb rfl) (fun a w h=>(h.get 0 rfl)) fun g1 hg1=>?_
 refine seK [0,2] [_,_] rfl ?_
 refine nx (cj 0 (fun hb1=>?_) fun hb1=>?_)
 try simp at hb1
 refine qso tb hJ [1000] [_] [_] ?_
 refine tw (Yy 66 3 hJ) ?_
 refine tw (ob0 (congrArg (fun z'=>OB.row (.slice none 0 0) 66 3 ((z').map hyC)) (show([]:List Hy)=xs from by first | exact(hg1 (by assumption)).symm | simp))) ?_
 exact Zg (fun a w h=>ZS  (m:=0) (.slice none 0 0) rfl h rfl rfl)
 try simp at hb1
 refine Zc (nx (Zk (fun a w h=>ZeL (id:=3) (t:=67) (e:=66) (size:=3) (bytes:=48) (i0:=0) (fol:=3) (d:=2) (ch:=[(2,(xs.map hyC))]) (fun ix'=>([.any,.rd (XW xs),.any,.any]:List AV).getD ix' .any) (fun ix'=>([true,true,true,true]:List Bool).getD ix' true) [] (xs.map hyC) (by simp) ?r3_1 hJ hJ0 h Yl rfl rfl rfl rfl ⟨?o3_1_0,⟨?o3_1_1,⟨?o3_1_2,⟨?o3_1_3,trivial⟩⟩⟩⟩ trivial (fun v2=>?n3_1))))
 case r3_1=>
  refine Row.mk' ZdM ⟨_,rfl,rfl,rfl,rfl,rfl⟩ ⟨?x3_1_0,trivial⟩ ⟨_,_,_,_,rfl,rfl,rfl,rfl,rfl,rfl,rfl,rfl,rfl⟩ rfl rfl rfl
  case x3_1_0=>exact⟨_,_,_,_,rfl,rfl,rfl,rfl,rfl,rfl,rfl,rfl,Zan (f:=hyC) (fun _=>rfl),(by have hm:maxLen=9223372036854775807:=rfl;simp[upto];first | omega | (simp;omega)),(by have hm:maxLen=9223372036854775807:=rfl;simp[upto];first | omega | (simp;omega)),fun _ _ _ _ _ hl=>(hl.D 1 6 rfl rfl)⟩
 exact fun h=>Zm rfl h
 exact fun _ _=>⟨rfl,fun _ _ _ hx hl _=>YA rfl (hl.env 1 0 _ rfl rfl) hx⟩
 exact fun h=>Zm rfl h
 exact fun h=>Zm rfl h
 clear a w h
 exact nx (Zg (fun a w h=>ZS  (m:=0) v2 rfl h rfl rfl))
theorem ZnX {J:World→Prop} (hJ:Stab J) (xs:List Pr) (b:xs.length*32≤140737488351232):FnM (ι:=Value) Tryz.prog J 101 [] [.rd (QI xs)] [] (fun i'=>.lit (i')) (fun i'=>[OB.row i' 143 2 (xs.map prC)]):=by
 refine Ya (N:=8) Tryz.func101 rfl rfl (lb rfl) fun S w0 R hS hJ0 hH=>?_
 refine Z8 (B:=St All (SO S (R)) w0 8 [(0,.rd (QI xs))] (XO J S w0.heap.size (R))) ?_ fun a w h=>h
 refine ln 0 fun hl1=>?_
 refine qso tb hJ [0] [_] [_] ?_
 refine Zk (tsq ?_)
 refine snK 1 tb rfl ?_
 refine ZeD (f:=prC) (xs:=xs) Z6 rfl rfl rfl (lb rfl) (fun a w h=>(h.get 0 rfl)) fun g1 hg1=>?_
 refine seK [0,2] [_,_] rfl ?_
 refine nx (cj 0 (fun hb1=>?_) fun hb1=>?_)
 try simp at hb1
 refine qso tb hJ [1000] [_] [_] ?_
 refine tw (Yy 143 2 hJ) ?_
 refine tw (ob0 (congrArg (fun z'=>OB.row (.slice none 0 0) 143 2 ((z').map prC)) (show([]:List Pr)=xs from by first | exact(hg1 (by assumption)).symm | simp))) ?_
 exact Zg (fun a w h=>ZS  (m:=0) (.slice none 0 0) rfl h rfl rfl)
 try simp at hb1
 refine Zc (nx (Zk (fun a w h=>ZeL (id:=3) (t:=68) (e:=143) (size:=2) (bytes:=32) (i0:=0) (fol:=3) (d:=2) (ch:=[(2,(xs.map prC))]) (fun ix'=>([.any,.rd (QI xs),.any,.any]:List AV).getD ix' .any) (fun ix'=>([true,true,true,true]:List Bool).getD ix' true) [] (xs.map prC) (by simp) ?r3_1 hJ hJ0 h Yl rfl rfl rfl rfl ⟨?o3_1_0,⟨?o3_1_1,⟨?o3_1_2,⟨?o3_1_3,trivial⟩⟩⟩⟩ trivial (fun v2=>?n3_1))))
 case r3_1=>
  refine Row.mk' Zj4 ⟨_,rfl,rfl,rfl,rfl,rfl⟩ ⟨?x3_1_0,trivial⟩ ⟨_,_,_,_,rfl,rfl,rfl,rfl,rfl,rfl,rfl,rfl,rfl⟩ rfl rfl rfl
  case x3_1_0=>exact⟨_,_,_,_,rfl,rfl,rfl,rfl,rfl,rfl,rfl,rfl,Zan (f:=prC) (fun _=>rfl),(by have hm:maxLen=9223372036854775807:=rfl;simp[upto];first | omega | (simp;omega)),(by have hm:maxLen=9223372036854775807:=rfl;simp[upto];first | omega | (simp;omega)),fun _ _ _ _ _ hl=>(hl.D 1 6 rfl rfl)⟩
 exact fun h=>Zm rfl h
 exact fun _ _=>⟨rfl,fun _ _ _ hx hl _=>YA rfl (hl.env 1 0 _ rfl rfl) hx⟩
 exact fun h=>Zm rfl h
 exact fun h=>Zm rfl h
 clear a w h
 exact nx (Zg (fun a w h=>ZS  (m:=0) v2 rfl h rfl rfl))
theorem ZeS {J:World→Prop} (hJ:Stab J) (v:Value) (xs:List Hy) (f:FuncId) (caps:List AV) (Os:List OB) (Hs:List OB) (p:Hy→Bool) (hf:∀ q',FnR Tryz.prog J f (Os++Hs) ([.agg (hyC (q'))]++caps) (.bool (p q'))) (hk0:Zp Tryz.prog f) (hn:xs.length≤9223372036854775807):FnM (ι:=Unit) Tryz.prog J 68 Hs [.lit v,.fn f caps] (OB.row v 66 3 (xs.map hyC)::Os) (fun _=>.rd (XW (xs.filter fun x'=>!p x'))) (fun _=>(Os)):=by
 refine Ya (N:=42) Tryz.func68 rfl rfl (lb rfl) fun S w0 R hS hJ0 hH=>?_
 refine Z8 (B:=St All (SO S (OB.row v 66 3 (xs.map hyC)::(Os++R))) w0 42 [(0,.lit v),(1,.fn f caps)] (XO J S w0.heap.size (OB.row v 66 3 (xs.map hyC)::(Os++R)))) ?_ fun a w h=>h
 refine qso tb hJ [0,1] [_] [_,_] ?_
 refine ZpK tb hJ [0,1,1003] [_,_,.int (Z9 p xs),_] [2] [_,_,_] rfl ⟨fun _ _ hk hx hl _=>Xj (Zcr hJ (xs:=xs) (f:=f) (caps:=caps) (Os:=(Os++Hs)) (p:=p) (hf) (hk0)) Zmt rfl (nm hS hk) (hx.1) (Ze0 (fun _ ho=>ZcR hx (List.mem_cons_of_mem _ (List.mem_append_left _ ho))) (fun _ ho=>Zis hH hk hx ho)) (Za (QJ hS hx (mo 0 rfl) (hl.D 0 8 rfl rfl)) (Za (hl.D 1 9 rfl rfl) Ze)) (jo hJ hx),trivial⟩ ?_
 refine Zk (qso tb hJ [0,1,2,1001] [_,_] [_,_,_,_] ?_)
 refine cj 3 (fun hb1=>?_) fun hb1=>?_
 have e1:=of_decide_eq_true hb1
 refine qso tb hJ [1001] [_,_] [_] ?_
 refine tw (fun h=>Yr hS h (m:=0) (s:=4) rfl) ?_
 exact Zg (fun a w h=>ZS  (m:=0) () rfl h rfl (congrArg (fun z=>AV.rd (XW z)) (show xs=(xs.filter fun x'=>!p x')from by first | exact DelF.none e1 | exact f1_1.fin (by have:=f1_1.len;omega))))
 have e1:=of_decide_eq_false hb1
 refine Zc (nx (Zk (tw (sa 2 rfl (congrArg AV.int (show Z9 p xs=(((Z9 p xs).toNat:Nat):Int)from by have:=Qx e1;omega))) ?_)))
 refine ZN tb hJ [0,1,2,1002] [_,.int ((Z9 p xs).toNat+1:Nat),_] [1] [_,_,_,_] rfl ⟨Yw (h0:=by have:=(Qx e1).2.1;omega),trivial⟩ ?_
 refine Zf (lpo (ι:=Nat×Nat×(List Hy)×Value) (fun(i,j,ys,_)=>(DelF p xs ys i j)) (fun(_,_,ys,vo)=>(OB.row vo 66 3 (ys.map hyC)::(Os++R))) (fun(i,j,_,vo)=>[(5,.int (i:Nat)),(6,.int (j:Nat)),(0,.lit vo)]) (fun(_,j,_,_)=>xs.length-j) [1,2,3,0] [_] ((Z9 p xs).toNat,(Z9 p xs).toNat+1,xs,v) (show(DelF p xs xs ((Z9 p xs).toNat) ((Z9 p xs).toNat+1))from DelF.init e1) ?_)
 rintro⟨i,j,ys,vo⟩ hF
 have f1_1:DelF p xs ys i j:=hF
 refine Zk (ZpK tb hJ [0,1,2,3,1003] [_,_,.int (ys.length:Nat),_] [2] [_,_,_,_,_] rfl ⟨fun _ _ _ hx hl _=>ZbI ZO rfl (QJ hS hx (mo 0 rfl) (hl.D 1 17 rfl rfl)) hx,trivial⟩ ?_)
 refine cj 4 (fun hb2=>?_) fun hb2=>?_
 try simp at hb2
 refine Zc (nx (Zk (Zf (tsq ?_))))
 refine snK 2 tb rfl ?_
 refine sq (.lit (Xh vo (j*3))) rfl rfl (lb rfl) (fun _ _ h=>YV (i:=(j:Int)) ZK rfl (Zd h.x (mo 0 rfl)) (h.get 1 rfl) (h.get 0 rfl) (Int.natCast_nonneg _) (by rw[List.length_map];exact Int.ofNat_lt.2 (by omega)) h.x) ?_
 refine sq (.agg (hyC (ge ys j))) rfl rfl (lb rfl) (fun _ _ h=>X1 (i:=j) X7 rfl (Zd h.x (mo 0 rfl)) (h.get 0 rfl) (QG (xs:=ys) (k:=j) (by omega)) rfl h.x) ?_
 refine X8 (cs:=hyC (ge ys j)) ZaY rfl rfl rfl (lb rfl) rfl rfl rfl (by decide) (m:=0) rfl rfl (fun a w h=>Zq hS _ h.keep h.x _ (Nat.le_refl _)) (fun a w h w' hk'=>Yq hJ _ _ hk' h.x) ?_
 refine seK [0,5,6,7,8] [_,_,_,_,_] rfl ?_
 refine nx (ZN tb hJ [0,1,2,3,4,1003] [_,_,.bool (p (ge ys j)),_] [2] [_,_,_,_,_,_] rfl ⟨fun _ _ hk hx hl _=>ZcH (hf (ge ys j)) hk0 rfl (hl.D 0 26 rfl rfl) (Zq hS _ hk hx) (hx.1) (Ze0 (fun _ ho=>Zd hx (List.mem_cons_of_mem _ (List.mem_append_left _ ho))) (fun _ ho=>Ye hH hk hx ho)) (Za (hl.D 1 27 rfl rfl) Ze) (jo hJ hx),trivial⟩ ?_)
 refine cj 5 (fun hb3=>?_) fun hb3=>?_
 try simp at hb3
 refine tsq ?_
 refine snK 3 tb rfl ?_
 refine sq (.lit (Xh vo (i*3))) rfl rfl (lb rfl) (fun _ _ h=>YV (i:=(i:Int)) ZK rfl (Zd h.x (mo 0 rfl)) (h.get 2 rfl) (h.get 1 rfl) (Int.natCast_nonneg _) (by rw[List.length_map];exact Int.ofNat_lt.2 (by have:=f1_1.le;omega)) h.x) ?_
 refine QE (i:=i) hJ hJ0 YO rfl rfl rfl (by rw[List.length_map];exact(by have:=f1_1.le;omega)) rfl (fun a w h=>⟨(h.get 0 rfl),(h.get 1 rfl)⟩) ?_
 rw[show(ys.map hyC).set i (hyC (ge ys j))=(ys.set i (ge ys j)).map hyC from List.map_set.symm]
 refine seK [5,6,7,8] [_,_,_,_] rfl ?_
 refine nx (Y3 tb hJ [0,2,3,1002] [_,.int (i+1:Nat),_] [1] [_,_,_,_] rfl ⟨Yw (h0:=by have:=f1_1.le;have:=f1_1.len;omega),trivial⟩ ?_)
 refine nx (Y3 tb hJ [0,2,3,1002] [_,.int (j+1:Nat),_] [1] [_,_,_,_] rfl ⟨Yw (h0:=by have:=f1_1.lt;have:=f1_1.len;omega),trivial⟩ ?_)
 exact XB (i+1,j+1,ys.set i (ge ys j),vo) [0,2,3,1] (show(DelF p xs (ys.set i (ge ys j)) (i+1) (j+1))from f1_1.keep (by have:=f1_1.len;omega) (by simpa using hb3)) (hm:=(show xs.length-(j+1)<xs.length-j from by have:=f1_1.lt;have:=f1_1.len;omega))
 try simp at hb3
 refine Zc (nx (Y3 tb hJ [1,2,4,1002] [_,.int (j+1:Nat),_] [1] [_,_,_,_] rfl ⟨Yw (h0:=by have:=f1_1.lt;have:=f1_1.len;omega),trivial⟩ ?_))
 exact XB (i,j+1,ys,vo) [0,1,3,2] (show(DelF p xs ys i (j+1))from f1_1.skip (by have:=f1_1.len;omega) (by simpa using hb3)) (hm:=(show xs.length-(j+1)<xs.length-j from by have:=f1_1.lt;have:=f1_1.len;omega))
 try simp at hb2
 refine ZB (nx (tsq ?_))
 refine snK 2 tb rfl ?_
 refine sq (.lit (Zd8 vo i 3)) rfl rfl (lb rfl) (fun _ _ h=>ZfI (lo:=i) ZK rfl (Zd h.x (mo 0 rfl)) (h.get 1 rfl) (h.get 0 rfl) (by rw[List.length_map];exact(by have:=f1_1.le;have:=f1_1.lt;have:=f1_1.len;omega)) h.x) ?_
 refine ZeE (lo:=i) ZiU ZO (by decide) hJ hJ0 rfl rfl rfl (by rw[List.length_map];exact(by have:=f1_1.le;have:=f1_1.lt;have:=f1_1.len;omega)) (fun a w h=>(h.get 0 rfl)) ?_
 rw[←List.map_take]
 refine seK [4,6] [_,_] rfl ?_
 refine nx (ZN tb hJ [1003] [_,_,.lit (ZaU vo i),_] [2] [_] rfl ⟨fun _ _ _ hx hl _=>ZfK (m:=i) ZK rfl (Zd hx (mo 0 rfl)) (by first | rfl | (rw[List.length_map];exact(by have:=f1_1.le;have:=f1_1.lt;have:=f1_1.len;simp;omega))) (hl.D 0 39 rfl rfl) (hl.D 1 40 rfl rfl) hx,trivial⟩ ?_)
 refine tw (fun h=>Yr hS h (m:=0) (s:=4) rfl) ?_
 exact Zg (fun a w h=>ZS  (m:=0) () rfl h rfl (congrArg (fun z=>AV.rd (XW z)) (show(ys.take i)=(xs.filter fun x'=>!p x')from by first | exact DelF.none e1 | exact f1_1.fin (by have:=f1_1.len;omega))))
theorem ZeR {J:World→Prop} (hJ:Stab J) (v:Value) (xs:List Pr) (f:FuncId) (caps:List AV) (Os:List OB) (Hs:List OB) (p:Pr→Bool) (hf:∀ q',FnR Tryz.prog J f (Os++Hs) ([.agg (prC (q'))]++caps) (.bool (p q'))) (hk0:Zp Tryz.prog f) (hn:xs.length≤9223372036854775807):FnM (ι:=Unit) Tryz.prog J 100 Hs [.lit v,.fn f caps] (OB.row v 143 2 (xs.map prC)::Os) (fun _=>.rd (QI (xs.filter fun x'=>!p x'))) (fun _=>(Os)):=by
 refine Ya (N:=42) Tryz.func100 rfl rfl (lb rfl) fun S w0 R hS hJ0 hH=>?_
 refine Z8 (B:=St All (SO S (OB.row v 143 2 (xs.map prC)::(Os++R))) w0 42 [(0,.lit v),(1,.fn f caps)] (XO J S w0.heap.size (OB.row v 143 2 (xs.map prC)::(Os++R)))) ?_ fun a w h=>h
 refine qso tb hJ [0,1] [_] [_,_] ?_
 refine ZpK tb hJ [0,1,1003] [_,_,.int (Z9 p xs),_] [2] [_,_,_] rfl ⟨fun _ _ hk hx hl _=>Xj (ZfT hJ (xs:=xs) (f:=f) (caps:=caps) (Os:=(Os++Hs)) (p:=p) (hf) (hk0)) ZoS rfl (nm hS hk) (hx.1) (Ze0 (fun _ ho=>ZcR hx (List.mem_cons_of_mem _ (List.mem_append_left _ ho))) (fun _ ho=>Zis hH hk hx ho)) (Za (QJ hS hx (mo 0 rfl) (hl.D 0 8 rfl rfl)) (Za (hl.D 1 9 rfl rfl) Ze)) (jo hJ hx),trivial⟩ ?_
 refine Zk (qso tb hJ [0,1,2,1001] [_,_] [_,_,_,_] ?_)
 refine cj 3 (fun hb1=>?_) fun hb1=>?_
 have e1:=of_decide_eq_true hb1
 refine qso tb hJ [1001] [_,_] [_] ?_
 refine tw (fun h=>Yr hS h (m:=0) (s:=4) rfl) ?_
 exact Zg (fun a w h=>ZS  (m:=0) () rfl h rfl (congrArg (fun z=>AV.rd (QI z)) (show xs=(xs.filter fun x'=>!p x')from by first | exact DelF.none e1 | exact f1_1.fin (by have:=f1_1.len;omega))))
 have e1:=of_decide_eq_false hb1
 refine Zc (nx (Zk (tw (sa 2 rfl (congrArg AV.int (show Z9 p xs=(((Z9 p xs).toNat:Nat):Int)from by have:=Qx e1;omega))) ?_)))
 refine ZN tb hJ [0,1,2,1002] [_,.int ((Z9 p xs).toNat+1:Nat),_] [1] [_,_,_,_] rfl ⟨Yw (h0:=by have:=(Qx e1).2.1;omega),trivial⟩ ?_
 refine Zf (lpo (ι:=Nat×Nat×(List Pr)×Value) (fun(i,j,ys,_)=>(DelF p xs ys i j)) (fun(_,_,ys,vo)=>(OB.row vo 143 2 (ys.map prC)::(Os++R))) (fun(i,j,_,vo)=>[(5,.int (i:Nat)),(6,.int (j:Nat)),(0,.lit vo)]) (fun(_,j,_,_)=>xs.length-j) [1,2,3,0] [_] ((Z9 p xs).toNat,(Z9 p xs).toNat+1,xs,v) (show(DelF p xs xs ((Z9 p xs).toNat) ((Z9 p xs).toNat+1))from DelF.init e1) ?_)
 rintro⟨i,j,ys,vo⟩ hF
 have f1_1:DelF p xs ys i j:=hF
 refine Zk (ZpK tb hJ [0,1,2,3,1003] [_,_,.int (ys.length:Nat),_] [2] [_,_,_,_,_] rfl ⟨fun _ _ _ hx hl _=>ZbI Z6 rfl (QJ hS hx (mo 0 rfl) (hl.D 1 17 rfl rfl)) hx,trivial⟩ ?_)
 refine cj 4 (fun hb2=>?_) fun hb2=>?_
 try simp at hb2
 refine Zc (nx (Zk (Zf (tsq ?_))))
 refine snK 2 tb rfl ?_
 refine sq (.lit (Xh vo (j*2))) rfl rfl (lb rfl) (fun _ _ h=>YV (i:=(j:Int)) ZC rfl (Zd h.x (mo 0 rfl)) (h.get 1 rfl) (h.get 0 rfl) (Int.natCast_nonneg _) (by rw[List.length_map];exact Int.ofNat_lt.2 (by omega)) h.x) ?_
 refine sq (.agg (prC (ge ys j))) rfl rfl (lb rfl) (fun _ _ h=>X1 (i:=j) YZ rfl (Zd h.x (mo 0 rfl)) (h.get 0 rfl) (QG (xs:=ys) (k:=j) (by omega)) rfl h.x) ?_
 refine X8 (cs:=prC (ge ys j)) Zc2 rfl rfl rfl (lb rfl) rfl rfl rfl (by decide) (m:=0) rfl rfl (fun a w h=>Zq hS _ h.keep h.x _ (Nat.le_refl _)) (fun a w h w' hk'=>Yq hJ _ _ hk' h.x) ?_
 refine seK [0,5,6,7,8] [_,_,_,_,_] rfl ?_
 refine nx (ZN tb hJ [0,1,2,3,4,1003] [_,_,.bool (p (ge ys j)),_] [2] [_,_,_,_,_,_] rfl ⟨fun _ _ hk hx hl _=>ZcH (hf (ge ys j)) hk0 rfl (hl.D 0 26 rfl rfl) (Zq hS _ hk hx) (hx.1) (Ze0 (fun _ ho=>Zd hx (List.mem_cons_of_mem _ (List.mem_append_left _ ho))) (fun _ ho=>Ye hH hk hx ho)) (Za (hl.D 1 27 rfl rfl) Ze) (jo hJ hx),trivial⟩ ?_)
 refine cj 5 (fun hb3=>?_) fun hb3=>?_
 try simp at hb3
 refine tsq ?_
 refine snK 3 tb rfl ?_
 refine sq (.lit (Xh vo (i*2))) rfl rfl (lb rfl) (fun _ _ h=>YV (i:=(i:Int)) ZC rfl (Zd h.x (mo 0 rfl)) (h.get 2 rfl) (h.get 1 rfl) (Int.natCast_nonneg _) (by rw[List.length_map];exact Int.ofNat_lt.2 (by have:=f1_1.le;omega)) h.x) ?_
 refine QE (i:=i) hJ hJ0 Y0 rfl rfl rfl (by rw[List.length_map];exact(by have:=f1_1.le;omega)) rfl (fun a w h=>⟨(h.get 0 rfl),(h.get 1 rfl)⟩) ?_
 rw[show(ys.map prC).set i (prC (ge ys j))=(ys.set i (ge ys j)).map prC from List.map_set.symm]
 refine seK [5,6,7,8] [_,_,_,_] rfl ?_
 refine nx (Y3 tb hJ [0,2,3,1002] [_,.int (i+1:Nat),_] [1] [_,_,_,_] rfl ⟨Yw (h0:=by have:=f1_1.le;have:=f1_1.len;omega),trivial⟩ ?_)
 refine nx (Y3 tb hJ [0,2,3,1002] [_,.int (j+1:Nat),_] [1] [_,_,_,_] rfl ⟨Yw (h0:=by have:=f1_1.lt;have:=f1_1.len;omega),trivial⟩ ?_)
 exact XB (i+1,j+1,ys.set i (ge ys j),vo) [0,2,3,1] (show(DelF p xs (ys.set i (ge ys j)) (i+1) (j+1))from f1_1.keep (by have:=f1_1.len;omega) (by simpa using hb3)) (hm:=(show xs.length-(j+1)<xs.length-j from by have:=f1_1.lt;have:=f1_1.len;omega))
 try simp at hb3
 refine Zc (nx (Y3 tb hJ [1,2,4,1002] [_,.int (j+1:Nat),_] [1] [_,_,_,_] rfl ⟨Yw (h0:=by have:=f1_1.lt;have:=f1_1.len;omega),trivial⟩ ?_))
 exact XB (i,j+1,ys,vo) [0,1,3,2] (show(DelF p xs ys i (j+1))from f1_1.skip (by have:=f1_1.len;omega) (by simpa using hb3)) (hm:=(show xs.length-(j+1)<xs.length-j from by have:=f1_1.lt;have:=f1_1.len;omega))
 try simp at hb2
 refine ZB (nx (tsq ?_))
 refine snK 2 tb rfl ?_
 refine sq (.lit (Zd8 vo i 2)) rfl rfl (lb rfl) (fun _ _ h=>ZfI (lo:=i) ZC rfl (Zd h.x (mo 0 rfl)) (h.get 1 rfl) (h.get 0 rfl) (by rw[List.length_map];exact(by have:=f1_1.le;have:=f1_1.lt;have:=f1_1.len;omega)) h.x) ?_
 refine ZeE (lo:=i) ZcY Z6 (by decide) hJ hJ0 rfl rfl rfl (by rw[List.length_map];exact(by have:=f1_1.le;have:=f1_1.lt;have:=f1_1.len;omega)) (fun a w h=>(h.get 0 rfl)) ?_
 rw[←List.map_take]
 refine seK [4,6] [_,_] rfl ?_
 refine nx (ZN tb hJ [1003] [_,_,.lit (ZaU vo i),_] [2] [_] rfl ⟨fun _ _ _ hx hl _=>ZfK (m:=i) ZC rfl (Zd hx (mo 0 rfl)) (by first | rfl | (rw[List.length_map];exact(by have:=f1_1.le;have:=f1_1.lt;have:=f1_1.len;simp;omega))) (hl.D 0 39 rfl rfl) (hl.D 1 40 rfl rfl) hx,trivial⟩ ?_)
 refine tw (fun h=>Yr hS h (m:=0) (s:=4) rfl) ?_
 exact Zg (fun a w h=>ZS  (m:=0) () rfl h rfl (congrArg (fun z=>AV.rd (QI z)) (show(ys.take i)=(xs.filter fun x'=>!p x')from by first | exact DelF.none e1 | exact f1_1.fin (by have:=f1_1.len;omega))))
end Go.Proofs.YtdgbcfloaenhbaaGreatDoor
