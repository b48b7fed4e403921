/-
  THE ENGINE: a part of an element of an own row; a store there that changes nothing.
  THE REFERENCE's RUN AND THE PROGRAM's (plain).
-/
import Derived.Test.YtaigaoflehfdcaaGreatDoorZGAA
import Derived.Laws.Pointers
namespace Go.Proofs.YtaigaoflehfdcaaGreatDoor
open Go.RowKit
section
variable {n:Rn} {N:Nat} {P:Program} {J X:WP} {S S' S'':Nat→Prop} {O:List OB} {w0:World} {env:List (Nat×AV)} {Q:Exit→Act→WP}
variable {o:Oper} {a:Act} {w:World} {x y:Operand} {t e:TypeId} {v:Value} {k:Nat} {rows:List (List CD)}
end
theorem ZqA {J:WP} {S S':Nat→Prop} {O:List OB} {w0:World} {n:Rn} {P:Program} {o:Oper} {a:Act} {w:World} {x y:Operand} {t:TypeId} {b off:Nat} {cs es:List CD} {c:CD} (hJ:Stab J) (hJ0:J w0) (hs:Qd P t 1) (hop:o.op= .store t x y) (hk0:Keeps All w0 w) (hx:XO J S w0.heap.size (OB.var b cs::O) w) (h1:Rel S' w (.at b off) (a.eval x))
 (h2:Rel (SO S (OB.var b cs::O)) w (.rd c) (a.eval y)) (hl:off+1≤cs.length) (he:cs.take off++[c]++cs.drop (off+1)=es):Yr n P o a w fun _ w'=>ZdJ J S w0 (OB.var b cs::O) w (OB.var b es::O) w':=by
 have h2':=h2
 simp only[Rel]at h2'
 exact X8 (news:=[c]) (us:=[a.eval y]) hJ hJ0 hs hop hk0 hx h1 (by rw[ZcD h2'.one]) ⟨h2',trivial⟩ hl he
end Go.Proofs.YtaigaoflehfdcaaGreatDoor
namespace Go.Proofs.YtaigaoflehfdcaaGreatDoor
section
variable {d:Db} {i:Nat} {t:List BA}
section
variable {f:Fr}
variable (h0:Zoe t=true)
include h0
variable (h2:¬ (letE t).2.2=20)
include h2
variable (h3:(f.hyps.any fun h=>decide (h.label∈cutL t))=false)
include h3
variable (h4:¬ (letE t).2.2=21)
include h4
end
end
section
variable {d:Db} {i:Nat} {r:Ri} {x:Itm} {gv sk tg:List (List BA)} {tgs:List Int}
end
section
variable {fs:List Fr} {vars:List BA} {f:Fr} {xs:List Itm}
structure Rs where
 sk:List (List BA)
 n:Nat
 kn:Bool
 v:Int×Int
instance instInhRs:Inhabited Rs:=⟨⟨[],0,false,(0,0)⟩⟩
def rsOf (m:Ms):Rs:=⟨m.sk,m.n,m.kn,m.v⟩
end
structure RunI (d:Db) (i:Nat) (t:List BA) (n:Nat) (sk gv:List (List BA)):Prop where
 le:n≤(Znz d i t).length
 st:rsOf (runM d.frames d.vars (ge d.frames i) (Znz d i t) n (mchV d i t))=⟨sk,n,decide (n=(Znz d i t).length),if n=(Znz d i t).length then endD (ge d.frames i) sk n else(0,0)⟩
 tg:(runM d.frames d.vars (ge d.frames i) (Znz d i t) n (mchV d i t)).tg=(tagL ((Znz d i t).take n) 0).map fun z=>ge gv z.toNat
 gl:gv.length=n
 inv:InvM (Znz d i t) (runM d.frames d.vars (ge d.frames i) (Znz d i t) n (mchV d i t))
section
variable {d:Db} {i n:Nat} {t:List BA} {sk gv:List (List BA)} {r:Ri}
variable (hI:RunI d i t n sk gv) (hn:n< (Znz d i t).length)
include hI hn
variable (hc:ZbN d=0) (hi:i<d.frames.length) (hr:RelI (ge d.frames i) (namL (d.frames.take i)) (tagL ((Znz d i t).take n) 0) (ge (Znz d i t) n) r)
include hc hi hr
end
section
variable {d:Db} {i n most:Nat} {t:List BA} {sk gv:List (List BA)} {r:Ri}
end
section
variable {d:Db} {i n most:Nat} {t:List BA} {sk gv:List (List BA)} {r:Ri}
end
end Go.Proofs.YtaigaoflehfdcaaGreatDoor
