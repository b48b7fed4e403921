/-
  CONTRACT: slices.Clip at rows of texts' slices.
-/
import Derived.Test.YtneapgbkkkjagaaGreatDoorYW
namespace Go.Proofs.YtneapgbkkkjagaaGreatDoor
open Go.RowKit
theorem clip_c (ad:Option Addr) (n cap:Nat) (hn:n≤cap) (w:World):Calls Tryz.prog 148 #[.slice ad n cap] w fun e w'=>e= .returned (.slice ad n n)∧w'=w:=by
 go_enter Tryz.func148,Tryz.ntmps148
 go_wp2
 simp[bodyPost,results,Tryz.results148]
theorem p_Clip {J:WP} (_:Stab J) (v:Value) (e:TypeId) (rows:List (List CD)):FnM (ι:=Unit) Tryz.prog J 148 [] [.lit v] [OB.row v e 1 rows] (fun _=>.lit (Zfp v)) (fun _=>[OB.clp (Zfp v) rows]):=by
 intro S w0 R w vs hS hJ0 hH hk hx ha
 simp only[RelL]at ha
 obtain⟨u,us,rfl,hv,rfl⟩:=ha
 obtain rfl:=hv.lit
 have hok:=hv.okl
 have hform:∃ ad cap,u= .slice ad rows.length cap∧rows.length≤cap:=by
  obtain⟨us,⟨_,h3⟩,_⟩:=hx.2.1 (OB.row u e 1 rows) yz
  rcases h3 with⟨rfl,h4⟩ | ⟨g,cap,cur,rfl,_,_,h5,_⟩
  · exact⟨none,0,by rw[h4],oz⟩
  · exact⟨_,cap,rfl,h5⟩
 have hs:=Zut (O:=R) hS hk hx
 obtain⟨ad,cap,rfl,hle⟩:=hform
 refine(clip_c ad rows.length cap hle w).mono ?_
 rintro en w' ⟨rfl,rfl⟩
 exact⟨(),_,rfl,Rel.of_lit _ True.intro,hs.1,hs.2.1⟩
end Go.Proofs.YtneapgbkkkjagaaGreatDoor
