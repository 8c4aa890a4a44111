/- joined texts -/
import Derived.Test.YtkfpmjjcogigfaaGreatDoorW14
set_option linter.all false
namespace Go.Wk
open Go.Proofs
set_option linter.unusedSectionVars false
variable [Lw]
set_option maxRecDepth 10000
section
theorem zsY:zaF e0=false:=by decide +kernel
structure zvB(x:EvT):Prop where
 k:1≤x.k∧x.k≤6
 t:x.k=6↔x.t=e0
 n:x.k≠6→zaF x.t=true∧x.m=[]
 s:x.k≠4→x.s=zcm
 o:x.k=2∨x.k=3→zhM x.o=true
 no:¬(x.k=2∨x.k=3)→x.o=[]
 w:x.k=1∨x.k=2→zhM x.w=true
 nw:¬(x.k=1∨x.k=2)→x.w=[]
 e:x.k=2→x.o.length=x.w.length
 r:x.k=4→zaq x.s=true
 m:x.k=6→zdZ x.m=true
theorem zvN{x:EvT}:z9 x=true↔zvB x:=by
 constructor
 ·intro h
  obtain⟨h1,h2,h3,h4⟩:=zeA h
  obtain⟨k,t,s,o,w,m⟩:=x
  simp only[yz,EvT.mk.injEq]at h2
  obtain⟨-,e1,e2,e3,e4,e5⟩:=h2
  simp only[zei]at h3
  simp only at h1 h4
  have hk:k=1∨k=2∨k=3∨k=4∨k=5∨k=6:=by omega
  rcases hk with rfl|rfl|rfl|rfl|rfl|rfl<;>simp at h3 e1 e2 e3 e4 e5 h4<;>constructor<;>simp_all<;>intro h<;>rw[h,zsY]at h3<;>simp at h3
 intro h
 obtain⟨h1,h2,h3,h4,h5,h6,h7,h8,h9,h10,h11⟩:=h
 obtain⟨k,t,s,o,w,m⟩:=x
 simp only at *
 have hk:k=1∨k=2∨k=3∨k=4∨k=5∨k=6:=by omega
 rcases hk with rfl|rfl|rfl|rfl|rfl|rfl<;>simp at h2 h3 h4 h5 h6 h7 h8 h9 h10 h11<;>refine zcV (by simp) ?_ ?_ ?_<;>simp_all[yz,zei]
end
end Go.Wk
