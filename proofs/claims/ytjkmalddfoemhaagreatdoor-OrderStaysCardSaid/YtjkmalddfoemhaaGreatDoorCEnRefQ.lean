/- The reference's ways with spans come to the same normal forms. No program in sight. -/
import Derived.Test.YtjkmalddfoemhaaGreatDoorJ1
namespace Go.Proofs.YtjkmalddfoemhaaGreatDoor
open Go
end Go.Proofs.YtjkmalddfoemhaaGreatDoor
namespace Go.Proofs.YtjkmalddfoemhaaGreatDoor
open Go
structure Sp.Mk (s:Sp):Prop where
 mark:0<=s.mark/\s.mark<=1073741824
 fr:0<=s.fr/\s.fr<=1048576
 to:s.to<=1048576
theorem Sp.Ok.mk {s:Sp} (h:s.Ok):s.Mk:=by unfold Sp.Ok at h;exact ⟨by omega,by omega,by omega⟩
end Go.Proofs.YtjkmalddfoemhaaGreatDoor
namespace Go.Proofs.YtjkmalddfoemhaaGreatDoor
open Go
def toP (n most:Int):Prop:=0<=n/\n<=most
instance (n m:Int):Decidable (toP n m):=by unfold toP;exact inferInstance
def ascTo (l:List Int) (most:Int):Prop:=(∀ x∈l,toP x most)/\ascP l
instance (l:List Int) (m:Int):Decidable (ascTo l m):=by unfold ascTo;exact inferInstance
def refR (e:En):Prop:=if e.ref=-1 then 114∉useF e.kind\/e.kind=7\/e.kind=8\/e.kind=18\/e.kind=19 else toP e.ref 1073741824
instance (e:En):Decidable (refR e):=by unfold refR;exact inferInstance
def nR (e:En):Prop :=
 if e.kind=3\/e.kind=4 then 1<=e.n/\e.n<=1048576
 else if e.kind=8 then (e.n=-1/\e.ref≠-1)\/(e.ref=-1/\toP e.n 1099511627776)
 else if e.kind=9 then toP e.n 1099511627776
 else if e.kind=10 then 1<=e.n/\e.n<=1099511627776
 else if e.kind=12 then toP e.n 1
 else if e.kind=15 then toP e.n 199/\e.n≠e.who
 else toP e.n 1048576
instance (e:En):Decidable (nR e):=by
 unfold nR
 repeat (first | exact inferInstance | split)
def mR (e:En):Prop:=if e.kind=16 then toP e.m 1073741824/\e.m≠e.circle else toP e.m 1048576
instance (e:En):Decidable (mR e):=by unfold mR;exact inferInstance
structure RightR (e:En):Prop where
 author:toP e.author 199
 seq:toP e.seq 1048575
 day:toP e.day 1048576
 kind:toP e.kind 20
 plain:plainP e
 knows:e.knows.length<=40/\ascTo e.knows 1073741824
 circle:toP e.circle 1073741824
 who:toP e.who 199
 text:e.text.length<=2000
 keys:107∈useF e.kind->1<=e.keys.length/\e.keys.length<=60/\ascTo e.keys 199
 spans:115∈useF e.kind->1<=e.spans.length/\e.spans.length<=40/\nrmP e.spans
 ref:refR e
 n:nR e
 m:mR e
theorem headD_mem {l:List Int} (h:l≠[]):l.headD 0∈l:=by
 cases l with
 | nil=>exact absurd rfl h
 | cons a r=>exact List.mem_cons_self
theorem lastD_mem {l:List Int} (h:l≠[]):l.getLastD 0∈l:=by
 cases l with
 | nil=>exact absurd rfl h
 | cons a r=>rw [List.getLastD_cons];exact List.getLastD_mem_cons
theorem ascTo_iff {l:List Int} {most:Int} (h:l≠[]):ascTo l most↔ascP l/\toP (l.headD 0) most/\toP (l.getLastD 0) most:=by
 unfold ascTo
 constructor
 · rintro ⟨h1,h2⟩
   exact ⟨h2,h1 _ (headD_mem h),h1 _ (lastD_mem h)⟩
 · rintro ⟨h1,h2,h3⟩
   refine ⟨fun x hx=>?_,h1⟩
   have:=asc_between h1 x hx
   unfold toP at *
   omega
theorem kinds {k:Int} (h:0<=k/\k<21):k=0\/k=1\/k=2\/k=3\/k=4\/k=5\/k=6\/k=7\/k=8\/k=9\/k=10\/k=11\/k=12\/k=13\/k=14\/k=15\/k=16\/k=17\/k=18\/k=19\/k=20:=by omega
theorem key_use {k:Int} (h:0<=k/\k<21):(107:UInt8)∈useF k↔(k=0\/k=17):=by
 rcases kinds h with rfl | rfl | rfl | rfl | rfl | rfl | rfl | rfl | rfl | rfl | rfl | rfl | rfl | rfl | rfl | rfl | rfl | rfl | rfl | rfl | rfl<;>decide
theorem span_use {k:Int} (h:0<=k/\k<21):(115:UInt8)∈useF k↔(k=5\/k=6\/k=7):=by
 rcases kinds h with rfl | rfl | rfl | rfl | rfl | rfl | rfl | rfl | rfl | rfl | rfl | rfl | rfl | rfl | rfl | rfl | rfl | rfl | rfl | rfl | rfl<;>decide
theorem ref_use {k:Int} (h:0<=k/\k<21):(114:UInt8)∈useF k↔(k=4\/k=7\/k=8\/k=9\/k=11\/k=12\/k=13\/k=18\/k=19\/k=20):=by
 rcases kinds h with rfl | rfl | rfl | rfl | rfl | rfl | rfl | rfl | rfl | rfl | rfl | rfl | rfl | rfl | rfl | rfl | rfl | rfl | rfl | rfl | rfl<;>decide
theorem n_use {k:Int} (h:0<=k/\k<21):(110:UInt8)∈useF k↔(k=3\/k=4\/k=8\/k=9\/k=10\/k=12\/k=15\/k=18\/k=19\/k=20):=by
 rcases kinds h with rfl | rfl | rfl | rfl | rfl | rfl | rfl | rfl | rfl | rfl | rfl | rfl | rfl | rfl | rfl | rfl | rfl | rfl | rfl | rfl | rfl<;>decide
theorem m_use {k:Int} (h:0<=k/\k<21):(109:UInt8)∈useF k↔(k=3\/k=6\/k=7\/k=8\/k=10\/k=16\/k=18\/k=19\/k=20):=by
 rcases kinds h with rfl | rfl | rfl | rfl | rfl | rfl | rfl | rfl | rfl | rfl | rfl | rfl | rfl | rfl | rfl | rfl | rfl | rfl | rfl | rfl | rfl<;>decide
theorem nums_iff {e:En} (hk:0<=e.kind/\e.kind<21) (hp:plainP e):numbersP e↔refR e/\nR e/\mR e:=by
 obtain ⟨_,_,p3,p4,p5,_⟩:=hp
 rw [n_use hk] at p3
 rw [m_use hk] at p4
 rw [ref_use hk] at p5
 unfold numbersP refR nR mR
 rw [ref_use hk]
 unfold toP markP dayP keyP coinsP
 obtain ⟨au,sq,dy,kn,kind,ci,who,n,m,ref,ks,sp,tx⟩:=e
 dsimp only at *
 rcases kinds hk with rfl | rfl | rfl | rfl | rfl | rfl | rfl | rfl | rfl | rfl | rfl | rfl | rfl | rfl | rfl | rfl | rfl | rfl | rfl | rfl | rfl<;>simp at p3 p4 p5 ⊢<;>(try subst p3)<;>(try subst p4)<;>(try subst p5)<;>(try simp)<;>(try split)<;>omega
theorem rightR_iff (e:En):RightR e↔RightE e:=by
 constructor
 · intro h
   have hk:0<=e.kind/\e.kind<21:=by have:=h.kind;unfold toP at this;omega
   refine ⟨?_,?_,h.day,hk,h.plain,⟨h.knows.1,h.knows.2.2,fun hne=>?_⟩,fun h5=>?_,fun h5=>?_,h.text,h.circle,?_,(nums_iff hk h.plain).2 ⟨h.ref,h.n,h.m⟩⟩
   · have:=h.author;unfold toP at this;unfold keyP;omega
   · have:=h.seq;unfold toP at this;omega
   · obtain ⟨_,h1,h2⟩:=(ascTo_iff hne).1 h.knows.2
     exact ⟨h1,h2⟩
   · obtain ⟨h1,h2,h3⟩:=h.spans ((span_use hk).2 h5)
     exact ⟨List.length_pos_iff.1 h1,h2,h3⟩
   · obtain ⟨h1,h2,h3⟩:=h.keys ((key_use hk).2 h5)
     have hne:=List.length_pos_iff.1 h1
     obtain ⟨h4,h6,h7⟩:=(ascTo_iff hne).1 h3
     unfold toP at h6 h7
     refine ⟨hne,h2,h4,?_,?_⟩<;>unfold keyP<;>omega
   · have:=h.who;unfold toP at this;unfold keyP;omega
 · intro h
   have hk:=h.kind
   obtain ⟨g1,g2,g3⟩:=(nums_iff hk h.plain).1 h.numbers
   refine ⟨?_,?_,h.day,?_,h.plain,⟨h.knows.1,?_⟩,h.circle,?_,h.text,fun h5=>?_,fun h5=>?_,g1,g2,g3⟩
   · have:=h.author;unfold keyP at this;unfold toP;omega
   · have:=h.seq;unfold toP;omega
   · unfold toP;omega
   · by_cases hne:e.knows=[]
     · rw [hne];exact ⟨fun x hx=>(nomatch hx),trivial⟩
     · obtain ⟨h1,h2⟩:=h.knows.2.2 hne
       exact (ascTo_iff hne).2 ⟨h.knows.2.1,h1,h2⟩
   · have:=h.who;unfold keyP at this;unfold toP;omega
   · obtain ⟨h1,h2,h3,h4,h6⟩:=h.keys ((key_use hk).1 h5)
     unfold keyP at h4 h6
     exact ⟨List.length_pos_iff.2 h1,h2,(ascTo_iff h1).2 ⟨h3,by unfold toP;omega,by unfold toP;omega⟩⟩
   · obtain ⟨h1,h2,h3⟩:=h.spans ((span_use hk).1 h5)
     exact ⟨List.length_pos_iff.2 h1,h2,h3⟩
end Go.Proofs.YtjkmalddfoemhaaGreatDoor
