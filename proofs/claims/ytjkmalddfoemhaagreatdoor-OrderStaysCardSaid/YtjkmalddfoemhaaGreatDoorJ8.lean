/- Walks: the law's small examples, and its helpers on spans. -/
import Derived.Test.YtjkmalddfoemhaaGreatDoorJ2
import Derived.Test.YtjkmalddfoemhaaGreatDoorJ5
import Derived.Test.YtjkmalddfoemhaaGreatDoorCEnRead
namespace Go.Proofs.YtjkmalddfoemhaaGreatDoor
open Go.RowKit Go.Deep
end Go.Proofs.YtjkmalddfoemhaaGreatDoor
namespace Go.Proofs.YtjkmalddfoemhaaGreatDoor
open Go.RowKit Go.Deep
theorem spwf {a b c:Int} (h1:0<=a/\a<=100) (h2:0<=b/\b<=100) (h3:0<=c/\c<=100):SpWf ⟨a,b,c⟩:=⟨iwf (by dsimp only;omega),iwf (by dsimp only;omega),iwf (by dsimp only;omega)⟩
def smallS (l:List Sp):Prop:=∀ s∈l,(0<=s.mark/\s.mark<=100)/\(0<=s.fr/\s.fr<=100)/\(0<=s.to/\s.to<=100)
instance (l:List Sp):Decidable (smallS l):=by unfold smallS;exact inferInstance
theorem smallS.wf {l:List Sp} (h:smallS l):∀ s∈l,SpWf s:=fun s hs=>spwf (h s hs).1 (h s hs).2.1 (h s hs).2.2
end Go.Proofs.YtjkmalddfoemhaaGreatDoor
namespace Go.Proofs.YtjkmalddfoemhaaGreatDoor
open Go.RowKit Go.Deep
end Go.Proofs.YtjkmalddfoemhaaGreatDoor
namespace Go.Proofs.YtjkmalddfoemhaaGreatDoor
open Go.RowKit Go.Deep
structure EnOk (e:En):Prop where
 author:I64 e.author
 seq:I64 e.seq
 day:I64 e.day
 kind:I64 e.kind
 circle:I64 e.circle
 who:I64 e.who
 n:I64 e.n
 m:I64 e.m
 ref:I64 e.ref
 knows:∀ x∈e.knows,I64 x
 keys:∀ x∈e.keys,I64 x
 text:e.text.length<=maxLen
theorem ints_wf {A:Nat->Prop} {w:World} {v:Value} {l:List Int} (h:kInts.rep A w [v] l):∀ x∈l,I64 x:=by
 obtain ⟨_,_,_,_,_,h3⟩:=slice_open h
 intro x hx
 obtain ⟨i,hi,rfl⟩:=List.mem_iff_getElem.1 hx
 obtain ⟨b,o,_,_,hel⟩:=h3 (Nat.lt_of_le_of_lt (Nat.zero_le _) hi)
 obtain ⟨cs,⟨_,hw⟩,_⟩:=hel i hi
 exact wfi hw
theorem en_open {A:Nat->Prop} {w:World} {cs:Array Value} {e:En} (h:kEn.rep A w cs.toList e):∃ a1 a2 a3 c1 c2 c3,cs=en13 e a1 a2 a3 c1 c2 c3/\EnRep A w e a1 a2 a3 c1 c2 c3/\EnOk e:=by
 obtain ⟨_,_,h0,⟨rfl,h1⟩,_,_,rfl,⟨rfl,h2⟩,_,_,rfl,⟨rfl,h3⟩,_,_,rfl,hk,_,_,rfl,⟨rfl,h5⟩,_,_,rfl,⟨rfl,h6⟩,_,_,rfl,⟨rfl,h7⟩,_,_,rfl,⟨rfl,h8⟩,_,_,rfl,⟨rfl,h9⟩,_,_,rfl,⟨rfl,h10⟩,_,_,rfl,hy,_,_,rfl,hs,rfl,ht⟩:=h
 have l1:=kInts.len hk
 have l2:=kInts.len hy
 have l3:=kSps.len hs
 rename_i k1 k2 k3
 obtain ⟨v1,rfl⟩:=List.length_eq_one_iff.1 l1
 obtain ⟨v2,rfl⟩:=List.length_eq_one_iff.1 l2
 obtain ⟨v3,rfl⟩:=List.length_eq_one_iff.1 l3
 obtain ⟨a1,c1,rfl,_⟩:=slice_open hk
 obtain ⟨a2,c2,rfl,_⟩:=slice_open hy
 obtain ⟨a3,c3,rfl,_⟩:=slice_open hs
 refine ⟨a1,a2,a3,c1,c2,c3,?_,⟨hk,hy,hs⟩,⟨wfi h1,wfi h2,wfi h3,wfi h5,wfi h6,wfi h7,wfi h8,wfi h9,wfi h10,ints_wf hk,ints_wf hy,by simpa [ByteArray.size] using ht⟩⟩
 have:cs=cs.toList.toArray:=by simp
 rw [this,h0]
 rfl
def FewE (e:En):Prop:=e.knows.length<=60/\e.keys.length<=70/\e.spans.length<=60/\e.text.length<=2100
instance (e:En):Decidable (FewE e):=by unfold FewE;exact inferInstance
theorem EnOk.wf {e:En} (h:EnOk e) (hf:FewE e):EnWf e:=⟨⟨Nat.le_trans hf.1 (by decide),h.knows⟩,⟨Nat.le_trans hf.2.1 (by decide),h.keys⟩,h.n,h.m,h.ref⟩
end Go.Proofs.YtjkmalddfoemhaaGreatDoor
