/- What the texts of layers 33 and 32 lean on, beside those of layer 12. -/
import Derived.Test.YtjkmalddfoemhaaGreatDoorJ18
import Derived.Test.YtjkmalddfoemhaaGreatDoorJ10
import Derived.Test.YtjkmalddfoemhaaGreatDoorCEnNrm
import Derived.Test.YtjkmalddfoemhaaGreatDoorCEnRead
import Derived.Test.YtjkmalddfoemhaaGreatDoorCEnRefQ
import Derived.Test.YtjkmalddfoemhaaGreatDoorCEnRightD
import Derived.Test.YtjkmalddfoemhaaGreatDoorCEnRightO
import Derived.Test.YtjkmalddfoemhaaGreatDoorCEnRightS
import Derived.Test.YtjkmalddfoemhaaGreatDoorCEnRightZ
import Derived.Test.YtjkmalddfoemhaaGreatDoorCEnRtC
import Derived.Test.YtjkmalddfoemhaaGreatDoorJ8
import Derived.Test.YtjkmalddfoemhaaGreatDoorCWrR3
import Derived.Test.YtjkmalddfoemhaaGreatDoorJ1
import Derived.Test.YtjkmalddfoemhaaGreatDoorJ11
import Derived.Test.YtjkmalddfoemhaaGreatDoorJ12
import Derived.Test.YtjkmalddfoemhaaGreatDoorJ13
import Derived.Test.YtjkmalddfoemhaaGreatDoorJ14
import Derived.Test.YtjkmalddfoemhaaGreatDoorJ15
import Derived.Test.YtjkmalddfoemhaaGreatDoorJ16
import Derived.Test.YtjkmalddfoemhaaGreatDoorJ17
import Derived.Test.YtjkmalddfoemhaaGreatDoorJ2
import Derived.Test.YtjkmalddfoemhaaGreatDoorJ3
import Derived.Test.YtjkmalddfoemhaaGreatDoorJ4
import Derived.Test.YtjkmalddfoemhaaGreatDoorJ5
import Derived.Test.YtjkmalddfoemhaaGreatDoorJ6
import Derived.Test.YtjkmalddfoemhaaGreatDoorJ7
import Derived.Test.YtjkmalddfoemhaaGreatDoorJ9
import Derived.Test.YtjkmalddfoemhaaGreatDoorShelf
import Derived.Test.YtjkmalddfoemhaaGreatDoorSortS
import Derived.Lib.ItoaLen
import Derived.Lib.AtoiAll
import Derived.Lib.Bytealg
import Derived.WalkKit
import Derived.WalkSpells
import Derived.WalkLawsBesides
import Derived.ProofKit
import Derived.OpenShut
import Derived.ChangeOld
import Derived.Deep.Slices
import Derived.BigFrame
import Derived.Maps.OwnSet
import Derived.Maps.Views
import Derived.Deep.LoopGhost
import Derived.Deep.QuietTactic
import Derived.BigQuiet
import Derived.Deep.RegionWith
import Derived.Deep.RegionLaw
import Derived.Deep.Cut
import Derived.Deep.CutRange
import Derived.Deep.DeepCutAuto
import Derived.Lib.SliceRun
import Derived.Laws.OwnMore
import Derived.Laws.IdiomCopy
import Derived.Shelf.Abstract
import Derived.OrdersHeld
import Derived.Deep.RegionHeld
import Derived.Maps.RangeWalk
import Derived.Laws.StructEq
import Derived.ShutString
import Derived.Lib.AppendIntMem
import Derived.Laws.Concat
import Derived.Deep.RegionHeld3
import Derived.Lib.OthersKept
import Derived.Shelf.SlicesG.Turned
import Derived.Lib.Walk
import Derived.Lib.Builder
import Derived.Lib.AppendStr
import Derived.Lib.UnsafeStr
import Derived.Lib.FrozenHead
import Derived.Laws.Externs
import Derived.Shelf.SlicesQ.IndexFunc
import Derived.StillTailTactics
import Derived.Shelf.SlSortCmp.WholeK
import Derived.Shelf.SlSortCmp.NoneTotal
import Derived.Lib.AppendZeros
import Derived.Laws.ResultCell
import Derived.DeepKeys4
import Derived.Laws.ShiftsVarLaws
import Derived.Shelf.SlicesG.CompactI
import Derived.Laws.IdiomStrings
import Derived.Stop.LaidErr
import Derived.Lib.LaidTab
import Derived.LaidLaws
import Derived.Deep.DeepHandedRow
import Derived.Deep.DeepWitnessRowRef
import Derived.BigRegion
set_option maxRecDepth 100000
set_option maxHeartbeats 4000000
namespace Go.Proofs.YtjkmalddfoemhaaGreatDoor
open Go
end Go.Proofs.YtjkmalddfoemhaaGreatDoor
namespace Go.Proofs.YtjkmalddfoemhaaGreatDoor
open Go
def cnt (p:Int->Bool):Nat->Nat
 | 0=>0
 | n+1=>cnt p n+(if p n then 1 else 0)
end Go.Proofs.YtjkmalddfoemhaaGreatDoor
namespace Go.Proofs.YtjkmalddfoemhaaGreatDoor
open Go
end Go.Proofs.YtjkmalddfoemhaaGreatDoor
namespace Go.Proofs.YtjkmalddfoemhaaGreatDoor
end Go.Proofs.YtjkmalddfoemhaaGreatDoor
namespace Go.Proofs.YtjkmalddfoemhaaGreatDoor
open Go
theorem past_last {h:Hs} {n:Nd} {j:Nat}:pastAt (h++[n]) h.length j=n.past j:=by
 unfold pastAt;simp
variable {rd:List UInt8->En×Int} {R:Rg}
theorem His.past_lt {h:Hs} (H:His rd R h):∀ (i:Nat) {j:Nat},pastAt h i j=true->j<i:=by
 intro i
 induction i using Nat.strongRecOn with
 | _ i ih =>
   intro j hp
   have hi:i<h.length:=by
    unfold pastAt at hp
    cases e:h[i]? with
    | none=>rw [e] at hp;cases hp
    | some n=>exact (List.getElem?_eq_some_iff.1 e).1
   obtain ⟨m,_,k,_,h1,h2⟩:=(H.past_iff hi j).1 hp
   rcases h2 with h2 | h2
   · have:=ih k h1 h2;omega
   · omega
theorem past_len {h:Hs} {i j:Nat} (hp:pastAt h i j=true):i<h.length:=by
 unfold pastAt at hp
 cases e:h[i]? with
 | none=>rw [e] at hp;cases hp
 | some n=>exact (List.getElem?_eq_some_iff.1 e).1
end Go.Proofs.YtjkmalddfoemhaaGreatDoor
namespace Go.Proofs.YtjkmalddfoemhaaGreatDoor
open Go
variable {rd:List UInt8->En×Int} {R:Rg}
def downL (h:Hs) (ms:List Int):List Int:=marksP h (downF h ms).1
theorem add_grow (h:Hs) (s:Sg):(addF rd R h s).1=h\/∃ n,(addF rd R h s).1=h++[n]/\n.sg=s:=by
 rcases add_one (rd:=rd) (R:=R) (h:=h) (s:=s) with ⟨n,e,e',_,_⟩ | e
 · exact .inr ⟨n,by rw [e],e'⟩
 · exact .inl e
def From (l:List Sg) (h:Hs):Prop:=∀ n∈h,n.sg∈l
theorem all_from {l:List Sg}:∀ (k:List Sg) {h:Hs},(∀ s∈k,s∈l)->From l h->From l (addAll rd R h k)
 | [],h,_,f=>f
 | s::k,h,hk,f=>by
   refine all_from k (h:=(addF rd R h s).1) (fun x hx=>hk x (List.mem_cons_of_mem _ hx)) ?_
   rcases add_grow (rd:=rd) (R:=R) h s with e | ⟨n,e,e'⟩
   · rw [e];exact f
   · rw [e]
     intro x hx
     rcases List.mem_append.1 hx with hx | hx
     · exact f x hx
     · rw [List.mem_singleton.1 hx,e'];exact hk s List.mem_cons_self
end Go.Proofs.YtjkmalddfoemhaaGreatDoor
namespace Go.Proofs.YtjkmalddfoemhaaGreatDoor
open Go
variable {rd:List UInt8->En×Int} {R:Rg}
theorem kn_has {h:Hs} {a b:Int} (q:Kn h a b):(idxF h a).isSome/\(idxF h b).isSome:=by
 obtain ⟨i,j,e1,e2,_⟩:=q
 rw [e1,e2];exact ⟨rfl,rfl⟩
theorem kn_tr {h:Hs} (H:His rd R h) {a b c:Int} (p:Kn h a b) (q:Kn h b c):Kn h a c:=by
 obtain ⟨_,k,_,e,_⟩:=id q
 exact H.kn_trans p k e q
end Go.Proofs.YtjkmalddfoemhaaGreatDoor
namespace Go.Proofs.YtjkmalddfoemhaaGreatDoor
open Go
variable {rd:List UInt8->En×Int} {R:Rg}
def baseF (h:Hs) (ms:List Int):Nat->Bool:=fun j=>ms.any fun m=>idxF h m==some j
def namesB (h:Hs) (i j:Nat):Bool:=match h[i]? with
 | some n=>n.en.knows.any fun m=>idxF h m==some j
 | none=>false
def knownStep (h:Hs) (p:Nat->Bool) (i:Nat):Nat->Bool:=if p i=true then fun j=>p j || namesB h i j else p
def knownDn (h:Hs) (ms:List Int):Nat->(Nat->Bool)
 | 0=>baseF h ms
 | k+1=>knownStep h (knownDn h ms k) (h.length-1-k)
theorem base_iff (h:Hs) (ms:List Int) (j:Nat):baseF h ms j=true↔∃ m∈ms,idxF h m=some j:=by
 unfold baseF;rw [List.any_eq_true];simp
theorem names_iff {h:Hs} {i j:Nat}:namesB h i j=true↔∃ hi:i<h.length,∃ m∈h[i].en.knows,idxF h m=some j:=by
 unfold namesB
 cases e:h[i]? with
 | none =>
   simp only [Bool.false_eq_true,false_iff]
   rintro ⟨hi,_⟩
   rw [List.getElem?_eq_getElem hi] at e;cases e
 | some n =>
   obtain ⟨hi,e'⟩:=List.getElem?_eq_some_iff.1 e
   subst e'
   dsimp only
   rw [List.any_eq_true]
   simp [hi]
theorem His.past_trans {h:Hs} (H:His rd R h) {i j:Nat} (hij:pastAt h i j=true):∀ (k:Nat),pastAt h k i=true->pastAt h k j=true:=by
 intro k
 induction k using Nat.strongRecOn with
 | _ k ih =>
   intro hp
   have hk:=past_len hp
   obtain ⟨m,hm,l,hl,hlk,h1⟩:=(H.past_iff hk i).1 hp
   refine (H.past_iff hk j).2 ⟨m,hm,l,hl,hlk,.inl ?_⟩
   rcases h1 with h1 | h1
   · exact ih l hlk h1
   · rw [<-h1];exact hij
theorem His.names_past {h:Hs} (H:His rd R h) {i j:Nat} (hn:namesB h i j=true):pastAt h i j=true:=by
 obtain ⟨hi,m,hm,e⟩:=names_iff.1 hn
 obtain ⟨k,hk,hlt⟩:=H.knows hi hm
 rw [e] at hk;cases hk
 exact (H.past_iff hi j).2 ⟨m,hm,j,e,hlt,.inr rfl⟩
theorem His.past_last {h:Hs} (H:His rd R h) {j:Nat}:∀ (k:Nat),pastAt h k j=true->∃ i,(i=k\/pastAt h k i=true)/\namesB h i j=true:=by
 intro k
 induction k using Nat.strongRecOn with
 | _ k ih =>
   intro hp
   have hk:=past_len hp
   obtain ⟨m,hm,l,hl,hlk,h1⟩:=(H.past_iff hk j).1 hp
   rcases h1 with h1 | h1
   · obtain ⟨i,h2,h3⟩:=ih l hlk h1
     refine ⟨i,.inr ((H.past_iff hk i).2 ⟨m,hm,l,hl,hlk,?_⟩),h3⟩
     rcases h2 with h2 | h2
     · exact .inr h2
     · exact .inl h2
   · subst h1
     exact ⟨k,.inl rfl,names_iff.2 ⟨hk,m,hm,hl⟩⟩
theorem down_step {h:Hs} (H:His rd R h) (ms:List Int) (j:Nat):(downF h ms).1 j=true↔baseF h ms j=true\/∃ i,(downF h ms).1 i=true/\namesB h i j=true:=by
 simp only [downF_iff,base_iff]
 constructor
 · rintro ⟨m,hm,k,hk,h1 | h1⟩
   · obtain ⟨i,h2,h3⟩:=H.past_last k h1
     refine .inr ⟨i,⟨m,hm,k,hk,?_⟩,h3⟩
     rcases h2 with h2 | h2
     · exact .inr h2
     · exact .inl h2
   · subst h1;exact .inl ⟨m,hm,hk⟩
 · rintro (⟨m,hm,hj⟩ | ⟨i,⟨m,hm,k,hk,h1⟩,h2⟩)
   · exact ⟨m,hm,j,hj,.inr rfl⟩
   · have h3:=H.names_past h2
     refine ⟨m,hm,k,hk,.inl ?_⟩
     rcases h1 with h1 | h1
     · exact H.past_trans h3 k h1
     · rw [<-h1];exact h3
theorem down_lt {h:Hs} {ms:List Int} {i:Nat} (H:His rd R h) (e:(downF h ms).1 i=true):i<h.length:=by
 obtain ⟨m,_,k,hk,h1⟩:=(downF_iff h ms i).1 e
 obtain ⟨hl,_⟩:=idx_some hk
 rcases h1 with h1 | h1
 · have:=H.past_lt k h1;omega
 · omega
theorem known_inv {h:Hs} (H:His rd R h) (ms:List Int):∀ k,k<=h.length->(∀ j,knownDn h ms k j=true->(downF h ms).1 j=true)/\(∀ j,baseF h ms j=true->knownDn h ms k j=true) ∧
 ∀ i j,h.length-k<=i->(downF h ms).1 i=true->namesB h i j=true->knownDn h ms k j=true
 | 0,_=>⟨fun j e=>(down_step H ms j).2 (.inl e),fun j e=>e,fun i j hi hd _=>by have:=down_lt H hd;omega⟩
 | k+1,hk=>by
   obtain ⟨a,b,c⟩:=known_inv H ms k (by omega)
   have mono:∀ j,knownDn h ms k j=true->knownDn h ms (k+1) j=true:=by
    intro j e
    show knownStep h (knownDn h ms k) (h.length-1-k) j=true
    unfold knownStep
    split
    · rw [Bool.or_eq_true];exact .inl e
    · exact e
   refine ⟨fun j e=>?_,fun j e=>mono j (b j e),fun i j hi hd hn=>?_⟩
   · change knownStep h (knownDn h ms k) (h.length-1-k) j=true at e
     unfold knownStep at e
     split at e
     · rename_i hp
       rw [Bool.or_eq_true] at e
       rcases e with e | e
       · exact a j e
       · exact (down_step H ms j).2 (.inr ⟨_,a _ hp,e⟩)
     · exact a j e
   · by_cases hi':h.length-k<=i
     · exact mono j (c i j hi' hd hn)
     · have e:i=h.length-1-k:=by omega
       subst e
       have hp:knownDn h ms k (h.length-1-k)=true:=by
        rcases (down_step H ms _).1 hd with q | ⟨i',q1,q2⟩
        · exact b _ q
        · have:=H.past_lt i' (H.names_past q2)
          exact c i' _ (by omega) q1 q2
       show knownStep h (knownDn h ms k) (h.length-1-k) j=true
       unfold knownStep
       rw [if_pos hp,Bool.or_eq_true]
       exact .inr hn
theorem known_down {h:Hs} (H:His rd R h) (ms:List Int) (j:Nat):knownDn h ms h.length j=(downF h ms).1 j:=by
 obtain ⟨a,b,c⟩:=known_inv H ms h.length (Nat.le_refl _)
 rw [Bool.eq_iff_iff]
 refine ⟨a j,fun e=>?_⟩
 rcases (down_step H ms j).1 e with q | ⟨i,q1,q2⟩
 · exact b j q
 · exact c i j (by omega) q1 q2
def riseIns (x:Int):List Int->List Int
 | []=>[x]
 | y::r=>if y<x then y::riseIns x r else if y=x then y::r else x::y::r
def risingF (l:List Int):List Int:=l.foldl (fun o x=>riseIns x o) []
theorem mem_riseIns (x z:Int):∀ l:List Int,z∈riseIns x l↔z=x\/z∈l
 | []=>by simp [riseIns]
 | y::r=>by
   unfold riseIns
   split
   · rw [List.mem_cons,mem_riseIns x z r,List.mem_cons]
     constructor
     · rintro (a | a | a)<;>simp [a]
     · rintro (a | a | a)<;>simp [a]
   · split
     · rename_i e
       subst e
       simp
     · simp
theorem riseIns_asc (x:Int):∀ {l:List Int},l.Pairwise (· < ·)->(riseIns x l).Pairwise (· < ·)
 | [],_=>List.pairwise_singleton _ _
 | y::r,h=>by
   obtain ⟨h1,h2⟩:=List.pairwise_cons.1 h
   unfold riseIns
   split
   · rename_i hlt
     refine List.pairwise_cons.2 ⟨fun z hz=>?_,riseIns_asc x h2⟩
     rcases (mem_riseIns x z r).1 hz with e | e
     · rw [e];exact hlt
     · exact h1 z e
   · split
     · exact h
     · rename_i h3 h4
       refine List.pairwise_cons.2 ⟨fun z hz=>?_,h⟩
       rcases List.mem_cons.1 hz with e | e
       · rw [e];omega
       · have:=h1 z e;omega
theorem rising_ok (l:List Int):(risingF l).Pairwise (· < ·)/\∀ z,z∈risingF l↔z∈l:=by
 have:∀ (l o:List Int),o.Pairwise (· < ·)->(l.foldl (fun o x=>riseIns x o) o).Pairwise (· < ·)/\∀ z,z∈l.foldl (fun o x=>riseIns x o) o↔z∈o\/z∈l:=by
  intro l
  induction l with
  | nil=>intro o ho;exact ⟨ho,fun z=>by simp⟩
  | cons x l ih =>
    intro o ho
    obtain ⟨a,b⟩:=ih (riseIns x o) (riseIns_asc x ho)
    refine ⟨a,fun z=>?_⟩
    rw [List.foldl_cons,b z,mem_riseIns,List.mem_cons]
    constructor
    · rintro ((c | c) | c)<;>simp [c]
    · rintro (c | c | c)<;>simp [c]
 obtain ⟨a,b⟩:=this l [] List.Pairwise.nil
 exact ⟨a,fun z=>by rw [show risingF l=l.foldl (fun o x=>riseIns x o) [] from rfl,b z];simp⟩
theorem rising_sort {l:List Int} (h:l.Nodup):risingF l=sortI l :=
 sorted_unique (fun a b h1 h2=>by omega) (fun a h=>by omega) (rising_ok l).1 (sortI_asc h) fun z=>by rw [(rising_ok l).2,sortI_mem]
instance (h:Hs) (a b:Int):Decidable (BefM h a b) :=
 match e1:idxF h a,e2:idxF h b with
 | some i,some j =>
   have hi:=(idx_some e1).1
   have hj:=(idx_some e2).1
   decidable_of_iff (BefN h[i] h[j]) ⟨fun q=>⟨i,j,hi,hj,e1,e2,q⟩,fun ⟨i',j',_,_,f1,f2,q⟩=>by rw [e1] at f1;rw [e2] at f2;cases f1;cases f2;exact q⟩
 | none,_=>isFalse fun ⟨_,_,_,_,f1,_,_⟩=>by rw [e1] at f1;cases f1
 | some _,none=>isFalse fun ⟨_,_,_,_,_,f2,_⟩=>by rw [e2] at f2;cases f2
def befIns (h:Hs) (x:Int):List Int->List Int
 | []=>[x]
 | y::r=>if BefM h y x then y::befIns h x r else x::y::r
def sortedR (h:Hs) (ms:List Int):List Int:=(risingF ms).foldl (fun o x=>if (idxF h x).isSome then befIns h x o else o) []
theorem mem_befIns (h:Hs) (x z:Int):∀ l:List Int,z∈befIns h x l↔z=x\/z∈l
 | []=>by simp [befIns]
 | y::r=>by
   unfold befIns
   split
   · rw [List.mem_cons,mem_befIns h x z r,List.mem_cons]
     constructor
     · rintro (a | a | a)<;>simp [a]
     · rintro (a | a | a)<;>simp [a]
   · simp
theorem befM_total {h:Hs} {a b:Int} (ha:(idxF h a).isSome) (hb:(idxF h b).isSome) (hn:a≠b):BefM h a b\/BefM h b a:=by
 obtain ⟨i,hi⟩:=Option.isSome_iff_exists.1 ha
 obtain ⟨j,hj⟩:=Option.isSome_iff_exists.1 hb
 obtain ⟨li,ei⟩:=idx_some hi
 obtain ⟨lj,ej⟩:=idx_some hj
 rcases bef_total (a:=h[i]) (b:=h[j]) (by rw [ei,ej];exact hn) with c | c
 · exact .inl ⟨i,j,li,lj,hi,hj,c⟩
 · exact .inr ⟨j,i,lj,li,hj,hi,c⟩
theorem befM_trans {h:Hs} {a b c:Int} (p:BefM h a b) (q:BefM h b c):BefM h a c:=by
 obtain ⟨i,j,hi,hj,e1,e2,e3⟩:=p
 obtain ⟨j',k,hj',hk,f1,f2,f3⟩:=q
 rw [e2] at f1;cases f1
 exact ⟨i,k,hi,hk,e1,f2,bef_trans e3 f3⟩
theorem befIns_asc {h:Hs} {x:Int} (hx:(idxF h x).isSome):∀ {l:List Int},l.Pairwise (BefM h)->(∀ y∈l,(idxF h y).isSome/\y≠x)->(befIns h x l).Pairwise (BefM h)
 | [],_,_=>List.pairwise_singleton _ _
 | y::r,hp,hk=>by
   obtain ⟨h1,h2⟩:=List.pairwise_cons.1 hp
   unfold befIns
   split
   · rename_i hb
     refine List.pairwise_cons.2 ⟨fun z hz=>?_,befIns_asc hx h2 fun z hz=>hk z (List.mem_cons_of_mem _ hz)⟩
     rcases (mem_befIns h x z r).1 hz with e | e
     · rw [e];exact hb
     · exact h1 z e
   · rename_i hb
     have hk':=hk y List.mem_cons_self
     have h3:BefM h x y:=(befM_total hx hk'.1 fun e=>hk'.2 e.symm).resolve_right hb
     refine List.pairwise_cons.2 ⟨fun z hz=>?_,hp⟩
     rcases List.mem_cons.1 hz with e | e
     · rw [e];exact h3
     · exact befM_trans h3 (h1 z e)
theorem sortedR_ok (h:Hs):∀ (l o:List Int),o.Pairwise (BefM h)->(∀ y∈o,(idxF h y).isSome)->l.Nodup->(∀ y∈o,y∉l) →
 (l.foldl (fun o x=>if (idxF h x).isSome then befIns h x o else o) o).Pairwise (BefM h)/\∀ z,z∈l.foldl (fun o x=>if (idxF h x).isSome then befIns h x o else o) o↔z∈o\/z∈l/\(idxF h z).isSome
 | [],o,ho,_,_,_=>⟨ho,fun z=>by simp⟩
 | x::l,o,ho,hk,hn,hd=>by
   obtain ⟨hn1,hn2⟩:=List.nodup_cons.1 hn
   rw [List.foldl_cons]
   by_cases hx:(idxF h x).isSome
   · rw [if_pos hx]
     obtain ⟨a,b⟩:=sortedR_ok h l (befIns h x o) (befIns_asc hx ho fun y hy=>⟨hk y hy,fun e=>hd y hy (by rw [e];exact List.mem_cons_self)⟩) (fun y hy=>by
      rcases (mem_befIns h x y o).1 hy with e | e
      · rw [e];exact hx
      · exact hk y e) hn2 fun y hy=>by
      rcases (mem_befIns h x y o).1 hy with e | e
      · rw [e];exact hn1
      · exact fun c=>hd y e (List.mem_cons_of_mem _ c)
     refine ⟨a,fun z=>?_⟩
     rw [b z,mem_befIns]
     constructor
     · rintro ((c | c) | ⟨c,d⟩)
       · exact .inr ⟨by rw [c];exact List.mem_cons_self,by rw [c];exact hx⟩
       · exact .inl c
       · exact .inr ⟨List.mem_cons_of_mem _ c,d⟩
     · rintro (c | ⟨c,d⟩)
       · exact .inl (.inr c)
       · rcases List.mem_cons.1 c with c | c
         · exact .inl (.inl c)
         · exact .inr ⟨c,d⟩
   · rw [if_neg hx]
     obtain ⟨a,b⟩:=sortedR_ok h l o ho hk hn2 fun y hy c=>hd y hy (List.mem_cons_of_mem _ c)
     refine ⟨a,fun z=>?_⟩
     rw [b z]
     constructor
     · rintro (c | ⟨c,d⟩)
       · exact .inl c
       · exact .inr ⟨List.mem_cons_of_mem _ c,d⟩
     · rintro (c | ⟨c,d⟩)
       · exact .inl c
       · rcases List.mem_cons.1 c with c | c
         · rw [c] at d;exact absurd d hx
         · exact .inr ⟨c,d⟩
theorem sorted_ref {h:Hs} (H:His rd R h) (ms:List Int):sortedR h ms=sortedF h ms:=by
 obtain ⟨r1,r2⟩:=rising_ok ms
 obtain ⟨a,b⟩:=sortedR_ok h (risingF ms) [] List.Pairwise.nil (fun y hy=>nomatch hy) (r1.imp fun q=>by omega) (fun y hy=>nomatch hy)
 obtain ⟨c,d⟩:=sorted_ok H ms
 refine sorted_unique (r:=BefM h) befM_asymm befM_irrefl a c fun z=>?_
 rw [show sortedR h ms=(risingF ms).foldl (fun o x=>if (idxF h x).isSome then befIns h x o else o) [] from rfl,b z,d z,r2 z]
 simp
def downR (h:Hs) (ms:List Int):List Int:=risingF ((pick h (knownDn h ms h.length)).map Nd.mark)
theorem down_ref_eq {h:Hs} (H:His rd R h) (ms:List Int):downR h ms=downL h ms:=by
 unfold downR downL marksP
 have e:knownDn h ms h.length=(downF h ms).1:=funext fun j=>known_down H ms j
 rw [e,rising_sort (pick_nodup H _)]
def pastR (h:Hs) (m:Int):List Int:=match idxF h m with
 | some i=>match h[i]? with
   | some n=>downR h n.en.knows
   | none=>[]
 | none=>[]
theorem past_ref_eq {h:Hs} (H:His rd R h) (m:Int):pastR h m=pastF h m:=by
 unfold pastR pastF
 cases e:idxF h m with
 | none=>rfl
 | some i =>
   obtain ⟨hi,_⟩:=idx_some e
   dsimp only
   rw [List.getElem?_eq_getElem hi]
   dsimp only
   rw [down_ref_eq H]
   unfold downL
   congr 1
   funext j
   rw [Bool.eq_iff_iff,downF_iff,H.past_iff hi]
   constructor
   · rintro ⟨x,hx,k,hk,h1⟩
     obtain ⟨k',hk',hlt⟩:=H.knows hi hx
     rw [hk] at hk';cases hk'
     exact ⟨x,hx,k,hk,hlt,h1⟩
   · rintro ⟨x,hx,k,hk,_,h1⟩
     exact ⟨x,hx,k,hk,h1⟩
end Go.Proofs.YtjkmalddfoemhaaGreatDoor
namespace Go.Proofs.YtjkmalddfoemhaaGreatDoor
open Go
theorem sign_grow (R:Rg) (k:Int) (t:List UInt8):∃ x,(signF R k t).1=R++x:=by
 unfold signF
 split
 · exact ⟨[],by simp⟩
 · cases ringF R (k,t) with
   | some i=>exact ⟨[],by simp⟩
   | none=>exact ⟨_,rfl⟩
end Go.Proofs.YtjkmalddfoemhaaGreatDoor
namespace Go.Proofs.YtjkmalddfoemhaaGreatDoor
open Go
variable {rd:List UInt8->En×Int} {R:Rg}
def entryM (h:Hs) (m:Int):En×Bool:=match idxF h m with
 | none=>(En.none,false)
 | some i=>match h[i]? with
   | some n=>(n.en,true)
   | none=>(En.none,false)
theorem entry_at {h:Hs} {m:Int} {i:Nat} (e:idxF h m=some i):∃ hi:i<h.length,entryM h m=(h[i].en,true):=by
 obtain ⟨hi,_⟩:=idx_some e
 refine ⟨hi,?_⟩
 unfold entryM
 rw [e]
 dsimp only
 rw [List.getElem?_eq_getElem hi]
theorem nlevel {h:Hs} {i:Nat} (hi:i<h.length):levelAt h i=h[i].level:=by unfold levelAt;rw [List.getElem?_eq_getElem hi]
end Go.Proofs.YtjkmalddfoemhaaGreatDoor
namespace Go.Proofs.YtjkmalddfoemhaaGreatDoor
open Go.RowKit Go.ChangeShapes Go.WideShapes Go.Deep
open Go.Maps (Keyed int_keyed keyOf_int_mk)
theorem lookup_mem {α:Type} {l:List (Int×α)} {x:Int} {v:α} (h:l.lookup x=some v):(x,v)∈l:=by
 induction l with
 | nil=>cases h
 | cons p r ih =>
   obtain ⟨a,b⟩:=p
   by_cases hx:x=a
   · subst hx
     rw [List.lookup_cons,beq_self_eq_true] at h
     injection h with h
     subst h
     exact List.mem_cons_self
   · rw [List.lookup_cons,beq_eq_false_iff_ne.2 hx] at h
     exact List.mem_cons_of_mem _ (ih h)
theorem mem_lookup {α:Type} {l:List (Int×α)} {x:Int} {v:α} (hn:(l.map Prod.fst).Nodup) (h:(x,v)∈l):l.lookup x=some v:=by
 induction l with
 | nil=>cases h
 | cons p r ih =>
   obtain ⟨a,b⟩:=p
   rw [List.map_cons,List.nodup_cons] at hn
   rcases List.mem_cons.1 h with h | h
   · cases h;simp
   · have hx:x≠a:=fun e=>hn.1 (by rw [<-e];exact List.mem_map.2 ⟨_,h,rfl⟩)
     rw [List.lookup_cons,beq_eq_false_iff_ne.2 hx]
     exact ih hn.2 h
section
variable {P:Program} {k e t:TypeId} {w:World} {b:Nat} {l:List (Int×Value)}
end
end Go.Proofs.YtjkmalddfoemhaaGreatDoor
namespace Go.Proofs.YtjkmalddfoemhaaGreatDoor
open Go
variable {rd:List UInt8->En×Int} {R:Rg}
end Go.Proofs.YtjkmalddfoemhaaGreatDoor
namespace Go.Proofs.YtjkmalddfoemhaaGreatDoor
open Go
variable {rd:List UInt8->En×Int} {R:Rg}
end Go.Proofs.YtjkmalddfoemhaaGreatDoor
namespace Go.Proofs.YtjkmalddfoemhaaGreatDoor
open Go.RowKit Go.ChangeShapes Go.WideShapes Go.Deep
section
variable {P:Program}
end
end Go.Proofs.YtjkmalddfoemhaaGreatDoor
namespace Go.Proofs.YtjkmalddfoemhaaGreatDoor
open Go.RowKit Go.Deep
end Go.Proofs.YtjkmalddfoemhaaGreatDoor
namespace Go.Proofs.YtjkmalddfoemhaaGreatDoor
open Go.RowKit Go.Deep
end Go.Proofs.YtjkmalddfoemhaaGreatDoor
namespace Go.Proofs.YtjkmalddfoemhaaGreatDoor
open Go
section
variable {P:Program} {ops:Array Oper} {Q:Exit->Act->World->Prop} {md:Region.Mode} {S:World->Prop} {k:Nat}
theorem wpAnyG_firstP {i:Nat} {oi:Oper} {v:Value} {Lp:List Nat} (hi:ops[i]? = some oi) (hk:k∈Lp) (hw:∀ c∈Lp,∃ oc,ops[c]? = some oc/\∃ e∈oc.after,Region.binds md e=true/\(e.on=i\/e.on∈Lp)) (hiL:i∉Lp)
 (hsel:∀ (j:Nat) (o:Oper) cs b,ops[j]? = some o->o.op≠.select cs b) (hQ:∀ c a w,Q (.panic c) (a.put oi.dst v) w->Q (.panic c) a w) :
 ∀ (fuel:Nat) (listed:Array Bool) (a:Act) (w:World),
   (∀ j oj,ops[j]? = some oj->j≠i->listed.getD j true=false->(∀ e∈oj.after,Region.binds md e=true->e.on≠i)->oi.apart ops oj=true) →
   i∈Region.ready md ops listed->(∀ c∈Lp,listed.getD c true=false)->YieldsIf P ops S oi v a->S w →
   wpAnyG P md ops Q S k fuel (listed.setIfInBounds i true) (a.put oi.dst v) w->wpAnyG P md ops Q S k (fuel+1) listed a w:=by
 intro fuel
 induction fuel with
 | zero =>
   intro listed a w _ hr hkl hy hS H
   refine ⟨fun h=>(by rw [h] at hr;cases hr),fun j hj=>?_⟩
   by_cases hji:j=i
   · subst hji;exact hy.wpOp hi hS ⟨fun _=>hS,H⟩
   · have:=ready_mono hj hji
     rw [H.1] at this
     cases this
 | succ fuel ih =>
   intro listed a w hfree hr hkl hy hS H
   refine ⟨fun h=>(by rw [h] at hr;cases hr),fun j hj=>?_⟩
   by_cases hji:j=i
   · subst hji;exact hy.wpOp hi hS ⟨fun _=>hS,H⟩
   · have h1:=H.2 j (ready_mono hj hji)
     obtain ⟨hjun,oj,hoj,hall⟩:=mem_ready.1 hj
     have hnot:=ready_not hr hj hoj
     have hjL:j∉Lp:=fun hjL=>by
      obtain ⟨oc,hoc,e,he,hb,hon⟩:=hw j hjL
      rw [hoj] at hoc
      injection hoc with hoc
      subst hoc
      rcases hon with hon | hon
      · exact hnot e he hb hon
      · have h2:=hkl _ hon
        have h3:=hall e he hb
        rcases Nat.lt_or_ge e.on listed.size with g | g
        · simp [g] at h2 h3;rw [h2] at h3;cases h3
        · simp [Array.getElem?_eq_none g] at h2
     have hjk:j≠k:=fun e=>hjL (e ▸ hk)
     have h2:=wpOp_putIf hoj (hfree j oj hoj hji hjun hnot) (fun cs b=>hsel i oi cs b hi) (fun cs b=>hsel j oj cs b hoj) hQ hy h1
     have hfree':∀ k ok,ops[k]? = some ok->k≠i->(listed.setIfInBounds j true).getD k true=false →
      (∀ e∈ok.after,Region.binds md e=true->e.on≠i)->oi.apart ops ok=true:=fun k ok hk hki hun hno=>by
      refine hfree k ok hk hki ?_ hno
      by_cases hjk:j=k
      · subst hjk;exact hjun
      · rw [getD_set_ne true hjk] at hun;exact hun
     have hg:((listed.setIfInBounds i true).setIfInBounds j true).getD k true=false:=by
      rw [getD_set_ne true hjk,getD_set_ne true (fun e=>hiL (by rw [e];exact hk))];exact hkl k hk
     have hg':∀ c∈Lp,(listed.setIfInBounds j true).getD c true=false:=fun c hc=>by rw [getD_set_ne true (fun e=>hjL (by rw [e];exact hc))];exact hkl c hc
     refine wpOp_mono (fun a' w' h3=>⟨fun _=>h3.2.1 hg,ih (listed.setIfInBounds j true) a' w' hfree' (ready_mono hr (Ne.symm hji)) hg' h3.1 (h3.2.1 hg) ?_⟩) h2
     rw [Array.setIfInBounds_comm _ _ hji]
     exact h3.2.2
def pathB (md:Region.Mode) (ops:Array Oper) (k i:Nat) (Lp:List Nat) (listed:Array Bool):Bool :=
 Lp.contains k && !Lp.contains i && Lp.all fun c=>!listed.getD c true && ((ops[c]?).map fun o=>o.after.any fun e=>Region.binds md e && (e.on==i || Lp.contains e.on)).getD false
theorem g_takeP (Lp:List Nat) {i:Nat} {oi:Oper} {v:Value} {fuel:Nat} {listed:Array Bool} {a:Act} {w:World} (hi:ops[i]? = some oi)
 (hs:Region.noSelect ops=true) (hf:Region.free md ops listed i=true) (hr:(Region.ready md ops listed).contains i=true) (hp:pathB md ops k i Lp listed=true)
 (hQ:∀ c a w,Q (.panic c) (a.put oi.dst v) w->Q (.panic c) a w) (hy:YieldsIf P ops S oi v a) (hS:S w)
 (h:wpAnyG P md ops Q S k fuel (listed.setIfInBounds i true) (a.put oi.dst v) w):wpAnyG P md ops Q S k (fuel+1) listed a w:=by
 simp only [pathB,Bool.and_eq_true,Bool.not_eq_true',List.all_eq_true] at hp
 obtain ⟨⟨hk,hiL⟩,hall⟩:=hp
 refine wpAnyG_firstP (Lp:=Lp) hi (by simpa using hk) (fun c hc=>?_) (by simpa using hiL) (Region.noSelect_spec hs) hQ fuel listed a w (Region.free_spec hi hf) (by simpa using hr) (fun c hc=>(hall c hc).1) hy hS h
 have h2:=(hall c hc).2
 cases hoc:ops[c]? with
 | none=>rw [hoc] at h2;cases h2
 | some oc =>
   rw [hoc] at h2
   simp only [Option.map_some,Option.getD_some] at h2
   obtain ⟨e,he,hb⟩:=Array.any_eq_true'.1 h2
   simp only [Bool.and_eq_true,Bool.or_eq_true,beq_iff_eq] at hb
   exact ⟨oc,rfl,e,he,hb.1,hb.2.imp id fun h=>by simpa using h⟩
theorem g_two {i j:Nat} {oi oj:Oper} {fuel:Nat} {listed:Array Bool} {a:Act} {w:World} (hr:Region.ready md ops listed=[i,j]) (hi:ops[i]? = some oi) (hj:ops[j]? = some oj)
 (h1:wpList P ops (Exit.then (fun a' w'=>((listed.setIfInBounds i true).getD k true=false->S w')/\wpAnyG P md ops Q S k fuel (listed.setIfInBounds i true) a' w') Q) [oi] a w)
 (h2:wpList P ops (Exit.then (fun a' w'=>((listed.setIfInBounds j true).getD k true=false->S w')/\wpAnyG P md ops Q S k fuel (listed.setIfInBounds j true) a' w') Q) [oj] a w):wpAnyG P md ops Q S k (fuel+1) listed a w:=by
 have one:∀ (n:Nat) (o:Oper),ops[n]? = some o →
  wpList P ops (Exit.then (fun a' w'=>((listed.setIfInBounds n true).getD k true=false->S w')/\wpAnyG P md ops Q S k fuel (listed.setIfInBounds n true) a' w') Q) [o] a w →
  wpOp P ops Q n (fun a' w'=>((listed.setIfInBounds n true).getD k true=false->S w')/\wpAnyG P md ops Q S k fuel (listed.setIfInBounds n true) a' w') a w:=fun n o ho h=>by
  unfold wpOp
  simp only [ho]
  unfold wpList at h
  split
  · rename_i hw
    rw [if_pos hw] at h
    rcases h with h | ⟨h1,h2⟩
    · exact .inl (Oper.wp_then h)
    · exact .inr ⟨h1,h2⟩
  · rename_i hw
    rw [if_neg hw] at h
    exact h
 refine ⟨fun h0=>(by rw [hr] at h0;cases h0),fun n hn=>?_⟩
 rw [hr] at hn
 rcases List.mem_cons.1 hn with rfl | hn
 · exact one _ _ hi h1
 · rw [List.mem_singleton] at hn
   subst hn
   exact one _ _ hj h2
end
end Go.Proofs.YtjkmalddfoemhaaGreatDoor
namespace Go.Proofs.YtjkmalddfoemhaaGreatDoor
open Go.RowKit Go.Deep
end Go.Proofs.YtjkmalddfoemhaaGreatDoor
namespace Go.Proofs.YtjkmalddfoemhaaGreatDoor
open Go.RowKit Go.Deep
end Go.Proofs.YtjkmalddfoemhaaGreatDoor
namespace Go.Proofs.YtjkmalddfoemhaaGreatDoor
open Go.RowKit Go.Deep
theorem flatS_one (l:List Sp):∀ u∈flatS l,u.oneCell'=true:=by
 intro u hu
 unfold flatS at hu
 obtain ⟨cs,hcs,hu⟩:=List.mem_flatten.1 hu
 obtain ⟨s,_,rfl⟩:=List.mem_map.1 hcs
 simp [spCells] at hu
 rcases hu with rfl | rfl | rfl<;>rfl
theorem sps_cells {A:Nat->Prop} {w:World} {ad:Addr} {c:Nat} {l:List Sp} (h:kSps.rep A w [.slice (some ad) l.length c] l):∀ j u,(flatS l)[j]? = some u->w.cell? (ad.add j)=some u:=by
 intro j u hj
 have hjl:=(List.getElem?_eq_some_iff.1 hj).1
 rw [flatS_len] at hjl
 obtain ⟨b,o,e,_,hel⟩:=slice_at h (by omega)
 injection e with e
 subst e
 obtain ⟨i,r,hr,rfl⟩:∃ i r,r<3/\j=i*3+r:=⟨j / 3,j%3,by omega,by omega⟩
 obtain ⟨_,h0,h1,h2⟩:=sp_cells hel (i:=i) (by omega)
 obtain ⟨g0,g1,g2⟩:=flatS_get l i (by omega)
 rw [Addr.add_lit]
 have hm:r=0\/r=1\/r=2:=by omega
 rcases hm with rfl | rfl | rfl
 · rw [Nat.add_zero] at hj ⊢;rw [<-hj,g0];exact h0
 · rw [<-hj,g1,<-Nat.add_assoc];exact h1
 · rw [<-hj,g2,<-Nat.add_assoc];exact h2
def SpsPost (r:List Sp) (w:World) (e:Ending) (w':World):Prop:=∃ v,e=.returned v/\w'.ownsRow w.heap.size 177 3 v r.length (flatS r)/\Upd (fun _=>False) w w'
theorem ok_wf {s:Sp} (h:s.Ok):SpWf s:=by
 unfold Sp.Ok at h
 exact ⟨iwf (by omega),iwf (by omega),iwf (by omega)⟩
end Go.Proofs.YtjkmalddfoemhaaGreatDoor
namespace Go.Proofs.YtjkmalddfoemhaaGreatDoor
open Go.RowKit Go.Deep
end Go.Proofs.YtjkmalddfoemhaaGreatDoor
namespace Go.Proofs.YtjkmalddfoemhaaGreatDoor
open Go.RowKit Go.Deep
theorem clone_any (A:Nat->Prop) (a:Option Addr) (c:Nat) (l:List Sp) (w:World) (hl:kSps.rep A w [.slice a l.length c] l) (hlen:l.length<=1000000) :
 Calls Tryz.prog 129 #[.slice a l.length c] w (SpsPost l w):=by
 have q22:∀ (w:World) (a:Option Addr) (n c n' c':Nat),(binOp .eql 70 (.slice a n c) (.slice none n' c')).run Tryz.prog w=.ok (.bool a.isNone) w:=fun w a n c n' c'=>Lib.run_eql_slice_nil w _ _ a n c n' c' Tryz.underlying70
 cases a with
 | none =>
   have h0:l=[]:=by
    rcases Nat.eq_zero_or_pos l.length with h | h
    · exact List.length_eq_zero_iff.1 h
    · obtain ⟨_,_,e,_⟩:=slice_at hl h;cases e
   have H0:=hid h0
   clear hl
   go_enter Tryz.func129,Tryz.ntmps129
   go_wp2_with fail
   go_ret
   rw [H0.out]
   exact ⟨_,rfl,World.ownsRow_nil _ _ _ _,Upd.refl _ _⟩
 | some ad =>
   have hne:=sps_cells hl
   have u0:Upd (fun _=>False) w (w.alloc (.cells #[] 177 (0,0))):=(Upd.refl _ _).alloc _
   obtain ⟨v',w1,hr,ho,hgr,_⟩:=append_own2 elemSp (World.ownsRow_made w #[] 0 (Nat.le_refl _) (Nat.zero_le _) (by simp)) ad l.length c (flatS l) (by rw [flatS_len]) (fun j u hj=>Lib.cell?_alloc_some _ (hne j u hj)) (flatS_one l) (by unfold maxLen;omega) (by omega) (by simp) 70
   have HO:=hid ho;have HU:=hid (u0.grown hgr fun k hk=>.inr (by cases hk;exact Nat.le_refl _))
   clear hne hl ho hgr u0
   go_enter Tryz.func129,Tryz.ntmps129
   go_wp2_with (at_builtin;refine wpList_append_run rfl _ _ _ _ rfl rfl rfl hr ?_)
   go_ret
   exact ⟨v',rfl,by have:=HO.out;simpa using this,HU.out⟩
end Go.Proofs.YtjkmalddfoemhaaGreatDoor
namespace Go.Proofs.YtjkmalddfoemhaaGreatDoor
open Go.RowKit Go.Deep
section
variable {O D:Nat->Prop} {w:World} {b r:Nat} {v:Value} {mb:Nat} {l:List (Int×Value)} {L:List NdC}
end
end Go.Proofs.YtjkmalddfoemhaaGreatDoor
namespace Go.Proofs.YtjkmalddfoemhaaGreatDoor
open Go.RowKit Go.Deep
theorem marksTo_no {h:Hs} {p:Nat->Bool} {k:Nat} {n:Nd} (hk:h[k]? = some n) (hp:p k=false):marksTo h p (k+1)=marksTo h p k:=by
 obtain ⟨hl,rfl⟩:=List.getElem?_eq_some_iff.1 hk
 unfold marksTo
 rw [pick_to h p hl,if_neg (by rw [hp];decide),List.append_nil]
theorem marks_any {O:Nat->Prop} {b r:Nat} {hs:Hs} {w:World} (h:IsHis w O b r hs) (v:Value) (x:Nat) (p:Nat->Bool) (hb:BitsAt w v x) (hp:∀ j,x.testBit j=p j):Calls Tryz.prog 122 #[.pointer (some ⟨b,0,none⟩),v] w (IntsPost (marksP hs p) w):=by
 obtain ⟨D,vn,mb,l,L,H,rfl⟩:=h
 obtain ⟨c0,c1,c2,cf⟩:=cells3 H.head
 have HB:=hid hb;have HP:=hid hp
 have HLL:=hid (show (L.map NdC.n).length=L.length from List.length_map ..)
 rcases H.at_ with ⟨rfl,h0⟩ | ⟨g,cap,rfl,h1,h2,hgl,_⟩
 · subst h0
   clear H hb hp
   go_enter Tryz.func122,Tryz.ntmps122
   go_wp2_with fail
   go_loopg [5,13] 0 (fun gg s5 s13 wr=>s5=.slice none 0 0/\s13=.int .i64 0/\w=wr)
   case atStart=>exact ⟨rfl,rfl,rfl⟩
   case round =>
    obtain ⟨rfl,rfl,rfl⟩:=hrel
    go_wp2_with fail
    refine (sorted_end (l:=[]) (World.ownsRow_nil _ _ _ _) (by decide) (Upd.refl _ w)).mono ?_
    rintro e w' ⟨rfl,h⟩
    have HE:=hid h
    clear h
    go_wp2_with fail
    go_ret
    exact HE.out
 · have h2:cap<=9223372036854775807:=h2
   have HH:=hid H
   have hfew:=H.few
   have hpos:=hid (show 0<=L.length from Nat.zero_le _)
   clear hb hp H
   go_enter Tryz.func122,Tryz.ntmps122
   go_wp2_with fail
   go_loopg [5,13] L.length (fun gg s5 s13 wr=>∃ k:Nat,k<=L.length/\gg=L.length-k/\s13=.int .i64 k/\wr.ownsRow w.heap.size 3 1 s5 (marksTo (L.map NdC.n) p k).length ((marksTo (L.map NdC.n) p k).map fun x=>.int .i64 x)/\Upd (fun _=>False) w wr)
   case atStart=>exact ⟨0,Nat.zero_le _,rfl,rfl,World.ownsRow_nil _ _ _ _,Upd.refl _ _⟩
   case round =>
    obtain ⟨k,hk,hg,rfl,hown,u⟩:=hrel
    have UU:=hid u;have HG:=hid hg;have OWN:=hid hown
    clear u hg hown
    have ML:=hid (marksTo_len (L.map NdC.n) p k)
    by_cases hlt:k<L.length
    case neg =>
     have hlti:¬(k:Int)<L.length:=by omega
     have HE:=hid (show marksTo (L.map NdC.n) p k=(pick (L.map NdC.n) p).map Nd.mark by rw [<-marksTo_all,HLL.out,show k=L.length by omega])
     go_wp2_with fail
     refine (sorted_end OWN.out (by have:=ML.out;rw [HLL.out] at this;omega) UU.out).mono ?_
     rintro e w' ⟨rfl,h⟩
     rw [HE.out] at h
     have HF:=hid h
     clear h
     go_wp2_with fail
     go_ret
     exact HF.out
    have hlti:(k:Int)<L.length:=by omega
    obtain ⟨c,hc⟩:∃ c,L[k]? = some c:=⟨_,List.getElem?_eq_getElem hlt⟩
    obtain ⟨g',cap',e1,_,_,_,hn⟩:=HH.out.node (Nat.lt_of_le_of_lt (Nat.zero_le _) hlt)
    cases e1
    have NK:=hid ((hn k c hc).keep UU.out id)
    have hgr:g<wr.heap.size:=Nat.lt_of_lt_of_le hgl UU.out.size
    have HC:=hid (HH.out.nd hc)
    obtain ⟨W1,hW1⟩:∃ W1,W1=wr.alloc (.cells c.cells.toArray 136 (0,0)):=⟨_,rfl⟩
    have u1:Upd (fun _=>False) wr W1:=by rw [hW1];exact (Upd.refl _ _).alloc _
    have hb1:W1.heap[wr.heap.size]? = some (.cells c.cells.toArray 136 (0,0)):=by rw [hW1];exact heap_alloc_new
    have q2:W1.cell? ⟨wr.heap.size,2,none⟩=some (.int .i64 c.n.sg.mark):=by rw [cell_of_block hb1];rfl
    have HW1:=hid hW1;have U1:=hid (UU.out.trans u1)
    have OW:=hid (ownsRow_upd OWN.out u1 fun _ _=>id)
    have h64:k<64:=by omega
    have HT:=hid (test_any v x k W1 (HB.out.upd U1.out fun _ _=>id) h64)
    clear hW1 hb1 hn hc
    cases hp:p k with
    | false =>
      have HN:=hid (marksTo_no HC.out hp)
      have HX:=hid ((HP.out k).trans hp)
      clear hp
      go_upto_region 4 with (fail)
      refine wp_region_lit ?_
      refine op_move rfl _ rfl rfl ?_
      refine op_index rfl _ _ _ rfl rfl rfl (node_index hlt h1 h2 _) ?_
      refine op_load rfl _ _ rfl rfl (node_load NK.out) ?_
      refine op_alloc rfl _ rfl (node_alloc _) ?_
      refine op_assign rfl _ rfl rfl ?_
      refine op_store rfl _ _ _ rfl rfl rfl (node_store _ _) ?_
      rw [<-HW1.out]
      refine wpList_nil ?_
      go_frame
      go_wp2_with fail
      refine HT.out.mono ?_
      rintro e w' ⟨rfl,rfl⟩
      rw [HX.out]
      go_wp2_with fail
      go_roundg (L.length-(k+1))
      case measure=>have:=HG.out;omega
      case rel=>exact ⟨k+1,by omega,rfl,by go_num,by rw [HN.out];exact OW.out,U1.out⟩
    | true =>
      have HN:=hid (marksTo_yes HC.out hp)
      have HX:=hid ((HP.out k).trans hp)
      obtain ⟨v',w4,r4,o4,u4,n4⟩:=append_one elemI OW.out #[.int .i64 c.n.sg.mark] rfl (by simp [Value.oneCell']) (by have:=ML.out;rw [HLL.out] at this;unfold maxLen;omega) (by have:=ML.out;rw [HLL.out] at this;omega) U1.out.size 30 (0,0)
      have O4:=hid o4;have U4:=hid u4
      clear hp o4 u4 n4
      go_upto_region 4 with (fail)
      refine wp_region_lit ?_
      refine op_move rfl _ rfl rfl ?_
      refine op_index rfl _ _ _ rfl rfl rfl (node_index hlt h1 h2 _) ?_
      refine op_load rfl _ _ rfl rfl (node_load NK.out) ?_
      refine op_alloc rfl _ rfl (node_alloc _) ?_
      refine op_assign rfl _ rfl rfl ?_
      refine op_store rfl _ _ _ rfl rfl rfl (node_store _ _) ?_
      rw [<-HW1.out]
      refine wpList_nil ?_
      go_frame
      go_wp2_with fail
      refine HT.out.mono ?_
      rintro e w' ⟨rfl,rfl⟩
      rw [HX.out]
      go_wp2_with (at_builtin;refine wpList_append_run rfl _ _ _ _ rfl rfl rfl r4 ?_)
      go_roundg (L.length-(k+1))
      case measure=>have:=HG.out;omega
      case rel =>
       refine ⟨k+1,by omega,rfl,by go_num,?_,U1.out.comp U4.out fun i hi e=>by have:=(own_lt OW.out i e).1;omega⟩
       rw [HN.out,List.length_append,List.map_append]
       exact O4.out
theorem hpast_any {O:Nat->Prop} {b r:Nat} {hs:Hs} {w:World} (h:IsHis w O b r hs) (m:Int) (hm:(Lit.int .i64 m).wf=true):Calls Tryz.prog 53 #[.pointer (some ⟨b,0,none⟩),.int .i64 m] w (IntsPost (pastF hs m) w):=by
 have H0:=hid h
 obtain ⟨D,v,mb,l,L,H,hL⟩:=h
 obtain ⟨c0,c1,c2,cf⟩:=cells3 H.head
 cases hi:idxF (L.map NdC.n) m with
 | none =>
   have q:=H.look_no hm hi
   have HR:=hid (show pastF hs m=[] by rw [<-hL];unfold pastF;rw [hi])
   clear H hi hL
   go_enter Tryz.func53,Tryz.ntmps53
   go_wp2_with fail
   go_ret
   rw [HR.out]
   exact IntsPost.nil (Upd.refl _ _)
 | some i =>
   have q:=H.look_yes hm hi
   obtain ⟨hl,h64⟩:=H.idx hi
   obtain ⟨c,hc⟩:∃ c,L[i]? = some c:=⟨_,List.getElem?_eq_getElem hl⟩
   obtain ⟨g,cap,rfl,h1,h2,_,hn⟩:=H.node (Nat.lt_of_le_of_lt (Nat.zero_le _) hl)
   obtain ⟨n0,n1,n2,n3,n4,n5,n6,n7,n8,n9,n10,n11,n12,n13,n14,n15,n16,n17⟩:=hn i c hc
   have hnd:=H.nodes c (List.mem_of_getElem? hc)
   have HR:=hid (show pastF hs m=marksP hs (pastAt hs i) by rw [<-hL];unfold pastF;rw [hi])
   have HM:=hid (marks_any H0.out c.pv c.x (pastAt hs i) hnd.bits fun j=>by rw [<-hL];unfold pastAt;rw [H.nd hc];exact (hnd.past j).symm)
   have h2:cap<=9223372036854775807:=h2
   clear H hi hn hnd n0 n1 n2 n3 n4 n5 n6 n7 n8 n9 n10 n11 n12 n13 n14 n15 n16 hL
   go_enter Tryz.func53,Tryz.ntmps53
   go_wp2_with fail
   refine HM.out.mono ?_
   rintro e w2 ⟨v2,rfl,ho,u2⟩
   have HO:=hid ho;have U2:=hid u2
   clear ho u2
   go_wp2_with fail
   go_ret
   rw [HR.out]
   exact ⟨v2,rfl,HO.out,U2.out⟩
end Go.Proofs.YtjkmalddfoemhaaGreatDoor
namespace Go.Proofs.YtjkmalddfoemhaaGreatDoor
open Go.RowKit Go.Deep
theorem ints_cells {A:Nat->Prop} {w:World} {ad:Addr} {n c:Nat} {l:List Int} (h:kInts.rep A w [.slice (some ad) n c] l):∀ j u,(l.map fun x=>Value.int .i64 x)[j]? = some u->w.cell? (ad.add j)=some u:=by
 intro j u hj
 rcases Nat.eq_zero_or_pos l.length with h0 | hp
 · rw [List.length_eq_zero_iff.1 h0] at hj;cases hj
 · obtain ⟨a,cap,e,_,_,h3⟩:=slice_open h
   obtain ⟨b,o,e2,_,hel⟩:=h3 hp
   injection e with e _ _
   rw [e2] at e
   cases e
   rw [List.getElem?_map] at hj
   obtain ⟨x,hx,rfl⟩:=Option.map_eq_some_iff.1 hj
   obtain ⟨hl,rfl⟩:=List.getElem?_eq_some_iff.1 hx
   have e1:Addr.add ⟨b,o,none⟩ j=⟨b,o+j,none⟩:=by unfold Addr.add;split<;>simp_all
   rw [e1]
   exact int_cells hel hl
theorem cloneI_any (A:Nat->Prop) (a:Option Addr) (c:Nat) (l:List Int) (w:World) (hl:kInts.rep A w [.slice a l.length c] l) (hlen:l.length<=100000000) :
 Calls Tryz.prog 128 #[.slice a l.length c] w (IntsPost l w):=by
 have q22:∀ (w:World) (a:Option Addr) (n c n' c':Nat),(binOp .eql 30 (.slice a n c) (.slice none n' c')).run Tryz.prog w=.ok (.bool a.isNone) w:=fun w a n c n' c'=>Lib.run_eql_slice_nil w _ _ a n c n' c' Tryz.underlying30
 cases a with
 | none =>
   have h0:l=[]:=by
    rcases Nat.eq_zero_or_pos l.length with h | h
    · exact List.length_eq_zero_iff.1 h
    · obtain ⟨_,_,e,_⟩:=slice_at hl h;cases e
   have H0:=hid h0
   clear hl
   go_enter Tryz.func128,Tryz.ntmps128
   go_wp2_with fail
   go_ret
   rw [H0.out]
   exact ⟨_,rfl,World.ownsRow_nil _ _ _ _,Upd.refl _ _⟩
 | some ad =>
   have hne:=ints_cells hl
   have u0:Upd (fun _=>False) w (w.alloc (.cells #[] 3 (0,0))):=(Upd.refl _ _).alloc _
   obtain ⟨v',w1,hr,ho,hgr,_⟩:=append_own2 elemI (World.ownsRow_made w #[] 0 (Nat.le_refl _) (Nat.zero_le _) (by simp)) ad l.length c (l.map fun x=>Value.int .i64 x) (by simp) (fun j u hj=>Lib.cell?_alloc_some _ (hne j u hj)) (by simp [Value.oneCell']) (by unfold maxLen;omega) (by omega) (by simp) 30
   have HO:=hid ho;have HU:=hid (u0.grown hgr fun k hk=>.inr (by cases hk;exact Nat.le_refl _))
   clear hne hl ho hgr u0
   go_enter Tryz.func128,Tryz.ntmps128
   go_wp2_with (at_builtin;refine wpList_append_run rfl _ _ _ _ rfl rfl rfl hr ?_)
   go_ret
   exact ⟨v',rfl,by have:=HO.out;simpa using this,HU.out⟩
theorem node_en {w:World} {g o:Nat} {c:NdC} (h:NodeAt w g o c):(Instr.loadAt 72 (.pointer (some ⟨g,o+3,none⟩))).run Tryz.prog w=.ok (.agg (en13 c.n.en c.a1 c.a2 c.a3 c.c1 c.c2 c.c3)) w:=by
 obtain ⟨_,_,_,n3,n4,n5,n6,n7,n8,n9,n10,n11,n12,n13,n14,n15,_,_⟩:=h
 have n4:w.cell? ⟨g,o+3+1,none⟩=_:=n4
 have n5:w.cell? ⟨g,o+3+2,none⟩=_:=n5
 have n6:w.cell? ⟨g,o+3+3,none⟩=_:=n6
 have n7:w.cell? ⟨g,o+3+4,none⟩=_:=n7
 have n8:w.cell? ⟨g,o+3+5,none⟩=_:=n8
 have n9:w.cell? ⟨g,o+3+6,none⟩=_:=n9
 have n10:w.cell? ⟨g,o+3+7,none⟩=_:=n10
 have n11:w.cell? ⟨g,o+3+8,none⟩=_:=n11
 have n12:w.cell? ⟨g,o+3+9,none⟩=_:=n12
 have n13:w.cell? ⟨g,o+3+10,none⟩=_:=n13
 have n14:w.cell? ⟨g,o+3+11,none⟩=_:=n14
 have n15:w.cell? ⟨g,o+3+12,none⟩=_:=n15
 generalize o+3=p at *
 unfold en13
 unfold Instr.loadAt
 go_simp
theorem node_field (g k:Nat) (w:World):(Instr.fieldAt 136 (.pointer (some ⟨g,k,none⟩)) 1).run Tryz.prog w=.ok (.pointer (some ⟨g,k+3,none⟩)) w:=by
 unfold Instr.fieldAt
 go_simp
def enZero:Array Value:=#[.int .i64 0,.int .i64 0,.int .i64 0,.slice none 0 0,.int .i64 0,.int .i64 0,.int .i64 0,.int .i64 0,.int .i64 0,.int .i64 0,.slice none 0 0,.slice none 0 0,.string ⟨#[]⟩]
theorem en_alloc (w:World):(Instr.alloc 72 true (.tuple #[])).run Tryz.prog w=.ok (.pointer (some ⟨w.heap.size,0,none⟩)) (w.alloc (.cells enZero 72 (0,0))):=by
 unfold Instr.alloc enZero
 go_simp
theorem en_store (e:En) (a1 a2 a3:Option Addr) (c1 c2 c3:Nat) (w:World):(Instr.storeAt 72 (.pointer (some ⟨w.heap.size,0,none⟩)) (.agg (en13 e a1 a2 a3 c1 c2 c3))).run Tryz.prog (w.alloc (.cells enZero 72 (0,0)))=.ok () (w.alloc (.cells (en13 e a1 a2 a3 c1 c2 c3) 72 (0,0))):=by
 unfold en13 enZero
 unfold Instr.storeAt
 go_simp
theorem en_storeOld {w:World} {p:Nat} {e0 e:En} {b1 b2 b3 a1 a2 a3:Option Addr} {d1 d2 d3 c1 c2 c3:Nat} (h:w.heap[p]? = some (.cells (en13 e0 b1 b2 b3 d1 d2 d3) 72 (0,0))) :
 ∃ w',(Instr.storeAt 72 (.pointer (some ⟨p,0,none⟩)) (.agg (en13 e a1 a2 a3 c1 c2 c3))).run Tryz.prog w=.ok () w'/\w'.heap[p]? = some (.cells (en13 e a1 a2 a3 c1 c2 c3) 72 (0,0))/\Upd (· = p) w w':=by
 refine ⟨w.setCells p 0 (en13 e a1 a2 a3 c1 c2 c3).toList,?_,?_,upd_setCells' (S:=fun k=>k=p) p (.inl rfl) _ 0 w (Upd.refl _ _)⟩
 · obtain ⟨e0',e1,e2,e3,e4,e5,e6,e7,e8,e9,e10,e11,e12⟩:=cells13 h
   have hf:∀ o,w.frozen? ⟨p,o,none⟩=false:=fun o=>frozen_of_block h
   clear h
   unfold en13
   unfold Instr.storeAt
   go_simp
   rfl
 · have:=heap_setCells p 72 (0,0) (en13 e a1 a2 a3 c1 c2 c3).toList 0 w (en13 e0 b1 b2 b3 d1 d2 d3).toList (by simpa using h) (by simp [en13])
   rw [this]
   rfl
def EntryPost (hs:Hs) (m:Int) (w:World) (e:Ending) (w':World):Prop :=
 ∃ a1 a2 a3 c1 c2 c3,e=.returned (.tuple #[enV (entryM hs m).1 a1 a2 a3 c1 c2 c3,.bool (entryM hs m).2])/\EnRep (fun g=>w.heap.size<=g/\g<w'.heap.size) w' (entryM hs m).1 a1 a2 a3 c1 c2 c3/\Upd (fun _=>False) w w'
theorem hentry_no {O:Nat->Prop} {b r:Nat} {hs:Hs} {w:World} (h:IsHis w O b r hs) (m:Int) (hm:(Lit.int .i64 m).wf=true) (hi:idxF hs m=none):Calls Tryz.prog 66 #[.pointer (some ⟨b,0,none⟩),.int .i64 m] w (EntryPost hs m w):=by
 obtain ⟨D,v,mb,l,L,H,rfl⟩:=h
 obtain ⟨W0,hW0⟩:∃ W0,W0=w.alloc (.cells enZero 72 (0,0)):=⟨_,rfl⟩
 have u0:Upd (fun _=>False) w W0:=by rw [hW0];exact (Upd.refl _ _).alloc _
 have hb0:W0.heap[w.heap.size]? = some (.cells (en13 En.none none none none 0 0 0) 72 (0,0)):=by rw [hW0];exact heap_alloc_new
 have H0:=H.upd u0 fun _ _=>id
 obtain ⟨c0,d1,d2,df⟩:=cells3 H0.head
 have q:=H0.look_no hm hi
 have U0:=hid u0;have HB0:=hid hb0;have HW0:=hid hW0
 have HR:=hid (show entryM (L.map NdC.n) m=(En.none,false) by unfold entryM;rw [hi])
 obtain ⟨w1,r1,b1,u1⟩:=en_storeOld (e:=En.none) (a1:=none) (a2:=none) (a3:=none) (c1:=0) (c2:=0) (c3:=0) hb0
 have hbuild:(Instr.build 72 #[]).run Tryz.prog W0=.ok (.agg (en13 En.none none none none 0 0 0)) W0:=by
  unfold en13 Instr.build
  go_simp
  exact ⟨rfl,rfl,rfl,rfl,rfl,rfl,rfl,rfl,rfl,rfl,rfl,rfl,rfl⟩
 have R1:=hid r1;have HB1:=hid b1;have U1:=hid (u0.comp u1 fun i hi e=>by omega);have HBL:=hid hbuild
 clear H H0 hi u0 hb0 hW0 r1 b1 u1 hbuild
 go_enter Tryz.func66,Tryz.ntmps66
 go_upto_region 1 with (fail)
 have hW:=HW0.out
 unfold enZero at hW
 rw [<-hW]
 clear hW HW0
 go_upto_region 3 with (fail)
 refine wp_region_lit ?_
 refine op_build rfl _ _ rfl (vs:=[]) rfl HBL.out ?_
 (try go_frame)
 refine op_store rfl _ _ _ rfl rfl rfl R1.out ?_
 (try go_frame)
 refine op_assign rfl _ rfl rfl ?_
 (try go_frame)
 refine wpList_nil ?_
 (try go_frame)
 obtain ⟨z0,z1,z2,z3,z4,z5,z6,z7,z8,z9,z10,z11,z12⟩:=cells13 HB1.out
 go_wp2_with fail
 refine bodyPost_ret (v:=.tuple #[enV En.none none none none 0 0 0,.bool false]) (by rw [results_cell_tmp rfl];go_simp;rfl) rfl ?_
 refine ⟨none,none,none,0,0,0,by rw [HR.out],by rw [HR.out];exact none_rep,U1.out⟩
theorem hentry_yes {O:Nat->Prop} {b r:Nat} {hs:Hs} {R:Rg} {w:World} (h:IsHis w O b r hs) (HX:His rdF R hs) (m:Int) (hm:(Lit.int .i64 m).wf=true) {i:Nat} (hi:idxF hs m=some i):Calls Tryz.prog 66 #[.pointer (some ⟨b,0,none⟩),.int .i64 m] w (EntryPost hs m w):=by
 obtain ⟨D,v,mb,l,L,H,rfl⟩:=h
 obtain ⟨W0,hW0⟩:∃ W0,W0=w.alloc (.cells enZero 72 (0,0)):=⟨_,rfl⟩
 have u0:Upd (fun _=>False) w W0:=by rw [hW0];exact (Upd.refl _ _).alloc _
 have hb0:W0.heap[w.heap.size]? = some (.cells (en13 En.none none none none 0 0 0) 72 (0,0)):=by rw [hW0];exact heap_alloc_new
 have H0:=H.upd u0 fun _ _=>id
 obtain ⟨c0,d1,d2,df⟩:=cells3 H0.head
 have q:=H0.look_yes hm hi
 obtain ⟨hl,h64⟩:=H.idx hi
 obtain ⟨c,hc⟩:∃ c,L[i]? = some c:=⟨_,List.getElem?_eq_getElem hl⟩
 obtain ⟨g,cap,rfl,h1,h2,hgl,hn⟩:=H0.node (Nat.lt_of_le_of_lt (Nat.zero_le _) hl)
 have h2:cap<=9223372036854775807:=h2
 have hnd:=H0.nodes c (List.mem_of_getElem? hc)
 have NK:=hid (hn i c hc)
 have HR:=hid (show entryM (L.map NdC.n) m=(c.n.en,true) by unfold entryM;rw [hi];dsimp only;rw [H.nd hc])
 have hri:RightE c.n.en:=by
  obtain ⟨hl2,_⟩:=idx_some hi
  have hre:=(HX.at hl2).read
  have hcn:(L.map NdC.n)[i]=c.n:=by
   have:=H.nd hc
   rw [List.getElem?_eq_getElem hl2] at this
   exact Option.some.inj this
  rw [hcn] at hre
  rcases rd_cases c.n.sg.text with ⟨_,q,_⟩ | q
  · rw [hre] at q;exact q
  · rw [hre] at q;cases congrArg Prod.snd q
 have HSPL:=hid hri.sp.1
 have HSPW:=hid (show ∀ s∈c.n.en.spans,SpWf s from fun s hs=>ok_wf (hri.sp.2 s hs))
 clear hri HX
 have hs0:W0.heap.size=w.heap.size+1:=by rw [hW0];simp
 obtain ⟨rb,hrb⟩:∃ rb,w.heap.size=rb:=⟨_,rfl⟩
 obtain ⟨eb,heb⟩:∃ eb,W0.heap.size=eb:=⟨_,rfl⟩
 obtain ⟨W1,hW1⟩:∃ W1,W1=W0.alloc (.cells (en13 c.n.en c.a1 c.a2 c.a3 c.c1 c.c2 c.c3) 72 (0,0)):=⟨_,rfl⟩
 have u1:Upd (fun _=>False) W0 W1:=by rw [hW1];exact (Upd.refl _ _).alloc _
 have hb1:W1.heap[eb]? = some (.cells (en13 c.n.en c.a1 c.a2 c.a3 c.c1 c.c2 c.c3) 72 (0,0)):=by rw [hW1,<-heb];exact heap_alloc_new
 have hbr:W1.heap[rb]? = some (.cells (en13 En.none none none none 0 0 0) 72 (0,0)):=by rw [u1.block rb (by omega) id,<-hrb];exact hb0
 have U0:=hid (u0.trans u1);have HB1:=hid hb1;have HBR:=hid hbr;have HW0:=hid hW0;have HW1:=hid hW1
 have REP:=hid (hnd.rep.keep u1)
 have WF:=hid hnd.wf
 have HRB:=hid hrb;have HEB:=hid heb;have HRE:=hid (show rb<eb by omega)
 obtain ⟨_,_,_,e3,_,_,_,_,_,_,e10,e11,_⟩:=cells13 hb1
 have E3:=hid e3;have E10:=hid e10;have E11:=hid e11
 clear H H0 hi u0 hb0 hW0 hn hc hnd u1 hb1 hbr hW1 hs0 e3 e10 e11
 go_enter Tryz.func66,Tryz.ntmps66
 go_upto_region 1 with (fail)
 have hW:=HW0.out
 unfold enZero at hW
 rw [<-hW]
 try rw [HRB.out]
 clear hW HW0
 go_upto_region 4 with (fail)
 refine wp_region_lit ?_
 refine op_move rfl _ rfl rfl ?_
 (try go_frame)
 refine op_nilp rfl _ rfl rfl ?_
 (try go_frame)
 refine op_field rfl _ _ _ rfl rfl (his_field _ _) ?_
 (try go_frame)
 refine op_load rfl _ _ rfl rfl (his_load rfl d1) ?_
 (try go_frame)
 refine op_move rfl _ rfl rfl ?_
 (try go_frame)
 refine op_index rfl _ _ _ rfl rfl rfl (node_index hl h1 h2 _) ?_
 (try go_frame)
 refine op_field rfl _ _ _ rfl rfl (node_field _ _ _) ?_
 (try go_frame)
 refine op_load rfl _ _ rfl rfl (node_en NK.out) ?_
 (try go_frame)
 refine op_alloc rfl _ rfl (en_alloc _) ?_
 (try go_frame)
 refine op_store rfl _ _ _ rfl rfl rfl (en_store _ _ _ _ _ _ _ _) ?_
 (try go_frame)
 rw [<-HW1.out]
 try rw [HEB.out]
 clear HW1 HEB
 refine wpList_nil ?_
 (try go_frame)
 go_upto_region 5 with (fail)
 refine wp_region_g (fun w'=>w'.cell? ⟨eb,3,none⟩=some (.slice c.a1 c.n.en.knows.length c.c1)/\w'.cell? ⟨eb,10,none⟩=some (.slice c.a2 c.n.en.keys.length c.c2)/\w'.cell? ⟨eb,11,none⟩=some (.slice c.a3 c.n.en.spans.length c.c3)) 10 (by kernel_rfl) ?_
 have hS:W1.drew.cell? ⟨eb,3,none⟩=some (.slice c.a1 c.n.en.knows.length c.c1)/\W1.drew.cell? ⟨eb,10,none⟩=some (.slice c.a2 c.n.en.keys.length c.c2)/\W1.drew.cell? ⟨eb,11,none⟩=some (.slice c.a3 c.n.en.spans.length c.c3):=⟨E3.out,E10.out,E11.out⟩
 refine g_take0 (i:=0) rfl (by kernel_rfl) (by kernel_rfl) (by kernel_rfl) (by decide) (fun _ _ _ h=>h) (Or.inl ⟨by kernel_rfl,by (intro w _;go_simp;try with_reducible rfl)⟩) (fun _=>hS) ?_
 (try go_frame)
 refine g_take0 (i:=3) rfl (by kernel_rfl) (by kernel_rfl) (by kernel_rfl) (by decide) (fun _ _ _ h=>h) (Or.inl ⟨by kernel_rfl,by (intro w _;go_simp;try with_reducible rfl)⟩) (fun _=>hS) ?_
 (try go_frame)
 refine g_take0 (i:=6) rfl (by kernel_rfl) (by kernel_rfl) (by kernel_rfl) (by decide) (fun _ _ _ h=>h) (Or.inl ⟨by kernel_rfl,by (intro w _;go_simp;try with_reducible rfl)⟩) (fun _=>hS) ?_
 (try go_frame)
 refine g_take (i:=1) rfl (by kernel_rfl) (by kernel_rfl) (by kernel_rfl) (by kernel_rfl) (fun _ _ _ h=>h) (Or.inl ⟨by kernel_rfl,by (intro w hSw;(try dsimp only at hSw);obtain ⟨z0,z1,z2⟩:=hSw;go_simp;try with_reducible rfl)⟩) hS ?_
 (try go_frame)
 refine g_take (i:=4) rfl (by kernel_rfl) (by kernel_rfl) (by kernel_rfl) (by kernel_rfl) (fun _ _ _ h=>h) (Or.inl ⟨by kernel_rfl,by (intro w hSw;(try dsimp only at hSw);obtain ⟨z0,z1,z2⟩:=hSw;go_simp;try with_reducible rfl)⟩) hS ?_
 (try go_frame)
 refine g_take (i:=7) rfl (by kernel_rfl) (by kernel_rfl) (by kernel_rfl) (by kernel_rfl) (fun _ _ _ h=>h) (Or.inl ⟨by kernel_rfl,by (intro w hSw;(try dsimp only at hSw);obtain ⟨z0,z1,z2⟩:=hSw;go_simp;try with_reducible rfl)⟩) hS ?_
 (try go_frame)
 have YU0:=hid ((Upd.refl (fun _=>False) W1).drew)
 refine g_op (i:=2) (by kernel_rfl) rfl ?_
 go_wp2_with fail
 refine (cloneI_any D c.a1 c.c1 c.n.en.knows _ (REP.out.keep YU0.out).knows (by have:=WF.out.knows.1;omega)).mono ?_
 rintro en y1 ⟨v1,rfl,own,u⟩
 obtain ⟨d1,k1,rfl,_,_⟩:=own_slice own
 have OW1:=hid own;have Y1:=hid u;have YU1:=hid (YU0.out.trans u)
 have hS1:y1.cell? ⟨eb,3,none⟩=some (.slice c.a1 c.n.en.knows.length c.c1)/\y1.cell? ⟨eb,10,none⟩=some (.slice c.a2 c.n.en.keys.length c.c2)/\y1.cell? ⟨eb,11,none⟩=some (.slice c.a3 c.n.en.spans.length c.c3):=⟨cell_kept E3.out (YU1.out.block eb (heap_lt HB1.out) id),cell_kept E10.out (YU1.out.block eb (heap_lt HB1.out) id),cell_kept E11.out (YU1.out.block eb (heap_lt HB1.out) id)⟩
 clear own u
 go_wp2_with fail
 refine ⟨fun _=>hS1,?_⟩
 refine g_take0 (i:=9) rfl (by kernel_rfl) (by kernel_rfl) (by kernel_rfl) (by decide) (fun _ _ _ h=>h) (Or.inl ⟨by kernel_rfl,by (intro w _;go_simp;try with_reducible rfl)⟩) (fun _=>hS1) ?_
 (try go_frame)
 refine g_op (i:=5) (by kernel_rfl) rfl ?_
 go_wp2_with fail
 refine (cloneI_any D c.a2 c.c2 c.n.en.keys _ (REP.out.keep YU1.out).keys (by have:=WF.out.keys.1;omega)).mono ?_
 rintro en y2 ⟨v2,rfl,own,u⟩
 obtain ⟨d2,k2,rfl,_,_⟩:=own_slice own
 have OW2:=hid own;have Y2:=hid u;have YU2:=hid (YU1.out.trans u)
 have hS2:y2.cell? ⟨eb,3,none⟩=some (.slice c.a1 c.n.en.knows.length c.c1)/\y2.cell? ⟨eb,10,none⟩=some (.slice c.a2 c.n.en.keys.length c.c2)/\y2.cell? ⟨eb,11,none⟩=some (.slice c.a3 c.n.en.spans.length c.c3):=⟨cell_kept E3.out (YU2.out.block eb (heap_lt HB1.out) id),cell_kept E10.out (YU2.out.block eb (heap_lt HB1.out) id),cell_kept E11.out (YU2.out.block eb (heap_lt HB1.out) id)⟩
 clear own u
 go_wp2_with fail
 refine ⟨fun _=>hS2,?_⟩
 refine g_op (i:=8) (by kernel_rfl) rfl ?_
 go_wp2_with fail
 refine (clone_any D c.a3 c.c3 c.n.en.spans _ (REP.out.keep YU2.out).spans (Nat.le_trans HSPL.out (by decide))).mono ?_
 rintro en y3 ⟨v3,rfl,own,u⟩
 obtain ⟨d3,k3,rfl,_,_⟩:=own_slice own
 have OW3:=hid own;have Y3:=hid u;have YU3:=hid (YU2.out.trans u)
 have hS3:y3.cell? ⟨eb,3,none⟩=some (.slice c.a1 c.n.en.knows.length c.c1)/\y3.cell? ⟨eb,10,none⟩=some (.slice c.a2 c.n.en.keys.length c.c2)/\y3.cell? ⟨eb,11,none⟩=some (.slice c.a3 c.n.en.spans.length c.c3):=⟨cell_kept E3.out (YU3.out.block eb (heap_lt HB1.out) id),cell_kept E10.out (YU3.out.block eb (heap_lt HB1.out) id),cell_kept E11.out (YU3.out.block eb (heap_lt HB1.out) id)⟩
 clear own u
 have hbe:=(YU3.out.block eb (heap_lt HB1.out) id).trans HB1.out
 have f3:y3.frozen? ⟨eb,3,none⟩=false:=frozen_of_block hbe
 have f10:y3.frozen? ⟨eb,10,none⟩=false:=frozen_of_block hbe
 have f11:y3.frozen? ⟨eb,11,none⟩=false:=frozen_of_block hbe
 obtain ⟨_,_,_,e3,_,_,_,_,_,_,e10,e11,_⟩:=cells13 hbe
 have HBE:=hid hbe
 clear hbe
 go_wp2_with fail
 refine ⟨fun _=>hS3,?_⟩
 refine g_op (i:=10) (by kernel_rfl) rfl ?_
 go_wp2_with fail
 refine ⟨fun h=>absurd h (by simp),?_⟩
 refine g_op (i:=11) (by kernel_rfl) rfl ?_
 go_wp2_with fail
 refine ⟨fun h=>absurd h (by simp),?_⟩
 refine g_op (i:=12) (by kernel_rfl) rfl ?_
 go_wp2_with fail
 refine ⟨fun h=>absurd h (by simp),?_⟩
 refine g_op (i:=13) (by kernel_rfl) rfl ?_
 go_wp2_with fail
 refine ⟨fun h=>absurd h (by simp),?_⟩
 refine g_op (i:=14) (by kernel_rfl) rfl ?_
 go_wp2_with fail
 refine ⟨fun h=>absurd h (by simp),?_⟩
 refine g_done (by kernel_rfl) ?_
 obtain ⟨W5,hW5⟩:∃ W5,W5=(((y3.setCell ⟨eb,3,none⟩ (.slice d1 c.n.en.knows.length k1)).setCell ⟨eb,10,none⟩ (.slice d2 c.n.en.keys.length k2)).setCell ⟨eb,11,none⟩ (.slice d3 c.n.en.spans.length k3)):=⟨_,rfl⟩
 have u5:Upd (· = eb) y3 W5:=by rw [hW5];exact (((Upd.refl _ _).at_ _ _).at_ _ _).at_ _ _
 have b5:W5.heap[eb]? = some (.cells (en13 c.n.en d1 d2 d3 k1 k2 k3) 72 (0,0)):=by
  rw [hW5]
  have q1:=heap_setCell_same (p:=⟨eb,3,none⟩) (u:=.slice d1 c.n.en.knows.length k1) rfl HBE.out
  have q2:=heap_setCell_same (p:=⟨eb,10,none⟩) (u:=.slice d2 c.n.en.keys.length k2) rfl q1
  exact heap_setCell_same (p:=⟨eb,11,none⟩) (u:=.slice d3 c.n.en.spans.length k3) rfl q2
 have r5:W5.heap[rb]? = some (.cells (en13 En.none none none none 0 0 0) 72 (0,0)):=((u5.block rb (by have:=heap_lt HBE.out;have:=HRE.out;omega) (Nat.ne_of_lt HRE.out)).trans (YU3.out.block rb (heap_lt HBR.out) id)).trans HBR.out
 obtain ⟨w6,r6,b6,u6⟩:=en_storeOld (e:=c.n.en) (a1:=d1) (a2:=d2) (a3:=d3) (c1:=k1) (c2:=k2) (c3:=k3) r5
 have B5:=hid b5;have R6:=hid r6;have HB6:=hid b6;have U5:=hid u5;have U6:=hid u6;have HW5:=hid hW5
 clear u5 b5 r5 r6 b6 u6 hW5 f3 f10 f11 e3 e10 e11
 rw [<-HW5.out]
 go_upto_region 6 with (fail)
 refine wp_region_lit ?_
 refine op_load rfl _ _ rfl rfl (en_load B5.out) ?_
 (try go_frame)
 refine op_store rfl _ _ _ rfl rfl rfl R6.out ?_
 (try go_frame)
 refine op_assign rfl _ rfl rfl ?_
 (try go_frame)
 refine wpList_nil ?_
 (try go_frame)
 obtain ⟨z0,z1,z2,z3,z4,z5,z6,z7,z8,z9,z10,z11,z12⟩:=cells13 HB6.out
 go_wp2_with fail
 refine bodyPost_ret (v:=.tuple #[enV c.n.en d1 d2 d3 k1 k2 k3,.bool true]) (by rw [results_cell_tmp rfl];go_simp;rfl) rfl ?_
 refine ⟨d1,d2,d3,k1,k2,k3,by rw [HR.out],?_,?_⟩
 · rw [HR.out]
   have s0:=U0.out.size;have s1:=YU1.out.size;have s2:=YU2.out.size;have s3:=YU3.out.size;have s4:=U5.out.size;have s5:=U6.out.size;have t2:=Y2.out.size;have t3:=Y3.out.size
   have ue:Upd (fun k=>k=eb\/k=rb) y3 w6:=(U5.out.mono fun _ q=>.inl q).trans (U6.out.mono fun _ q=>.inr q)
   have z:=heap_lt HB1.out
   have hre:=HRE.out
   have ho:=HRB.out
   have wf:=WF.out
   have sz6:=ue.size
   have o1:=ownsRow_upd (ownsRow_upd OW1.out (Y2.out.trans Y3.out) fun _ _=>id) ue fun g hg e=>by have:=(own_lt OW1.out g hg).1;have:W1.heap.size<=W1.drew.heap.size:=Nat.le_refl _;omega
   have o2:=ownsRow_upd (ownsRow_upd OW2.out Y3.out fun _ _=>id) ue fun g hg e=>by have:=(own_lt OW2.out g hg).1;omega
   have o3:=ownsRow_upd OW3.out ue fun g hg e=>by have:=(OW3.out.lt g hg).1;omega
   refine ⟨kInts.mono (ints_rep o1 wf.knows.2) fun g hg=>⟨?_,hg.2⟩,kInts.mono (ints_rep o2 wf.keys.2) fun g hg=>⟨?_,hg.2⟩,kSps.mono (sps_own_rep (A:=fun g=>y2.heap.size<=g/\g<w6.heap.size) o3 (fun s hs=>HSPW.out s hs) fun g hg=>⟨(OW3.out.lt g hg).1,(o3.lt g hg).2⟩) fun g hg=>⟨?_,hg.2⟩⟩
   · have:=hg.1;have:W1.heap.size<=W1.drew.heap.size:=Nat.le_refl _;omega
   · have:=hg.1;omega
   · have:=hg.1;omega
 · have s0:=U0.out.size
   refine ((U0.out.trans YU3.out).comp U5.out fun i hi e=>?_).comp U6.out fun i hi e=>?_
   · have:=HRE.out;have:=HRB.out;omega
   · have:=HRB.out;omega
theorem hentry_any {O:Nat->Prop} {b r:Nat} {hs:Hs} {R:Rg} {w:World} (h:IsHis w O b r hs) (HX:His rdF R hs) (m:Int) (hm:(Lit.int .i64 m).wf=true):Calls Tryz.prog 66 #[.pointer (some ⟨b,0,none⟩),.int .i64 m] w (EntryPost hs m w):=by
 cases hi:idxF hs m with
 | none=>exact hentry_no h m hm hi
 | some i=>exact hentry_yes h HX m hm hi
end Go.Proofs.YtjkmalddfoemhaaGreatDoor
namespace Go.Proofs.YtjkmalddfoemhaaGreatDoor
open Go.RowKit Go.Deep
theorem lookup_map {α β:Type} (f:α->β) (l:List (Int×α)) (x:Int):(l.map fun p=>(p.1,f p.2)).lookup x=(l.lookup x).map f:=by
 induction l with
 | nil=>rfl
 | cons p r ih =>
   obtain ⟨a,b⟩:=p
   rw [List.map_cons,List.lookup_cons,List.lookup_cons,ih]
   cases (x==a)<;>rfl
theorem putM_map {α β:Type} (f:α->β) (l:List (Int×α)) (x:Int) (v:α):((putM l x v).map fun p=>(p.1,f p.2))=putM (l.map fun p=>(p.1,f p.2)) x (f v):=by
 unfold putM delM
 rw [List.map_cons,List.filter_map]
 rfl
abbrev OwE:=List (Int×(Value×List Int))
def owV (E:OwE):List (Int×Value):=E.map fun p=>(p.1,p.2.1)
def owL (E:OwE):List (Int×List Int):=E.map fun p=>(p.1,p.2.2)
structure OwnAt (w:World) (B mb:Nat) (E:OwE):Prop where
 map:MapIs Tryz.prog 3 w mb (owV E)
 rows:∀ p∈E,w.ownsRow B 3 1 p.2.1 p.2.2.length (p.2.2.map fun x=>.int .i64 x)
 apart:∀ p∈E,∀ q∈E,p.1≠q.1->∀ g,p.2.1.ownBlock=some g->q.2.1.ownBlock≠some g
 base:mb<B/\B<=w.heap.size
theorem OwnAt.bm {w:World} {B mb:Nat} {E:OwE} (h:OwnAt w B mb E):∀ p∈E,p.2.1.ownBlock≠some mb:=fun p hp e=>by have:=(own_lt (h.rows p hp) mb e).1;have:=h.base.1;omega
def IsOwn (w:World) (B mb:Nat) (l:List (Int×List Int)):Prop:=∃ E,OwnAt w B mb E/\owL E=l
theorem OwnAt.upd {S:Nat->Prop} {w w':World} {B mb:Nat} {E:OwE} (h:OwnAt w B mb E) (u:Upd S w w') (hS:∀ k,k=mb\/B<=k->¬S k):OwnAt w' B mb E :=
 ⟨h.map.upd u (hS _ (.inl rfl)),fun p hp=>ownsRow_upd (h.rows p hp) u fun g hg=>hS _ (.inr (own_lt (h.rows p hp) g hg).1),h.apart,⟨h.base.1,Nat.le_trans h.base.2 u.size⟩⟩
theorem IsOwn.keep {w w':World} {B mb:Nat} {l:List (Int×List Int)} (h:IsOwn w B mb l) (u:Upd (fun _=>False) w w'):IsOwn w' B mb l :=
 let ⟨E,h1,h2⟩:=h;⟨E,h1.upd u fun _ _=>id,h2⟩
theorem IsOwn.made {w w':World} (u:Upd (fun _=>False) (w.alloc (.map #[] 0)) w'):IsOwn w' w'.heap.size w.heap.size [] :=
 ⟨[],⟨(MapIs.made w).upd u id,fun p hp=>(nomatch hp),fun p hp=>(nomatch hp),⟨by have:=u.size;simp at this;omega,Nat.le_refl _⟩⟩,rfl⟩
theorem zeroSl (w:World):(zeroValue 30).run Tryz.prog w=.ok (.slice none 0 0) w:=by kernel_rfl
theorem IsOwn.get {w:World} {B mb:Nat} {l:List (Int×List Int)} (h:IsOwn w B mb l) (a:Int) (ha:(Lit.int .i64 a).wf=true) :
 ∃ v,(Instr.lookup 226 (.map (some mb)) (.int .i64 a) false).run Tryz.prog w=.ok v w/\w.ownsRow B 3 1 v ((l.lookup a).getD []).length (((l.lookup a).getD []).map fun x=>.int .i64 x)/\v.ownBlock≠some mb:=by
 obtain ⟨E,H,rfl⟩:=h
 refine ⟨_,H.map.get Tryz.underlying3 Tryz.underlying226 (zeroSl w) ha,?_⟩
 unfold owV owL
 rw [lookup_map (fun e:Value×List Int=>e.1),lookup_map (fun e:Value×List Int=>e.2)]
 cases e:E.lookup a with
 | none=>exact ⟨World.ownsRow_nil _ _ _ _,fun q=>(nomatch q)⟩
 | some p=>exact ⟨H.rows _ (lookup_mem e),H.bm _ (lookup_mem e)⟩
theorem IsOwn.put {w y:World} {B mb:Nat} {l:List (Int×List Int)} (h:IsOwn w B mb l) (uy:Upd (fun _=>False) w y) (a m:Int) (ha:(Lit.int .i64 a).wf=true) (hl:((l.lookup a).getD []).length<=1000) (hn:l.length<=1000) :
 ∃ v v' w1 w2,(∀ g,v.ownBlock=some g->B<=g/\g<w.heap.size)/\(∀ z,Upd (fun k=>v.ownBlock=some k) y z->(Instr.lookup 226 (.map (some mb)) (.int .i64 a) false).run Tryz.prog z=.ok v z)/\(∃ a n c,v=.slice a n c/\c<=9223372036854775807/\n<=c) ∧
   (Builtin.append_ #[30,30] 30 #[v,.slice (some ⟨y.heap.size,0,none⟩) 1 1]).run Tryz.prog (y.alloc (.cells #[.int .i64 m] 3 (0,0)))=.ok v' w1 ∧
   Upd (fun k=>v.ownBlock=some k) y w1 ∧
   (Instr.mapUpdate 226 (.map (some mb)) (.int .i64 a) v').run Tryz.prog w1=.ok () w2/\IsOwn w2 B mb (putM l a ((l.lookup a).getD []++[m]))/\Upd (fun k=>k=mb\/B<=k) y w2:=by
 obtain ⟨E,H0,rfl⟩:=h
 have H:=H0.upd uy fun _ _=>id
 have hBw:B<=y.heap.size:=H.base.2
 have hlk:(owV E).lookup a=(E.lookup a).map (·.1):=lookup_map (fun e:Value×List Int=>e.1) E a
 have hll:(owL E).lookup a=(E.lookup a).map (·.2):=lookup_map (fun e:Value×List Int=>e.2) E a
 have hget:=fun z (q:MapIs Tryz.prog 3 z mb (owV E))=>q.get Tryz.underlying3 Tryz.underlying226 (zeroSl z) ha
 obtain ⟨v,hv⟩:∃ v,((owV E).lookup a).getD (.slice none 0 0)=v:=⟨_,rfl⟩
 obtain ⟨xs,hxs⟩:∃ xs,((owL E).lookup a).getD []=xs:=⟨_,rfl⟩
 have hcase:(E.lookup a=none/\v=.slice none 0 0/\xs=[])\/∃ p,E.lookup a=some p/\v=p.1/\xs=p.2:=by
  rw [hlk] at hv;rw [hll] at hxs
  cases e:E.lookup a with
  | none=>rw [e] at hv hxs;exact .inl ⟨rfl,hv.symm,hxs.symm⟩
  | some p=>rw [e] at hv hxs;exact .inr ⟨p,rfl,hv.symm,hxs.symm⟩
 have hrow0:w.ownsRow B 3 1 v xs.length (xs.map fun x=>.int .i64 x):=by
  rcases hcase with ⟨_,rfl,rfl⟩ | ⟨p,e,rfl,rfl⟩
  · exact World.ownsRow_nil _ _ _ _
  · exact H0.rows _ (lookup_mem e)
 have hrow:y.ownsRow B 3 1 v xs.length (xs.map fun x=>.int .i64 x):=ownsRow_upd hrow0 uy fun _ _=>id
 have hbm:v.ownBlock≠some mb:=fun e=>by have:=(own_lt hrow mb e).1;have:=H.base.1;omega
 have hoth:∀ q∈E,q.1≠a->∀ g,q.2.1.ownBlock=some g->v.ownBlock≠some g:=by
  rcases hcase with ⟨_,rfl,_⟩ | ⟨p,e,rfl,_⟩
  · exact fun _ _ _ _ _ q=>nomatch q
  · intro q hq hne g hg
    exact H.apart q hq _ (lookup_mem e) hne g hg
 rw [hxs] at hl ⊢
 rw [hv] at hget
 obtain ⟨v',w1,r1,o1,u1,n1⟩:=append_one elemI hrow #[.int .i64 m] rfl (by simp [Value.oneCell']) (by unfold maxLen;omega) (by omega) hBw 30 (0,0)
 have hvB:∀ g,v.ownBlock=some g->B<=g:=fun g hg=>(own_lt hrow g hg).1
 have u1B:Upd (fun k=>k=mb\/B<=k) y w1:=u1.mono fun k hk=>.inr (hvB k hk)
 have hmapw1:MapIs Tryz.prog 3 w1 mb (owV E):=H.map.upd u1 hbm
 obtain ⟨w2,r2,o2,u2⟩:=hmapw1.put Tryz.underlying3 Tryz.underlying226 (by unfold owV;unfold owL at hn;rw [List.length_map] at hn ⊢;unfold maxLen;omega) ha v'
 have hv':∀ g,v'.ownBlock=some g->v.ownBlock=some g\/y.heap.size<g:=fun g hg=>by
  rcases n1 with e | ⟨g',e,hlt⟩
  · exact .inl (by rw [<-e];exact hg)
  · rw [e] at hg;cases hg;exact .inr hlt
 have hdel:∀ r∈delM E a,r∈E/\r.1≠a:=fun r hr=>by
  unfold delM at hr
  obtain ⟨h1,h2⟩:=List.mem_filter.1 hr
  exact ⟨h1,by simpa using h2⟩
 refine ⟨v,v',w1,w2,own_lt hrow0,fun z uz=>hget z (H.map.upd uz hbm),?_,r1,u1,r2,⟨putM E a (v',xs++[m]),⟨?_,fun p hp=>?_,fun p hp q hq hne g hg=>?_,⟨H.base.1,Nat.le_trans hBw (Nat.le_trans u1.size u2.size)⟩⟩,?_⟩,u1B.comp u2 fun i hi e=>.inl e⟩
 · obtain ⟨a,c,e,hc1,hc2⟩:=own_slice hrow
   exact ⟨a,_,c,e,hc2,hc1⟩
 · have:=putM_map (fun e:Value×List Int=>e.1) E a (v',xs++[m])
   unfold owV at o2 ⊢
   rw [this]
   exact o2
 · unfold putM at hp
   rcases List.mem_cons.1 hp with rfl | hp
   · have:w1.ownsRow B 3 1 v' (xs++[m]).length ((xs++[m]).map fun x=>.int .i64 x):=by
      rw [List.length_append,List.map_append];exact o1
     refine ownsRow_upd this u2 fun g hg e=>?_
     have:=(own_lt this g hg).1
     have:=H.base.1
     omega
   · obtain ⟨hp,hne⟩:=hdel p hp
     refine ownsRow_upd (ownsRow_upd (H.rows p hp) u1 fun g hg=>hoth p hp hne g hg) u2 fun g hg e=>H.bm p hp (by rw [hg,e])
 · unfold putM at hp hq
   rcases List.mem_cons.1 hp with rfl | hp
   · rcases List.mem_cons.1 hq with rfl | hq
     · exact absurd rfl hne
     · obtain ⟨hq,hqa⟩:=hdel q hq
       intro e
       rcases hv' g hg with c | c
       · exact hoth q hq hqa g e c
       · have:=(own_lt (H.rows q hq) g e).2;omega
   · obtain ⟨hp,hpa⟩:=hdel p hp
     rcases List.mem_cons.1 hq with rfl | hq
     · intro e
       rcases hv' g e with c | c
       · exact hoth p hp hpa g hg c
       · have:=(own_lt (H.rows p hp) g hg).2;omega
     · exact H.apart p hp q (hdel q hq).1 hne g hg
 · have:=putM_map (fun e:Value×List Int=>e.2) E a (v',xs++[m])
   unfold owL
   rw [this]
end Go.Proofs.YtjkmalddfoemhaaGreatDoor
namespace Go.Proofs.YtjkmalddfoemhaaGreatDoor
open Go.RowKit Go.Deep
theorem mark_i64 {R:Rg} {hs:Hs} (H:His rdF R hs) (hR:R.length<=60):∀ x∈marksF hs,I64 x:=fun x hx=>by have:=marks_small H hx;unfold I64;omega
theorem past_i64 {R:Rg} {hs:Hs} (H:His rdF R hs) (hR:R.length<=60) (m:Int):∀ x∈pastF hs m,I64 x:=fun x hx=>by
 rw [mem_past H] at hx
 obtain ⟨i,_,hi,_⟩:=hx
 have:=his_mark H (m:=x) (by rw [hi];rfl)
 unfold I64;omega
end Go.Proofs.YtjkmalddfoemhaaGreatDoor
