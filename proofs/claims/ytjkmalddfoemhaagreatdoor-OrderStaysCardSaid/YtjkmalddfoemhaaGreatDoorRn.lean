/- What the texts of layer 32 lean on, beside those of layers 12 and 33. -/
import Derived.Test.YtjkmalddfoemhaaGreatDoorJ18
import Derived.Test.YtjkmalddfoemhaaGreatDoorJ10
import Derived.Test.YtjkmalddfoemhaaGreatDoorCEnNrm
import Derived.Test.YtjkmalddfoemhaaGreatDoorCEnRead
import Derived.Test.YtjkmalddfoemhaaGreatDoorCEnRefQ
import Derived.Test.YtjkmalddfoemhaaGreatDoorCEnRightD
import Derived.Test.YtjkmalddfoemhaaGreatDoorCEnRightO
import Derived.Test.YtjkmalddfoemhaaGreatDoorCEnRightS
import Derived.Test.YtjkmalddfoemhaaGreatDoorCEnRightZ
import Derived.Test.YtjkmalddfoemhaaGreatDoorCEnRtC
import Derived.Test.YtjkmalddfoemhaaGreatDoorJ8
import Derived.Test.YtjkmalddfoemhaaGreatDoorCWrR3
import Derived.Test.YtjkmalddfoemhaaGreatDoorJ1
import Derived.Test.YtjkmalddfoemhaaGreatDoorJ11
import Derived.Test.YtjkmalddfoemhaaGreatDoorJ12
import Derived.Test.YtjkmalddfoemhaaGreatDoorJ13
import Derived.Test.YtjkmalddfoemhaaGreatDoorJ14
import Derived.Test.YtjkmalddfoemhaaGreatDoorJ15
import Derived.Test.YtjkmalddfoemhaaGreatDoorJ16
import Derived.Test.YtjkmalddfoemhaaGreatDoorJ17
import Derived.Test.YtjkmalddfoemhaaGreatDoorJ2
import Derived.Test.YtjkmalddfoemhaaGreatDoorJ3
import Derived.Test.YtjkmalddfoemhaaGreatDoorJ4
import Derived.Test.YtjkmalddfoemhaaGreatDoorJ5
import Derived.Test.YtjkmalddfoemhaaGreatDoorJ6
import Derived.Test.YtjkmalddfoemhaaGreatDoorJ7
import Derived.Test.YtjkmalddfoemhaaGreatDoorJ9
import Derived.Test.YtjkmalddfoemhaaGreatDoorOrC
import Derived.Test.YtjkmalddfoemhaaGreatDoorOrD
import Derived.Test.YtjkmalddfoemhaaGreatDoorOrE
import Derived.Test.YtjkmalddfoemhaaGreatDoorOrF
import Derived.Test.YtjkmalddfoemhaaGreatDoorOrG
import Derived.Test.YtjkmalddfoemhaaGreatDoorOrH
import Derived.Test.YtjkmalddfoemhaaGreatDoorOrI
import Derived.Test.YtjkmalddfoemhaaGreatDoorOrLaid
import Derived.Test.YtjkmalddfoemhaaGreatDoorOrLaws
import Derived.Test.YtjkmalddfoemhaaGreatDoorOrPlay
import Derived.Test.YtjkmalddfoemhaaGreatDoorOrSmP
import Derived.Test.YtjkmalddfoemhaaGreatDoorOrSmall
import Derived.Test.YtjkmalddfoemhaaGreatDoorRm
import Derived.Test.YtjkmalddfoemhaaGreatDoorShelf
import Derived.Test.YtjkmalddfoemhaaGreatDoorSortS
import Derived.Lib.ItoaLen
import Derived.Lib.AtoiAll
import Derived.Lib.Bytealg
import Derived.WalkKit
import Derived.WalkSpells
import Derived.WalkLawsBesides
import Derived.ProofKit
import Derived.OpenShut
import Derived.ChangeOld
import Derived.Deep.Slices
import Derived.BigFrame
import Derived.Maps.OwnSet
import Derived.Maps.Views
import Derived.Deep.LoopGhost
import Derived.Deep.QuietTactic
import Derived.BigQuiet
import Derived.Deep.RegionWith
import Derived.Deep.RegionLaw
import Derived.Deep.Cut
import Derived.Deep.CutRange
import Derived.Deep.DeepCutAuto
import Derived.Lib.SliceRun
import Derived.Laws.OwnMore
import Derived.Laws.IdiomCopy
import Derived.Shelf.Abstract
import Derived.OrdersHeld
import Derived.Deep.RegionHeld
import Derived.Maps.RangeWalk
import Derived.Laws.StructEq
import Derived.ShutString
import Derived.Lib.AppendIntMem
import Derived.Laws.Concat
import Derived.Deep.RegionHeld3
import Derived.Lib.OthersKept
import Derived.Shelf.SlicesG.Turned
import Derived.Lib.Walk
import Derived.Lib.Builder
import Derived.Lib.AppendStr
import Derived.Lib.UnsafeStr
import Derived.Lib.FrozenHead
import Derived.Laws.Externs
import Derived.Shelf.SlicesQ.IndexFunc
import Derived.StillTailTactics
import Derived.Shelf.SlSortCmp.WholeK
import Derived.Shelf.SlSortCmp.NoneTotal
import Derived.Lib.AppendZeros
import Derived.Laws.ResultCell
import Derived.DeepKeys4
import Derived.Laws.ShiftsVarLaws
import Derived.Shelf.SlicesG.CompactI
import Derived.Laws.IdiomStrings
import Derived.Stop.LaidErr
import Derived.Lib.LaidTab
import Derived.LaidLaws
import Derived.Deep.DeepHandedRow
import Derived.Deep.DeepWitnessRowRef
set_option maxRecDepth 100000
set_option maxHeartbeats 4000000
namespace Go.Proofs.YtjkmalddfoemhaaGreatDoor
open Go
variable {rd:List UInt8->En×Int} {R:Rg}
def beforeB (h:Hs) (a b:Int):Bool:=match idxF h a,idxF h b with
 | some i,some k=>pastAt h k i
 | _,_=>false
theorem before_iff (h:Hs) (a b:Int):beforeB h a b=true↔Kn h a b:=by
 unfold beforeB Kn
 cases e:idxF h a with
 | none=>simp
 | some i =>
   cases e':idxF h b with
   | none=>simp
   | some k=>simp
theorem bef_both {h g:Hs} (H:His rd R h) (G:His rd R g) {a b:Int} (ha:(idxF g a).isSome) (hb:(idxF g b).isSome) (q:BefM h a b):BefM g a b:=by
 obtain ⟨i,j,hi,hj,e1,e2,e3⟩:=q
 obtain ⟨k,hk⟩:=Option.isSome_iff_exists.1 ha
 obtain ⟨l,hl⟩:=Option.isSome_iff_exists.1 hb
 obtain ⟨⟨_,lk,s1,s2⟩,s3,_⟩:=his_same H G i e1 hk
 obtain ⟨⟨_,ll,t1,t2⟩,t3,_⟩:=his_same H G j e2 hl
 refine ⟨k,l,lk,ll,hk,hl,?_⟩
 have l1:∀ {x:Hs} {p:Nat} (hp:p<x.length),levelAt x p=x[p].level:=fun {x p} hp=>by unfold levelAt;rw [List.getElem?_eq_getElem hp]
 rw [l1 hi,l1 lk] at s3
 rw [l1 hj,l1 ll] at t3
 unfold BefN Nd.mark at *
 rw [<-s1,<-s2,<-s3,<-t1,<-t2,<-t3]
 exact e3
theorem sorted_both {h g:Hs} (H:His rd R h) (G:His rd R g) {x y:List Int} (hx:∀ m,m∈x/\(idxF h m).isSome↔m∈y/\(idxF g m).isSome):sortedF h x=sortedF g y:=by
 obtain ⟨a1,a2⟩:=sorted_ok H x
 obtain ⟨b1,b2⟩:=sorted_ok G y
 refine sorted_unique (r:=BefM g) befM_asymm befM_irrefl (a1.imp_of_mem fun ha hb q=>?_) b1 fun z=>by rw [a2,b2,hx]
 exact bef_both H G ((hx _).1 ((a2 _).1 ha)).2 ((hx _).1 ((a2 _).1 hb)).2 q
end Go.Proofs.YtjkmalddfoemhaaGreatDoor
namespace Go.Proofs.YtjkmalddfoemhaaGreatDoor
open Go
variable {rd:List UInt8->En×Int} {R:Rg}
def entM (h:Hs) (m:Int):En:=match idxF h m with
 | some i=>match h[i]? with
   | some n=>n.en
   | none=>En.none
 | none=>En.none
theorem ent_both {h g:Hs} (H:His rd R h) (G:His rd R g) {m:Int} (h1:(idxF h m).isSome) (h2:(idxF g m).isSome):entM h m=entM g m:=by
 obtain ⟨i,hi⟩:=Option.isSome_iff_exists.1 h1
 obtain ⟨j,hj⟩:=Option.isSome_iff_exists.1 h2
 obtain ⟨⟨li,lj,_,e⟩,_⟩:=his_same H G i hi hj
 unfold entM
 rw [hi,hj]
 dsimp only
 rw [List.getElem?_eq_getElem li,List.getElem?_eq_getElem lj]
 exact e
def ownF (h:Hs) (a:Int):List Int:=(sortedF h (marksF h)).filter fun m=>(entM h m).author==a
theorem mem_own {h:Hs} (H:His rd R h) (a m:Int):m∈ownF h a↔(idxF h m).isSome/\(entM h m).author=a:=by
 unfold ownF
 rw [List.mem_filter,(sorted_ok H _).2,mem_marksF]
 simp
def ForkM (h:Hs) (a b:Int):Prop:=a≠b/\¬Kn h a b/\¬Kn h b a
def GuiltyP (h:Hs) (a:Int):Prop:=∃ x∈ownF h a,∃ y∈ownF h a,ForkM h x y
def SubM (g h:Hs):Prop:=∀ m,(idxF g m).isSome->(idxF h m).isSome
end Go.Proofs.YtjkmalddfoemhaaGreatDoor
namespace Go.Proofs.YtjkmalddfoemhaaGreatDoor
open Go
variable {rd:List UInt8->En×Int} {R:Rg}
def forkB (h:Hs) (a b:Int):Bool:=a != b && !beforeB h a b && !beforeB h b a
theorem forkB_iff (h:Hs) (a b:Int):forkB h a b=true↔ForkM h a b:=by
 unfold forkB ForkM
 rw [Bool.and_eq_true,Bool.and_eq_true,Bool.not_eq_true',Bool.not_eq_true',<-Bool.not_eq_true,<-Bool.not_eq_true,before_iff,before_iff,bne_iff_ne,and_assoc]
def pairF (h:Hs) (l:List Int):Option (Int×Int):=l.findSome? fun a=>(l.find? fun b=>forkB h a b).map fun b=>(a,b)
theorem pair_some {h:Hs} {l:List Int} {p:Int×Int} (e:pairF h l=some p):p.1∈l/\p.2∈l/\ForkM h p.1 p.2:=by
 obtain ⟨a,ha,e1⟩:=List.exists_of_findSome?_eq_some e
 cases e2:l.find? fun b=>forkB h a b with
 | none=>rw [e2] at e1;cases e1
 | some b =>
   rw [e2] at e1
   cases e1
   exact ⟨ha,List.mem_of_find?_eq_some e2,(forkB_iff h a b).1 (List.find?_some e2)⟩
theorem pair_none {h:Hs} {l:List Int}:pairF h l=none↔∀ a∈l,∀ b∈l,¬ForkM h a b:=by
 unfold pairF
 rw [List.findSome?_eq_none_iff]
 refine forall_congr' fun a=>forall_congr' fun _=>?_
 rw [Option.map_eq_none_iff,List.find?_eq_none]
 exact forall_congr' fun b=>forall_congr' fun _=>by rw [forkB_iff]
theorem guilty_pair (h:Hs) (a:Int):GuiltyP h a↔(pairF h (ownF h a)).isSome:=by
 cases e:pairF h (ownF h a) with
 | none =>
   simp only [Option.isSome_none,Bool.false_eq_true,iff_false]
   rintro ⟨x,hx,y,hy,q⟩
   exact pair_none.1 e x hx y hy q
 | some p =>
   obtain ⟨h1,h2,h3⟩:=pair_some e
   exact ⟨fun _=>rfl,fun _=>⟨p.1,h1,p.2,h2,h3⟩⟩
def authorsF (h:Hs):List Int:=risingF (h.map fun n=>n.en.author)
def forksF (h:Hs):List (Int×Int):=(authorsF h).filterMap fun a=>pairF h (ownF h a)
def guiltyF (h:Hs):List Int:=(authorsF h).filter fun a=>(pairF h (ownF h a)).isSome
theorem ent_at {h:Hs} (H:His rd R h) {i:Nat} (hi:i<h.length):entM h h[i].mark=h[i].en:=by
 unfold entM
 rw [idx_of H.nodup hi]
 dsimp only
 rw [List.getElem?_eq_getElem hi]
theorem own_author {h:Hs} (H:His rd R h) {a m:Int} (hm:m∈ownF h a):a∈authorsF h:=by
 obtain ⟨h1,h2⟩:=(mem_own H a m).1 hm
 obtain ⟨i,hi⟩:=Option.isSome_iff_exists.1 h1
 obtain ⟨li,rfl⟩:=idx_some hi
 rw [ent_at H li] at h2
 unfold authorsF
 rw [(rising_ok _).2,<-h2]
 exact List.mem_map.2 ⟨h[i],List.getElem_mem li,rfl⟩
theorem mem_guilty {h:Hs} (H:His rd R h) (a:Int):a∈guiltyF h↔GuiltyP h a:=by
 unfold guiltyF
 rw [List.mem_filter,<-guilty_pair]
 refine ⟨fun q=>q.2,fun q=>⟨?_,q⟩⟩
 obtain ⟨x,hx,_⟩:=id q
 exact own_author H hx
theorem forks_authors {h:Hs} (H:His rd R h):(forksF h).map (fun p=>(entM h p.1).author)=guiltyF h:=by
 unfold forksF guiltyF
 have:∀ l:List Int,(l.filterMap fun a=>pairF h (ownF h a)).map (fun p=>(entM h p.1).author)=l.filter fun a=>(pairF h (ownF h a)).isSome:=by
  intro l
  induction l with
  | nil=>rfl
  | cons a l ih =>
    cases e:pairF h (ownF h a) with
    | none=>rw [List.filterMap_cons_none (f:=fun a=>pairF h (ownF h a)) e,List.filter_cons_of_neg (by rw [e];simp),ih]
    | some p =>
      rw [List.filterMap_cons_some (f:=fun a=>pairF h (ownF h a)) e,List.filter_cons_of_pos (by rw [e];rfl),List.map_cons,ih]
      congr 1
      exact ((mem_own H a _).1 (pair_some e).1).2
 exact this _
end Go.Proofs.YtjkmalddfoemhaaGreatDoor
namespace Go.Proofs.YtjkmalddfoemhaaGreatDoor
open Go
variable {rd:List UInt8->En×Int} {R:Rg}
theorem sorted_all {h:Hs} (H:His rd R h) {ms:List Int} (hm:∀ m,(idxF h m).isSome->m∈ms):(sortedF h ms).Perm (marksF h):=by
 rw [List.perm_ext_iff_of_nodup (sorted_nodup H _) (marks_nodup H)]
 intro m
 rw [(sorted_ok H ms).2,mem_marksF]
 exact ⟨fun q=>q.2,fun q=>⟨hm m q,q⟩⟩
theorem past_ref {h:Hs} (H:His rd R h) {m:Int} (hm:(idxF h m).isSome):(entryM h m).1.ref=-1\/(entryM h m).1.kind=8\/(entryM h m).1.ref∈pastF h m:=by
 obtain ⟨i,hi⟩:=Option.isSome_iff_exists.1 hm
 obtain ⟨li,e⟩:=entry_at hi
 obtain ⟨_,mi⟩:=idx_some hi
 rw [e,mem_past H]
 have:=ref_iff H li
 rwa [mi] at this
end Go.Proofs.YtjkmalddfoemhaaGreatDoor
namespace Go.Proofs.YtjkmalddfoemhaaGreatDoor
open Go
variable {rd:List UInt8->En×Int} {R:Rg}
theorem ent_entry (h:Hs) (m:Int):(entryM h m).1=entM h m:=by
 unfold entryM entM
 cases idxF h m with
 | none=>rfl
 | some i=>dsimp only;cases h[i]?<;>rfl
def ownStep (h:Hs) (l:List (Int×List Int)) (m:Int):List (Int×List Int):=putM l (entM h m).author ((l.lookup (entM h m).author).getD []++[m])
def ownL (h:Hs) (ms:List Int):List (Int×List Int):=ms.foldl (ownStep h) []
theorem ownL_snoc (h:Hs) (ms:List Int) (m:Int):ownL h (ms++[m])=ownStep h (ownL h ms) m:=by unfold ownL;rw [List.foldl_append];rfl
theorem own_look (h:Hs) (a:Int):∀ (ms:List Int) (l:List (Int×List Int)),(ms.foldl (ownStep h) l).lookup a=if (ms.filter fun m=>(entM h m).author==a)=[] then l.lookup a else some ((l.lookup a).getD []++ms.filter fun m=>(entM h m).author==a)
 | [],l=>by simp
 | m::ms,l=>by
   rw [List.foldl_cons,own_look h a ms]
   unfold ownStep
   rw [lookup_put]
   by_cases e:(entM h m).author=a
   · subst e
     rw [if_pos rfl,List.filter_cons_of_pos (by simp)]
     by_cases hn:(ms.filter fun x=>(entM h x).author==(entM h m).author)=[]
     · rw [if_pos hn,hn,if_neg (by simp)]
     · rw [if_neg hn,if_neg (by simp)]
       simp
   · have e':¬a=(entM h m).author:=fun q=>e q.symm
     rw [if_neg e',List.filter_cons_of_neg (by simpa using e)]
theorem ownL_look (h:Hs) (ms:List Int) (a:Int):(ownL h ms).lookup a=if (ms.filter fun m=>(entM h m).author==a)=[] then none else some (ms.filter fun m=>(entM h m).author==a):=by
 unfold ownL;rw [own_look];rfl
theorem ownL_get (h:Hs) (a:Int):((ownL h (sortedF h (marksF h))).lookup a).getD []=ownF h a:=by
 rw [ownL_look]
 unfold ownF
 split
 · rename_i e;rw [e];rfl
 · rfl
theorem ownL_nodup (h:Hs) (ms:List Int):((ownL h ms).map Prod.fst).Nodup:=by
 have:∀ (ms:List Int) (l:List (Int×List Int)),(l.map Prod.fst).Nodup->((ms.foldl (ownStep h) l).map Prod.fst).Nodup:=by
  intro ms
  induction ms with
  | nil=>intro l q;exact q
  | cons m ms ih=>intro l q;exact ih _ (nodup_put q _ _)
 exact this ms [] List.nodup_nil
theorem ownL_mem (h:Hs) (ms:List Int) (a:Int):a∈(ownL h ms).map Prod.fst↔∃ m∈ms,(entM h m).author=a:=by
 have h1:=lookup_none_iff (l:=ownL h ms) (x:=a)
 rw [ownL_look] at h1
 by_cases e:(ms.filter fun m=>(entM h m).author==a)=[]
 · rw [if_pos e] at h1
   have h2:=h1.1 rfl
   constructor
   · intro q;exact absurd q h2
   · rintro ⟨m,hm,hx⟩
     have:m∈ms.filter fun m=>(entM h m).author==a:=List.mem_filter.2 ⟨hm,by simpa using hx⟩
     rw [e] at this;cases this
 · rw [if_neg e] at h1
   have h2:¬a∉(ownL h ms).map Prod.fst:=fun q=>by have:=h1.2 q;cases this
   constructor
   · intro _
     obtain ⟨m,hm⟩:=List.exists_mem_of_ne_nil _ e
     obtain ⟨h3,h4⟩:=List.mem_filter.1 hm
     exact ⟨m,h3,by simpa using h4⟩
   · intro _;exact Classical.not_not.1 h2
theorem own_keys {h:Hs} (H:His rd R h):sortI ((ownL h (sortedF h (marksF h))).map Prod.fst)=authorsF h:=by
 refine sorted_unique (fun a b h1 h2=>by omega) (fun a h=>by omega) (sortI_asc (ownL_nodup h _)) (rising_ok _).1 fun z=>?_
 show z∈sortI _↔z∈authorsF h
 unfold authorsF
 rw [sortI_mem,ownL_mem,(rising_ok _).2,List.mem_map]
 constructor
 · rintro ⟨m,hm,e⟩
   obtain ⟨_,h1⟩:=((sorted_ok H _).2 m).1 hm
   obtain ⟨i,hi⟩:=Option.isSome_iff_exists.1 h1
   obtain ⟨li,rfl⟩:=idx_some hi
   rw [ent_at H li] at e
   exact ⟨h[i],List.getElem_mem li,e⟩
 · rintro ⟨n,hn,e⟩
   obtain ⟨i,li,rfl⟩:=List.getElem_of_mem hn
   refine ⟨h[i].mark,((sorted_ok H _).2 _).2 ⟨(mem_marksF h _).2 ?_,?_⟩,by rw [ent_at H li];exact e⟩
   · rw [idx_of H.nodup li];rfl
   · rw [idx_of H.nodup li];rfl
theorem authors_len {h:Hs} (H:His rd R h):(authorsF h).length<=h.length:=by
 rw [<-own_keys H]
 unfold sortI
 rw [List.length_mergeSort,List.length_map]
 have:∀ (ms:List Int) (l:List (Int×List Int)),(l.map Prod.fst).Nodup->(ms.foldl (ownStep h) l).length<=l.length+ms.length:=by
  intro ms
  induction ms with
  | nil=>intro l _;exact Nat.le_refl _
  | cons m ms ih =>
    intro l q
    have h1:=ih (ownStep h l m) (nodup_put q _ _)
    have h2:=len_put q (entM h m).author ((l.lookup (entM h m).author).getD []++[m])
    rw [List.foldl_cons]
    unfold ownStep at h1 ⊢
    rw [List.length_cons]
    split at h2<;>omega
 have h1:=this (sortedF h (marksF h)) [] List.nodup_nil
 have h2:=(sorted_all H (ms:=marksF h) fun m q=>(mem_marksF h m).2 q).length_eq
 have h3:(marksF h).length=h.length:=by unfold marksF;rw [(sortI_perm _).length_eq,List.length_map]
 unfold ownL
 simp only [List.length_nil] at h1
 omega
theorem author_key {h:Hs} (H:His rd R h) (hk:∀ p∈R,0<=p.1/\p.1<200):∀ n∈h,0<=n.en.author/\n.en.author<200:=by
 intro n hn
 obtain ⟨i,li,rfl⟩:=List.getElem_of_mem hn
 have A:=H.at li
 obtain ⟨_,h2⟩:=A.valid
 rw [A.author]
 exact hk _ (List.mem_of_getElem? h2)
theorem pair_at {h:Hs} {l:List Int} {i k:Nat} (hi:i<l.length) (hk:k<l.length) (h1:∀ a∈l.take i,∀ b∈l,forkB h a b=false) (h2:∀ b∈l.take k,forkB h l[i] b=false) (h3:forkB h l[i] l[k]=true):pairF h l=some (l[i],l[k]):=by
 unfold pairF
 have e:l=l.take i++l[i]::l.drop (i+1):=by rw [<-List.drop_eq_getElem_cons hi];exact (List.take_append_drop i l).symm
 have e2:l=l.take k++l[k]::l.drop (k+1):=by rw [<-List.drop_eq_getElem_cons hk];exact (List.take_append_drop k l).symm
 have hf:(l.find? fun b=>forkB h l[i] b)=some l[k]:=by
  rw [List.find?_eq_some_iff_append]
  exact ⟨h3,_,_,e2,fun b hb=>by rw [h2 b hb];rfl⟩
 rw [List.findSome?_eq_some_iff]
 refine ⟨l.take i,l[i],l.drop (i+1),e,by rw [hf];rfl,fun a ha=>?_⟩
 rw [Option.map_eq_none_iff,List.find?_eq_none]
 intro b hb
 rw [h1 a ha b hb]
 decide
theorem pair_no {h:Hs} {l:List Int} (h1:∀ a∈l,∀ b∈l,forkB h a b=false):pairF h l=none:=by
 rw [pair_none]
 intro a ha b hb q
 have:=(forkB_iff h a b).2 q
 rw [h1 a ha b hb] at this
 cases this
theorem take_next {P:Int->Prop} {l:List Int} {k:Nat} (hk:k<l.length) (h1:∀ b∈l.take k,P b) (h2:P l[k]):∀ b∈l.take (k+1),P b:=by
 intro b hb
 rw [List.take_succ_eq_append_getElem hk,List.mem_append,List.mem_singleton] at hb
 rcases hb with hb | rfl
 · exact h1 b hb
 · exact h2
end Go.Proofs.YtjkmalddfoemhaaGreatDoor
namespace Go.Proofs.YtjkmalddfoemhaaGreatDoor
open Go
variable {rd:List UInt8->En×Int} {R:Rg}
theorem act_mark {h:Hs} {m:Int} {a:ActP} (e:actF h m=some a):a.mark=m/\a.en=(entryM h m).1:=by
 unfold actF at e
 split at e
 · injection e with e;subst e;exact ⟨rfl,rfl⟩
 · split at e
   · injection e with e;subst e;exact ⟨rfl,rfl⟩
   · cases e
end Go.Proofs.YtjkmalddfoemhaaGreatDoor
namespace Go.Proofs.YtjkmalddfoemhaaGreatDoor
open Go.RowKit Go.ChangeShapes Go.WideShapes Go.Deep
section
variable {P:Program}
end
end Go.Proofs.YtjkmalddfoemhaaGreatDoor
namespace Go.Proofs.YtjkmalddfoemhaaGreatDoor
open Go.RowKit Go.Deep
end Go.Proofs.YtjkmalddfoemhaaGreatDoor
namespace Go.Proofs.YtjkmalddfoemhaaGreatDoor
open Go.RowKit Go.Deep
end Go.Proofs.YtjkmalddfoemhaaGreatDoor
namespace Go.Proofs.YtjkmalddfoemhaaGreatDoor
open Go
section
variable {P:Program} {ops:Array Oper} {Q:Exit->Act->World->Prop} {md:Region.Mode} {S:World->Prop} {k:Nat}
theorem g_want {i:Nat} {o:Oper} {fuel:Nat} {listed:Array Bool} {a:Act} {w:World} (hr:Region.ready md ops listed=[i]) (ho:ops[i]? = some o) (hw:Region.wanted o (yielded ops a.tmps)=true)
 (h:Oper.wp P o a w (wpList P ops (Exit.then (fun a' w'=>((listed.setIfInBounds i true).getD k true=false->S w')/\wpAnyG P md ops Q S k fuel (listed.setIfInBounds i true) a' w') Q) [])
  (Exit.then (fun a' w'=>((listed.setIfInBounds i true).getD k true=false->S w')/\wpAnyG P md ops Q S k fuel (listed.setIfInBounds i true) a' w') Q)):wpAnyG P md ops Q S k (fuel+1) listed a w :=
 g_op hr ho (by unfold wpList;rw [if_pos hw];exact .inl h)
end
end Go.Proofs.YtjkmalddfoemhaaGreatDoor
namespace Go.Proofs.YtjkmalddfoemhaaGreatDoor
open Go.RowKit Go.Deep
end Go.Proofs.YtjkmalddfoemhaaGreatDoor
namespace Go.Proofs.YtjkmalddfoemhaaGreatDoor
open Go.RowKit Go.Deep
end Go.Proofs.YtjkmalddfoemhaaGreatDoor
namespace Go.Proofs.YtjkmalddfoemhaaGreatDoor
open Go.RowKit Go.Deep
theorem append_none {P:Program} {w:World} {base n c:Nat} {t ty e:TypeId} {size bytes:Nat} (T:ElemTy P t e size bytes) {v:Value} {xs:List Value} (hown:w.ownsRow base e size v n xs) :
 (Builtin.append_ #[t,t] ty #[v,.slice none 0 c]).run P w=.ok v w:=by
 obtain ⟨ht,⟨i,z,hi,_⟩,_⟩:=T
 rcases hown.2 with ⟨rfl,rfl⟩ | ⟨g,cap,cur,rfl,_,_,hnc,_⟩
 · simp [Builtin.append_,run_underlying ht,sizeOf,typeInfo,hi,Builtin.lenOf,Builtin.firstCells]
 · simp [Builtin.append_,run_underlying ht,sizeOf,typeInfo,hi,Builtin.lenOf,Builtin.firstCells,hnc,storeCells]
end Go.Proofs.YtjkmalddfoemhaaGreatDoor
namespace Go.Proofs.YtjkmalddfoemhaaGreatDoor
open Go.RowKit Go.Deep
theorem DelInv.last {l L:List Sp} {i:Nat} (h:DelInv l L i l.length):L.take i=okL l/\(okL l).length=i/\i<l.length:=by
 have h1:=h.low
 rw [List.take_length] at h1
 refine ⟨h1,?_,h.lt⟩
 rw [<-h1,List.length_take,h.len]
 have:=h.lt;omega
end Go.Proofs.YtjkmalddfoemhaaGreatDoor
namespace Go.Proofs.YtjkmalddfoemhaaGreatDoor
open Go.RowKit Go.Deep
end Go.Proofs.YtjkmalddfoemhaaGreatDoor
namespace Go.Proofs.YtjkmalddfoemhaaGreatDoor
open Go.RowKit Go.Deep
section
variable {O D:Nat->Prop} {w:World} {b r:Nat} {v:Value} {mb:Nat} {l:List (Int×Value)} {L:List NdC}
end
theorem hbefore_any {O:Nat->Prop} {b r:Nat} {hs:Hs} {w:World} (h:IsHis w O b r hs) (m k:Int) (hm:(Lit.int .i64 m).wf=true) (hk:(Lit.int .i64 k).wf=true):Calls Tryz.prog 281 #[.pointer (some ⟨b,0,none⟩),.int .i64 m,.int .i64 k] w fun e w'=>e=.returned (.bool (beforeB hs m k))/\w=w':=by
 obtain ⟨D,v,mb,l,L,H,rfl⟩:=h
 obtain ⟨c0,c1,c2,cf⟩:=cells3 H.head
 cases hi:idxF (L.map NdC.n) m with
 | none =>
   have q:=H.look_no hm hi
   have HR:=hid (show beforeB (L.map NdC.n) m k=false by unfold beforeB;rw [hi])
   cases hj:idxF (L.map NdC.n) k with
   | none =>
     have q2:=H.look_no hk hj
     clear H hi hj
     go_enter Tryz.func281,Tryz.ntmps281
     go_wp2_with fail
     go_ret
     exact ⟨by rw [HR.out]<;>rfl,rfl⟩
   | some j =>
     have q2:=H.look_yes hk hj
     clear H hi hj
     go_enter Tryz.func281,Tryz.ntmps281
     go_wp2_with fail
     go_ret
     exact ⟨by rw [HR.out]<;>rfl,rfl⟩
 | some i =>
   have q:=H.look_yes hm hi
   obtain ⟨_,hi64⟩:=H.idx hi
   cases hj:idxF (L.map NdC.n) k with
   | none =>
     have q2:=H.look_no hk hj
     have HR:=hid (show beforeB (L.map NdC.n) m k=false by unfold beforeB;rw [hi,hj])
     clear H hi hj
     go_enter Tryz.func281,Tryz.ntmps281
     go_wp2_with fail
     go_ret
     exact ⟨by rw [HR.out]<;>rfl,rfl⟩
   | some j =>
     have q2:=H.look_yes hk hj
     obtain ⟨hl,h64⟩:=H.idx hj
     obtain ⟨c,hc⟩:∃ c,L[j]? = some c:=⟨_,List.getElem?_eq_getElem hl⟩
     obtain ⟨g,cap,rfl,h1,h2,_,hn⟩:=H.node (Nat.lt_of_le_of_lt (Nat.zero_le _) hl)
     obtain ⟨m0,m1,m2,m3,m4,m5,m6,m7,m8,m9,m10,m11,m12,m13,m14,m15,m16,m17⟩:=hn j c hc
     have hnd:=H.nodes c (List.mem_of_getElem? hc)
     have HT:=hid (test_any c.pv c.x i w hnd.bits hi64)
     have HR:=hid (show beforeB (L.map NdC.n) m k=c.x.testBit i by unfold beforeB pastAt;rw [hi,hj];dsimp only;rw [H.nd hc];exact hnd.past i)
     have h2:cap<=9223372036854775807:=h2
     clear H hi hj hn hnd m0 m1 m2 m3 m4 m5 m6 m7 m8 m9 m10 m11 m12 m13 m14 m15 m16
     go_enter Tryz.func281,Tryz.ntmps281
     go_wp2_with fail
     refine HT.out.mono ?_
     rintro e w' ⟨rfl,rfl⟩
     go_wp2_with fail
     go_ret
     exact ⟨by rw [HR.out]<;>rfl,rfl⟩
end Go.Proofs.YtjkmalddfoemhaaGreatDoor
namespace Go.Proofs.YtjkmalddfoemhaaGreatDoor
open Go.RowKit Go.Deep
section
variable {P:Program} {ops:Array Oper} {S:World->Prop} {o:Oper} {a:Act}
theorem yields_lookup (hw:Region.wanted o (yielded ops a.tmps)=true) (t:TypeId) (x y:Operand) (b:Bool) (ho:o.op=.lookup t x y b) {v0 v1 v:Value} (hx:a.eval x=v0) (hy:a.eval y=v1) (hrun:∀ w,S w->(Instr.lookup t v0 v1 b).run P w=.ok v w):YieldsIf P ops S o v a :=
 .inl ⟨hw,fun w hS=>by unfold execOp;simp only [ho,Sem.run_bind,Sem.run_pure,Result.andThen_ok,hx,hy,hrun w hS]⟩
end
end Go.Proofs.YtjkmalddfoemhaaGreatDoor
namespace Go.Proofs.YtjkmalddfoemhaaGreatDoor
open Go.RowKit Go.Deep Go.Maps Go.Sort Go.Shelf
theorem sortsK (m:Nat):AnyZI.SortsIn Tryz.prog Tryz.sortedA_ren Fence.wide m :=
 ⟨fun blk off cap ss W hH hblk hsz=>callsIn_wide.2 (AnyM.slices_Sort_int Tryz.sortI blk off cap ss W hH hblk hsz),
  fun p cap W=>callsIn_wide.2 (AnyM.slices_Sort_int_none Tryz.sortI p cap W)⟩
theorem keys_perm {w:World} {bm:Nat} {l:List (Int×Value)} {D:DataW Value} (hn:(l.map Prod.fst).Nodup) (ho:w.ownsMap Tryz.prog 3 RV bm l.length D)
 (h1:∀ x v,l.lookup x=some v->Maps.has D (.int .i64 x)=true/\∀ z,D.atKey (.int .i64 x) z=.held v) (h2:∀ x,l.lookup x=none->Maps.has D (.int .i64 x)=false):(l.map Prod.fst).Perm (intKeys D) :=
 CollectedI.perm (left:=fun _=>false) ⟨hn,fun x=>by
  cases hl:l.lookup x with
  | none =>
    have h3:=h2 x hl
    have h4:=lookup_none_iff.1 hl
    constructor
    · intro h;exact absurd h h4
    · intro h;rw [h3] at h;cases h.1
  | some v =>
    have h3:=(h1 x v hl).1
    exact ⟨fun _=>⟨h3,rfl⟩,fun _=>List.mem_map.2 ⟨_,lookup_mem hl,rfl⟩⟩⟩ ho (int_keyed Tryz.underlying3) Tryz.underlying3 fun _=>rfl
theorem fkeys_any (mb:Option Nat) (W:World):Calls Tryz.prog 192 #[.map mb] W fun e w'=>e=.returned (.func (.func 247) #[] #[.pointer (some ⟨W.heap.size,0,none⟩)])/\w'=W.alloc (.cells #[.map mb] 226) :=
 callsIn_wide.1 (AnyZI.keys_in Tryz.keysA Fence.wide 5 trivial rfl mb W)
theorem fsorted_any {w:World} {bm:Nat} {l:List (Int×Value)} (M:MapIs Tryz.prog 3 w bm l) (hl:l.length<=1000000) {ks:List Int} (hks:(l.map Prod.fst).mergeSort leI=ks) :
 Calls Tryz.prog 191 #[.func (.func 247) #[] #[.pointer (some ⟨w.heap.size,0,none⟩)]] (w.alloc (.cells #[.map (some bm)] 226)) fun e w'=>∃ v,e=.returned v/\w'.ownsRow w.heap.size 3 1 v ks.length (ks.map fun x=>.int .i64 x)/\Upd (fun _=>False) w w':=by
 obtain ⟨hnd,D0,hown,hsz,h1,h2⟩:=M
 have hperm:=keys_perm hnd hown h1 h2
 have hmax:Maps.size D0<=maxLen:=by rw [hsz];unfold maxLen;omega
 have hbytes:Maps.size D0*8<=140737488355328:=by rw [hsz];omega
 have hbl:=hown.lt
 have hseq:SeqGives Fence.wide 2 Tryz.prog 247 #[.pointer (some ⟨w.heap.size,0,none⟩)] encZ (fun ss=>ss.Perm (intKeys D0)) (Maps.size D0) (w.alloc (.cells #[.map (some bm)] 226)) :=
  AnyZI.keys_gives (ρ:=Tryz.keysA_ren) { Tryz.keysA with } Fence.wide _ trivial rfl (by omega) w.heap.size bm l.length D0 _ (by simp) (by simp) (by
   obtain ⟨es,clock,hb,Ft,hs,hD⟩:=hown
   exact ⟨es,clock,(Below.heap_alloc _ _ bm hbl).trans hb,Ft,hs,hD⟩)
 have cS:=AnyZI.sorted_in Tryz.sortedA Fence.wide 5 trivial trivial trivial trivial rfl (by omega) (sortsK _) (enters_of Tryz.func95 (by kernel_rfl) rfl) 247 #[.pointer (some ⟨w.heap.size,0,none⟩)] trivial (enters_of Tryz.func247 (by kernel_rfl) rfl) _ _ hmax hbytes _ hseq
 change CallsIn _ _ Tryz.prog 191 _ _ _ at cS
 refine (callsIn_wide.1 cS).mono ?_
 rintro e w' ⟨v,ss,rfl,hS,hrow,hnil,hb⟩
 have hrow':=ownsRow_base_a hrow (Nat.le_of_lt (by simp:w.heap.size<(w.alloc (.cells #[.map (some bm)] 226)).heap.size))
 have hss:ss.mergeSort leI=ks:=(mergeSort_of_perm_i (hS.trans hperm.symm)).trans hks
 have hl2:ss.length=ks.length:=by rw [<-hss,List.length_mergeSort]
 refine ⟨v,rfl,by rw [<-hl2,<-hss];exact hrow',Upd.of_below (((Below.refl _ w).alloc (Nat.le_refl _) _).trans (hb.mono (by simp))) fun k hk _=>hk⟩
end Go.Proofs.YtjkmalddfoemhaaGreatDoor
namespace Go.Proofs.YtjkmalddfoemhaaGreatDoor
open Go.RowKit Go.Deep
theorem ends_i64 {R:Rg} {hs:Hs} (H:His rdF R hs) (hR:R.length<=60) (days:List (Int×Int)):∀ x∈endsF hs days,I64 x:=fun x hx=>by
 unfold endsF endsTo at hx
 obtain ⟨d,hd,rfl⟩:=List.mem_map.1 hx
 have:=seqTo_len H hR days (k:=d+1) (by have:=List.mem_range.1 hd;omega)
 unfold I64;omega
end Go.Proofs.YtjkmalddfoemhaaGreatDoor
namespace Go.Proofs.YtjkmalddfoemhaaGreatDoor
open Go.RowKit Go.Deep
theorem ffork_any {O:Nat->Prop} {b r:Nat} {hs:Hs} {w:World} (h:IsHis w O b r hs) (x y:Int) (hx:(Lit.int .i64 x).wf=true) (hy:(Lit.int .i64 y).wf=true):Calls Tryz.prog 248 #[.pointer (some ⟨b,0,none⟩),.int .i64 x,.int .i64 y] w fun e w'=>e=.returned (.bool (forkB hs x y))/\w=w':=by
 by_cases he:x=y
 · have t1:(x != y)=false:=by simp [he]
   have HR:=hid (show forkB hs x y=false by unfold forkB;rw [t1];rfl)
   clear he h
   go_enter Tryz.func248,Tryz.ntmps248
   go_wp2_with fail
   go_ret
   exact ⟨by rw [HR.out]<;>rfl,rfl⟩
 have t1:(x != y)=true:=bne_iff_ne.2 he
 obtain ⟨p,hp⟩:∃ p,beforeB hs x y=p:=⟨_,rfl⟩
 obtain ⟨q,hq⟩:∃ q,beforeB hs y x=q:=⟨_,rfl⟩
 have HR:=hid (show forkB hs x y=(!p && !q) by unfold forkB;rw [t1,hp,hq];rfl)
 have HP:=hid hp;have HQ:=hid hq;have HH:=hid h
 clear he hp hq h
 cases p with
 | true =>
   go_enter Tryz.func248,Tryz.ntmps248
   go_wp2_with fail
   refine (hbefore_any HH.out x y hx hy).mono ?_
   rintro e w' ⟨rfl,rfl⟩
   rw [HP.out]
   go_wp2_with fail
   go_ret
   exact ⟨by rw [HR.out]<;>rfl,rfl⟩
 | false =>
   go_enter Tryz.func248,Tryz.ntmps248
   go_wp2_with fail
   refine (hbefore_any HH.out x y hx hy).mono ?_
   rintro e w' ⟨rfl,rfl⟩
   rw [HP.out]
   go_wp2_with fail
   refine (hbefore_any HH.out y x hy hx).mono ?_
   rintro e w' ⟨rfl,rfl⟩
   rw [HQ.out]
   cases q with
   | true =>
     go_wp2_with fail
     go_ret
     exact ⟨by rw [HR.out]<;>rfl,rfl⟩
   | false =>
     go_wp2_with fail
     go_ret
     exact ⟨by rw [HR.out]<;>rfl,rfl⟩
def OwnPost (hs:Hs) (w:World) (e:Ending) (w':World):Prop :=
 ∃ mb C,e=.returned (.map (some mb))/\IsOwn w' C mb (ownL hs (sortedF hs (marksF hs)))/\w.heap.size<=mb/\mb<C/\Upd (fun _=>False) w w'
theorem IsOwn.base {w:World} {C mb:Nat} {l:List (Int×List Int)} (h:IsOwn w C mb l):mb<C/\C<=w.heap.size:=let ⟨_,h1,_⟩:=h;h1.base
theorem ownL_few {h:Hs} {R:Rg} (H:His rdF R h) (hR:R.length<=60) (k:Nat):(ownL h ((sortedF h (marksF h)).take k)).length<=100/\∀ a,(((ownL h ((sortedF h (marksF h)).take k)).lookup a).getD []).length<=100:=by
 have h1:=(sorted_all H (ms:=marksF h) fun m q=>(mem_marksF h m).2 q).length_eq
 have h2:(marksF h).length=h.length:=by unfold marksF;rw [(sortI_perm _).length_eq,List.length_map]
 have h3:=H.len
 have h4:((sortedF h (marksF h)).take k).length<=60:=by rw [List.length_take];omega
 constructor
 · have:∀ (ms:List Int) (l:List (Int×List Int)),(l.map Prod.fst).Nodup->(ms.foldl (ownStep h) l).length<=l.length+ms.length:=by
    intro ms
    induction ms with
    | nil=>intro l _;exact Nat.le_refl _
    | cons m ms ih =>
      intro l q
      have h1:=ih (ownStep h l m) (nodup_put q _ _)
      have h2:=len_put q (entM h m).author ((l.lookup (entM h m).author).getD []++[m])
      rw [List.foldl_cons]
      unfold ownStep at h1 ⊢
      rw [List.length_cons]
      split at h2<;>omega
   have h5:=this ((sortedF h (marksF h)).take k) [] List.nodup_nil
   unfold ownL
   simp only [List.length_nil] at h5
   omega
 · intro a
   rw [ownL_look]
   split
   · exact Nat.zero_le _
   · have:=List.length_filter_le (fun m=>(entM h m).author==a) ((sortedF h (marksF h)).take k)
     rw [Option.getD_some]
     omega
theorem mark_wf {h:Hs} {R:Rg} (H:His rdF R h) (hR:R.length<=60) {m:Int} (hm:(idxF h m).isSome):0<=m/\m<=100:=by
 obtain ⟨i,hi⟩:=Option.isSome_iff_exists.1 hm
 obtain ⟨li,e⟩:=idx_some hi
 have:=mark_range H _ (List.getElem_mem li)
 rw [e] at this
 omega
theorem RgOk.key {R:Rg} (h:RgOk R):∀ p∈R,0<=p.1/\p.1<200:=fun p hp=>⟨(h.ok p hp).1,(h.ok p hp).2.1⟩
theorem ent_author {h:Hs} {R:Rg} (H:His rdF R h) (hk:RgOk R) {m:Int}:0<=(entM h m).author/\(entM h m).author<200:=by
 unfold entM
 cases e:idxF h m with
 | none=>exact (show (0:Int)<=0/\(0:Int)<200 from ⟨by decide,by decide⟩)
 | some i =>
   obtain ⟨li,_⟩:=idx_some e
   dsimp only
   rw [List.getElem?_eq_getElem li]
   exact author_key H hk.key _ (List.getElem_mem li)
theorem en_field0 (g:Nat) (w:World):(Instr.fieldAt 72 (.pointer (some ⟨g,0,none⟩)) 0).run Tryz.prog w=.ok (.pointer (some ⟨g,0,none⟩)) w:=by
 unfold Instr.fieldAt
 go_simp
theorem intl_load0 {w:World} {p:Addr} {x:Int} (h:w.cell? p=some (.int .i64 x)):(Instr.loadAt 3 (.pointer (some p))).run Tryz.prog w=.ok (.int .i64 x) w:=by
 unfold Instr.loadAt
 go_simp
theorem fown_any {O:Nat->Prop} {b r:Nat} {hs:Hs} {R:Rg} {w:World} (h:IsHis w O b r hs) (H:His rdF R hs) (hk:RgOk R) (hR:R.length<=60):Calls Tryz.prog 190 #[.pointer (some ⟨b,0,none⟩)] w (OwnPost hs w):=by
 have HH:=hid h;have HX:=hid H;have HK:=hid hk;have HR:=hid hR
 have HLT:=hid h.lt
 clear h H hk hR
 have hmk:∀ w,(Instr.makeMap 226 none).run Tryz.prog w=.ok (.map (some w.heap.size)) (w.alloc (.map #[] 0)):=fun w=>run_makeMap _ w
 go_enter Tryz.func190,Tryz.ntmps190
 go_wp2_with fail
 obtain ⟨x1,hx1⟩:∃ x1,w.alloc (.map #[] 0)=x1:=⟨_,rfl⟩
 have UA:=hid (show Upd (fun _=>False) w x1 by rw [<-hx1];exact (Upd.refl _ _).alloc _)
 have X1:=hid hx1
 rw [hx1]
 clear hx1 hmk
 refine (hmarks_any (HH.out.keep UA.out)).mono ?_
 rintro en x2 ⟨vm,rfl,ho,u⟩
 have RM:=hid (ints_rep ho fun x hx=>by have:=mark_wf HX.out HR.out ((mem_marksF hs x).1 hx);unfold I64;omega)
 have U2:=hid u
 obtain ⟨am,cm,rfl,_,_⟩:=own_slice ho
 clear ho u
 go_wp2_with fail
 refine (hsorted_any ((HH.out.keep UA.out).keep U2.out) HX.out HR.out _ _ (marksF hs) RM.out).mono ?_
 rintro en x3 ⟨vs,rfl,ho,u⟩
 have U3:=hid (U2.out.trans u)
 obtain ⟨sa,cs,rfl,hs1,hs2⟩:=own_slice ho
 have hs2:cs<=9223372036854775807:=hs2
 have OW:=hid ho
 have MI:=hid (show ∀ m∈sortedF hs (marksF hs),(idxF hs m).isSome from fun m hm=>(((sorted_ok HX.out _).2 m).1 hm).2)
 have SL:=hid (show (sortedF hs (marksF hs)).length<=60 by
  rw [(sorted_all HX.out (ms:=marksF hs) fun m q=>(mem_marksF hs m).2 q).length_eq]
  unfold marksF
  rw [(sortI_perm _).length_eq,List.length_map]
  exact Nat.le_trans HX.out.len HR.out)
 have START:=hid (show IsOwn x3 x3.heap.size w.heap.size (ownL hs ((sortedF hs (marksF hs)).take 0)) by
  have:=U3.out
  rw [<-X1.out] at this
  rw [List.take_zero]
  exact IsOwn.made this)
 have HS:=hid ((HH.out.keep UA.out).keep U3.out)
 have SZ:=hid (show w.heap.size+1<=x2.heap.size by
  have h1:=U2.out.size
  rw [<-X1.out] at h1
  simpa using h1)
 have UW3:=hid (UA.out.trans U3.out)
 obtain ⟨L,hL⟩:∃ L,sortedF hs (marksF hs)=L:=⟨_,rfl⟩
 have HLE:=hid hL
 obtain ⟨N,hN⟩:∃ N,L.length=N:=⟨_,rfl⟩
 have HN:=hid hN
 rw [hL] at OW MI SL START hs1 ⊢
 rw [hN] at hs1 ⊢
 have hN60:N<=60:=by rw [<-hN];exact SL.out
 clear ho u hL hN RM UA X1
 go_wp2_with fail
 go_loopg [14] N (fun gg s14 wr=>∃ k:Nat,k<=N/\gg=N-k/\s14=.int .i64 k/\IsOwn wr x3.heap.size w.heap.size (ownL hs (L.take k))/\Upd (fun j=>j=w.heap.size\/x3.heap.size<=j) x3 wr)
 case atStart=>exact ⟨0,Nat.zero_le _,rfl,rfl,START.out,Upd.refl _ _⟩
 case round =>
  obtain ⟨k,hk,hg,rfl,ho,hu⟩:=hrel
  have OWN:=hid ho;have UP:=hid hu;have HG:=hid hg
  clear ho hu hg START
  have UWR:=hid (show Upd (fun _=>False) w wr from UW3.out.comp UP.out fun i hi e=>by have:=UW3.out.size;omega)
  have HISR:=hid (HS.out.upd UP.out fun j hj e=>by have:=(HLT.out j hj).2;have:=UW3.out.size;omega)
  by_cases hlt:k<N
  case neg =>
   have hlti:¬(k:Int)<N:=by omega
   have HKN:=hid (show L.take k=sortedF hs (marksF hs) by rw [HLE.out];exact List.take_of_length_le (by rw [HN.out];omega))
   go_wp2_with fail
   go_ret
   have q:=OWN.out
   rw [HKN.out] at q
   exact ⟨_,_,rfl,q,Nat.le_refl _,q.base.1,UWR.out⟩
  have hlti:(k:Int)<N:=by omega
  have hk1:(k:Int)+1<=1000:=by omega
  have hkl:k<L.length:=by rw [HN.out];exact hlt
  obtain ⟨g,o,rfl,hcell⟩:∃ g o,sa=some ⟨g,o,none⟩/\wr.cell? ⟨g,o+k,none⟩=some (.int .i64 L[k]):=by
   have row:=ownsRow_upd OW.out UP.out fun g hg e=>by
    have:=own_lt OW.out g hg
    have:=SZ.out
    omega
   obtain ⟨a,c,e,_,_,h3⟩:=slice_open (ints_rep row fun x hx=>by have:=mark_wf HX.out HR.out (MI.out x hx);unfold I64;omega)
   obtain ⟨g,o,ea,_,hel⟩:=h3 (by omega)
   injection e with e1 _ _
   exact ⟨g,o,by rw [e1,ea],int_cells hel hkl⟩
  obtain ⟨m,hm⟩:∃ m,L[k]=m:=⟨_,rfl⟩
  have MS:=hid (show (idxF hs m).isSome from hm ▸ MI.out _ (List.getElem_mem hkl))
  have MW:=hid (show (Lit.int .i64 m).wf=true from iwf (by have:=mark_wf HX.out HR.out MS.out;omega))
  have STEP:=hid (show ownL hs (L.take (k+1))=ownStep hs (ownL hs (L.take k)) m by rw [List.take_succ_eq_append_getElem hkl,ownL_snoc,hm])
  rw [hm] at hcell
  clear hm
  go_wp2_with fail
  refine (hentry_any HISR.out HX.out m MW.out).mono ?_
  rintro en y1 ⟨a1,a2,a3,c1,c2,c3,rfl,_,u⟩
  rw [ent_entry]
  obtain ⟨x,hx⟩:∃ x,entM hs m=x:=⟨_,rfl⟩
  have AW:=hid (show (Lit.int .i64 x.author).wf=true from iwf (by have:=ent_author HX.out HK.out (m:=m);rw [hx] at this;omega))
  have HXE:=hid hx
  rw [hx]
  obtain ⟨W3,hW3⟩:∃ W3,W3=y1.alloc (.cells (en13 x a1 a2 a3 c1 c2 c3) 72 (0,0)):=⟨_,rfl⟩
  have u3:Upd (fun _=>False) y1 W3:=by rw [hW3];exact (Upd.refl _ _).alloc _
  obtain ⟨eb,heb⟩:∃ eb,y1.heap.size=eb:=⟨_,rfl⟩
  have EB:=hid (show W3.heap[eb]? = some (.cells (en13 x a1 a2 a3 c1 c2 c3) 72 (0,0)) by rw [hW3,<-heb];exact heap_alloc_new)
  have U3W:=hid (u.trans u3)
  have EBL:=hid (show wr.heap.size<=eb by rw [<-heb];exact u.size)
  have HW3:=hid hW3;have HEB:=hid heb
  clear hx hW3 heb u u3 hcell
  unfold enV
  go_upto_region 6 with (fail)
  rw [<-(show W3=y1.alloc (.cells #[.int .i64 x.author,.int .i64 x.seq,.int .i64 x.day,.slice a1 x.knows.length c1,.int .i64 x.kind,.int .i64 x.circle,.int .i64 x.who,.int .i64 x.n,.int .i64 x.m,.int .i64 x.ref,.slice a2 x.keys.length c2,.slice a3 x.spans.length c3,.string ⟨x.text.toArray⟩] 72 (0,0)) from HW3.out)]
  try rw [HEB.out]
  clear HW3 HEB
  obtain ⟨W4,hW4⟩:∃ W4,W3.drew=W4:=⟨_,rfl⟩
  have U4W:=hid (show Upd (fun _=>False) wr W4 by rw [<-hW4];exact U3W.out.drew)
  have EB4:=hid (show W4.heap[eb]? = some (.cells (en13 x a1 a2 a3 c1 c2 c3) 72 (0,0)) by rw [<-hW4];exact EB.out)
  obtain ⟨v,v',w5,w6,hvb,hlk,⟨va,vn,vc,rfl,hvc,hvn⟩,hap,hu5,hmu,hown,hu6⟩:=OWN.out.put U4W.out x.author m AW.out (Nat.le_trans ((ownL_few HX.out HR.out k).2 x.author |> fun q=>by rw [HLE.out] at q;exact q) (by decide:(100:Nat)<=1000)) (Nat.le_trans ((ownL_few HX.out HR.out k).1 |> fun q=>by rw [HLE.out] at q;exact q) (by decide:(100:Nat)<=1000))
  have HVB:=hid hvb;have HLK:=hid hlk;have U5:=hid hu5;have OWN6:=hid hown;have U6:=hid hu6;have HAP:=hid hap;have HMU:=hid hmu
  clear hvb hlk hu5 hown hu6
  refine wp_region_g (fun w'=>w'.cell? ⟨eb,0,none⟩=some (.int .i64 x.author)/\(Instr.lookup 226 (.map (some w.heap.size)) (.int .i64 x.author) false).run Tryz.prog w'=.ok (.slice va vn vc) w') 10 (by kernel_rfl) ?_
  rw [hW4]
  clear hW4
  have KEEP:=hid (fun (z:World) (u:Upd (fun j=>Value.ownBlock (.slice va vn vc)=some j) W4 z)=>(show z.cell? ⟨eb,0,none⟩=some (.int .i64 x.author)/\(Instr.lookup 226 (.map (some w.heap.size)) (.int .i64 x.author) false).run Tryz.prog z=.ok (.slice va vn vc) z from
   ⟨by rw [cell_of_block ((u.block eb (heap_lt EB4.out) fun e=>by have:=(HVB.out eb e).2;have:=EBL.out;omega).trans EB4.out)];rfl,HLK.out z u⟩))
  have hS:=KEEP.out W4 (Upd.refl _ _)
  refine g_take0 (i:=0) rfl (by kernel_rfl) (by kernel_rfl) (by kernel_rfl) (by decide) (fun _ _ _ h=>h) (yields_move (by kernel_rfl) _ rfl rfl) (fun _=>hS) ?_
  (try simp only [List.getElem_toArray,List.getElem_cons_zero])
  (try go_frame)
  refine g_take0 (i:=1) rfl (by kernel_rfl) (by kernel_rfl) (by kernel_rfl) (by decide) (fun _ _ _ h=>h) (yields_field (by kernel_rfl) _ _ _ rfl rfl (fun w _=>en_field0 _ w)) (fun _=>hS) ?_
  (try simp only [List.getElem_toArray,List.getElem_cons_zero,List.getElem_cons_succ])
  (try go_frame)
  refine g_take (i:=2) rfl (by kernel_rfl) (by kernel_rfl) (by kernel_rfl) (by kernel_rfl) (fun _ _ _ h=>h) (yields_load (by kernel_rfl) _ _ rfl rfl (fun w hw=>intl_load0 hw.1)) hS ?_
  (try simp only [List.getElem_toArray,List.getElem_cons_zero,List.getElem_cons_succ])
  (try go_frame)
  refine g_take0 (i:=3) rfl (by kernel_rfl) (by kernel_rfl) (by kernel_rfl) (by decide) (fun _ _ _ h=>h) (yields_move (by kernel_rfl) _ rfl rfl) (fun _=>hS) ?_
  (try simp only [List.getElem_toArray,List.getElem_cons_zero,List.getElem_cons_succ])
  (try go_frame)
  refine g_take0 (i:=4) rfl (by kernel_rfl) (by kernel_rfl) (by kernel_rfl) (by decide) (fun _ _ _ h=>h) (yields_field (by kernel_rfl) _ _ _ rfl rfl (fun w _=>en_field0 _ w)) (fun _=>hS) ?_
  (try simp only [List.getElem_toArray,List.getElem_cons_zero,List.getElem_cons_succ])
  (try go_frame)
  refine g_take (i:=5) rfl (by kernel_rfl) (by kernel_rfl) (by kernel_rfl) (by kernel_rfl) (fun _ _ _ h=>h) (yields_load (by kernel_rfl) _ _ rfl rfl (fun w hw=>intl_load0 hw.1)) hS ?_
  (try simp only [List.getElem_toArray,List.getElem_cons_zero,List.getElem_cons_succ])
  (try go_frame)
  refine g_take (i:=6) rfl (by kernel_rfl) (by kernel_rfl) (by kernel_rfl) (by kernel_rfl) (fun _ _ _ h=>h) (yields_lookup (by kernel_rfl) _ _ _ _ rfl rfl rfl (fun w hw=>hw.2)) hS ?_
  (try simp only [List.getElem_toArray,List.getElem_cons_zero,List.getElem_cons_succ])
  (try go_frame)
  refine g_take0 (i:=7) rfl (by kernel_rfl) (by kernel_rfl) (by kernel_rfl) (by decide) (fun _ _ _ h=>h) (yields_move (by kernel_rfl) _ rfl rfl) (fun _=>hS) ?_
  (try simp only [List.getElem_toArray,List.getElem_cons_zero,List.getElem_cons_succ])
  (try go_frame)
  have hS5:=KEEP.out (W4.alloc (.cells #[.int .i64 m] 3 (0,0))) ((Upd.refl _ _).alloc _)
  have hS6:=KEEP.out w5 U5.out
  refine g_op (i:=8) (by kernel_rfl) rfl ?_
  go_wp2_with fail
  try with_reducible refine And.intro (fun _=>hS5) ?_
  refine g_op (i:=9) (by kernel_rfl) rfl ?_
  refine wpList_append_run rfl _ _ _ _ rfl rfl rfl HAP.out ?_
  go_wp2_with fail
  try with_reducible refine And.intro (fun _=>hS6) ?_
  refine g_op (i:=10) (by kernel_rfl) rfl ?_
  go_wp2_with fail
  try with_reducible refine And.intro (fun h=>absurd h (by simp)) ?_
  refine g_done (by kernel_rfl) ?_
  go_wp2_with fail
  go_roundg (N-(k+1))
  case measure=>have:=HG.out;omega
  case rel =>
   refine ⟨k+1,by omega,rfl,by go_num,?_,?_⟩
   · rw [STEP.out]
     unfold ownStep
     rw [HXE.out]
     exact OWN6.out
   · exact UP.out.trans ((U4W.out.mono fun _ q=>q.elim).trans U6.out)
end Go.Proofs.YtjkmalddfoemhaaGreatDoor
namespace Go.Proofs.YtjkmalddfoemhaaGreatDoor
open Go.RowKit Go.Deep
def prV (p:Int×Int):Value:=.agg #[.int .i64 p.1,.int .i64 p.2]
theorem fpair_any {O:Nat->Prop} {b r:Nat} {hs:Hs} {w:World} (h:IsHis w O b r hs) (A:Nat->Prop) (v:Value) (l:List Int) (hl:kInts.rep A w [v] l) (hm:∀ m∈l,0<=m/\m<=100) (hA:∀ g,A g->g<w.heap.size):Calls Tryz.prog 193 #[.pointer (some ⟨b,0,none⟩),v] w fun e w'=>e=.returned (.tuple #[prV ((pairF hs l).getD (0,0)),.bool (pairF hs l).isSome])/\Upd (fun _=>False) w w':=by
 obtain ⟨a,cap,rfl,p1,p2,p3⟩:=slice_open hl
 have p2:cap<=9223372036854775807:=p2
 have MW:=hid (fun m (q:m∈l)=>(show (Lit.int .i64 m).wf=true from iwf (by have:=hm m q;omega)))
 obtain ⟨W,hW⟩:∃ W,W=w.alloc (.cells #[.int .i64 0,.int .i64 0] 38 (0,0)):=⟨_,rfl⟩
 have u:Upd (fun _=>False) w W:=by rw [hW];exact (Upd.refl _ _).alloc _
 have HB:=hid (show W.heap[w.heap.size]? = some (.cells #[.int .i64 0,.int .i64 0] 38 (0,0)) by rw [hW];exact heap_alloc_new)
 have CELL:=hid (fun (hp:0<l.length)=>(show ∃ g o,a=some ⟨g,o,none⟩/\∀ k (hk:k<l.length),W.cell? ⟨g,o+k,none⟩=some (.int .i64 l[k]) from by
  obtain ⟨g,o,e,hg,hel⟩:=p3 hp
  exact ⟨g,o,e,fun k hk=>cell_kept (int_cells hel hk) (u.block g (hA g hg) id)⟩))
 have HH:=hid (h.keep u);have U:=hid u;have HW:=hid hW
 obtain ⟨N,hN⟩:∃ N,l.length=N:=⟨_,rfl⟩
 have HN:=hid hN
 rw [hN] at p1 ⊢
 have hN1:N<=9223372036854775806\/N=9223372036854775807:=by omega
 clear hl hm hA h u hW p3 hN
 go_enter Tryz.func193,Tryz.ntmps193
 go_wp2_with fail
 rw [<-HW.out]
 go_loopg [12] N (fun gg s12 wr=>∃ i:Nat,i<=N/\gg=N-i/\s12=.int .i64 i/\(∀ a∈l.take i,∀ b∈l,forkB hs a b=false)/\W=wr)
 case atStart=>exact ⟨0,Nat.zero_le _,rfl,rfl,fun a ha=>(by rw [List.take_zero] at ha;cases ha),rfl⟩
 case round =>
  obtain ⟨i,hi,hg,rfl,hf,rfl⟩:=hrel
  have HG:=hid hg;have HF:=hid hf
  clear hg hf
  by_cases hlt:i<N
  case neg =>
   have hlti:¬(i:Int)<N:=by omega
   obtain ⟨r0,r1,rf⟩:=cells2 HB.out
   have HR:=hid (pair_no (h:=hs) (l:=l) (fun a ha=>HF.out a (by rw [List.take_of_length_le (by rw [HN.out];omega)];exact ha)))
   go_wp2_with fail
   refine bodyPost_ret (v:=.tuple #[.agg #[.int .i64 0,.int .i64 0],.bool false]) (by rw [results_cell_tmp rfl];go_simp) rfl ?_
   exact ⟨by rw [HR.out];rfl,by repeat (first | exact U.out | (refine Upd.set0 ?_ _ _) | exact Upd.refl _ _)⟩
  have hlti:(i:Int)<N:=by omega
  have hil:i<l.length:=by rw [HN.out];exact hlt
  obtain ⟨g,o,rfl,hcell⟩:=CELL.out (by omega)
  have CE:=hid hcell
  have hi1:(i:Int)+1<=9223372036854775807:=by omega
  have m0:=hcell i hil
  obtain ⟨x,hx⟩:∃ x,l[i]=x:=⟨_,rfl⟩
  have HX:=hid hx
  have XW:=hid (show (Lit.int .i64 x).wf=true from hx ▸ MW.out _ (List.getElem_mem hil))
  rw [hx] at m0
  clear hcell hx
  go_wp2_with fail
  clear m0
  go_loopg [18] N (fun gg s18 wx=>∃ j:Nat,j<=N/\gg=N-j/\s18=.int .i64 j/\(∀ b∈l.take j,forkB hs x b=false)/\W=wx)
  case atStart=>exact ⟨0,Nat.zero_le _,rfl,rfl,fun a ha=>(by rw [List.take_zero] at ha;cases ha),rfl⟩
  case round =>
   obtain ⟨j,hj,hg,rfl,hf,rfl⟩:=hrel
   have HGJ:=hid hg;have HFJ:=hid hf
   clear hg hf
   by_cases hlj:j<N
   case neg =>
    have hlji:¬(j:Int)<N:=by omega
    go_wp2_with fail
    go_roundg (N-(i+1))
    case measure=>have:=HG.out;omega
    case rel =>
     refine ⟨i+1,by omega,rfl,by go_num,?_,rfl⟩
     refine take_next (P:=fun a=>∀ b∈l,forkB hs a b=false) hil HF.out ?_
     rw [HX.out]
     intro b hb
     exact HFJ.out b (by rw [List.take_of_length_le (by rw [HN.out];omega)];exact hb)
   have hlji:(j:Int)<N:=by omega
   have hjl:j<l.length:=by rw [HN.out];exact hlj
   have hj1:(j:Int)+1<=9223372036854775807:=by omega
   have m0:=CE.out j hjl
   obtain ⟨y,hy⟩:∃ y,l[j]=y:=⟨_,rfl⟩
   have HY:=hid hy
   have YW:=hid (show (Lit.int .i64 y).wf=true from hy ▸ MW.out _ (List.getElem_mem hjl))
   rw [hy] at m0
   clear hy
   go_wp2_with fail
   refine (ffork_any HH.out x y XW.out YW.out).mono ?_
   rintro e w' ⟨rfl,rfl⟩
   obtain ⟨fb,hfb⟩:∃ fb,forkB hs x y=fb:=⟨_,rfl⟩
   have HFB:=hid hfb
   rw [hfb]
   clear hfb m0
   cases fb with
   | false =>
     go_wp2_with fail
     go_roundg (N-(j+1))
     case measure=>have:=HGJ.out;omega
     case rel =>
      refine ⟨j+1,by omega,rfl,by go_num,?_,rfl⟩
      refine take_next (P:=fun b=>forkB hs x b=false) hjl HFJ.out ?_
      rw [HY.out]
      exact HFB.out
   | true =>
     obtain ⟨r0,r1,rf⟩:=cells2 HB.out
     have HR:=hid (show pairF hs l=some (x,y) by
      have:=pair_at (h:=hs) hil hjl HF.out (by rw [HX.out];exact HFJ.out) (by rw [HX.out,HY.out];exact HFB.out)
      rw [HX.out,HY.out] at this
      exact this)
     go_wp2_with fail
     refine bodyPost_ret (v:=.tuple #[.agg #[.int .i64 x,.int .i64 y],.bool true]) (by rw [results_cell_tmp rfl];go_simp) rfl ?_
     exact ⟨by rw [HR.out];rfl,by repeat (first | exact U.out | (refine Upd.set0 ?_ _ _) | exact Upd.refl _ _)⟩
end Go.Proofs.YtjkmalddfoemhaaGreatDoor
namespace Go.Proofs.YtjkmalddfoemhaaGreatDoor
open Go.RowKit Go.Deep
def prCells (p:Int×Int):List Value:=[.int .i64 p.1,.int .i64 p.2]
def prFlat (l:List (Int×Int)):List Value:=(l.map prCells).flatten
theorem prFlat_snoc (l:List (Int×Int)) (p:Int×Int):prFlat (l++[p])=prFlat l++prCells p:=by unfold prFlat;simp
theorem prFlat_get (l:List (Int×Int)) (i:Nat) (h:i<l.length) (j:Nat) (hj:j<2):(prFlat l)[i*2+j]? = (prCells l[i])[j]?:=flat_get (f:=prCells) (n:=2) (fun _=>rfl) l i h j hj
def PrsAt (w:World) (B:Nat) (v:Value) (l:List (Int×Int)):Prop:=w.ownsRow B 38 2 v l.length (prFlat l)
theorem PrsAt.get {w:World} {B:Nat} {v:Value} {l:List (Int×Int)} (h:PrsAt w B v l) (hp:0<l.length):∃ g cap,v=.slice (some ⟨g,0,none⟩) l.length cap/\l.length<=cap/\cap<=maxLen/\B<=g/\g<w.heap.size ∧
 ∀ i (hi:i<l.length),w.cell? ⟨g,i*2,none⟩=some (.int .i64 l[i].1)/\w.cell? ⟨g,i*2+1,none⟩=some (.int .i64 l[i].2):=by
 obtain ⟨h1,⟨h2,h3⟩ | ⟨g,cap,cur,hv,hb,hg,hn,hc,hs,ht⟩⟩:=h
 · omega
 · refine ⟨g,cap,hv,hn,hc,hb,heap_lt hg,fun i hi=>?_⟩
   have key:∀ j,j<2->w.cell? ⟨g,i*2+j,none⟩=(prCells l[i])[j]?:=fun j hj=>by
    rw [cell_of_block hg,<-prFlat_get l i hi j hj,<-ht,List.getElem?_take,if_pos,Array.getElem?_toList]
    calc i*2+j<i*2+2:=by omega
     _=(i+1)*2:=by omega
     _<=l.length*2:=Nat.mul_le_mul_right _ hi
   exact ⟨key 0 (by decide),key 1 (by decide)⟩
theorem elemPr:ElemTy Tryz.prog 33 38 2 16:=ElemTy.mk' (z:=.agg #[.int .i64 0,.int .i64 0]) Tryz.underlying33 (by kernel_rfl) (by rfl) (by decide)
def PrsPost (l:List (Int×Int)) (w:World) (e:Ending) (w':World):Prop:=∃ v,e=.returned v/\PrsAt w' w.heap.size v l/\Upd (fun _=>False) w w'
theorem prs_lt {w:World} {B:Nat} {v:Value} {l:List (Int×Int)} (h:PrsAt w B v l):∀ g,v.ownBlock=some g->B<=g/\g<w.heap.size:=by
 intro g hg
 rcases ownsRow_fits h with ⟨rfl,_⟩ | ⟨g',cap,rfl,h1,h2,_⟩
 · cases hg
 · cases hg;exact ⟨h1,h2⟩
theorem prs_slice {w:World} {B:Nat} {v:Value} {l:List (Int×Int)} (h:PrsAt w B v l):∃ a c,v=.slice a l.length c/\l.length<=c/\c<=maxLen:=own_slice h
theorem Upd.shut {S:Nat->Prop} {a b:World} (u:Upd S a b) (h:∀ i,i<a.heap.size->¬S i):Upd (fun _=>False) a b:=⟨u.os,u.tape,u.output,u.size,fun i hi _=>u.block i hi (h i hi)⟩
def forksTo (h:Hs) (k:Nat):List (Int×Int):=((authorsF h).take k).filterMap fun a=>pairF h (ownF h a)
theorem forksTo_all {h:Hs} {k:Nat} (hk:(authorsF h).length<=k):forksTo h k=forksF h:=by unfold forksTo forksF;rw [List.take_of_length_le hk]
theorem forksTo_succ {h:Hs} {k:Nat} (hk:k<(authorsF h).length):forksTo h (k+1)=forksTo h k++(pairF h (ownF h (authorsF h)[k])).toList:=by
 unfold forksTo
 rw [List.take_succ_eq_append_getElem hk,List.filterMap_append]
 congr 1
theorem forksTo_len (h:Hs) (k:Nat):(forksTo h k).length<=k:=by
 unfold forksTo
 refine Nat.le_trans (List.length_filterMap_le _ _) ?_
 rw [List.length_take]
 omega
theorem authors_key {h:Hs} {R:Rg} (H:His rdF R h) (hk:RgOk R):∀ a∈authorsF h,0<=a/\a<200:=by
 intro a ha
 unfold authorsF at ha
 rw [(rising_ok _).2] at ha
 obtain ⟨n,hn,rfl⟩:=List.mem_map.1 ha
 exact author_key H hk.key n hn
theorem fforks_any {O:Nat->Prop} {b r:Nat} {hs:Hs} {R:Rg} {w:World} (h:IsHis w O b r hs) (H:His rdF R hs) (hk:RgOk R) (hR:R.length<=60):Calls Tryz.prog 127 #[.pointer (some ⟨b,0,none⟩)] w (PrsPost (forksF hs) w):=by
 have HH:=hid h;have HX:=hid H;have HK:=hid hk;have HR:=hid hR
 clear h H hk hR
 go_enter Tryz.func127,Tryz.ntmps127
 go_wp2_with fail
 refine (fown_any HH.out HX.out HK.out HR.out).mono ?_
 rintro en x1 ⟨mb,C,rfl,hown,hmb,hC,u⟩
 have OWN:=hid hown;have U1:=hid u;have HMB:=hid hmb;have HCB:=hid hC
 clear hown u hmb hC
 go_wp2_with fail
 refine (fkeys_any (some mb) _).mono ?_
 rintro en x2 ⟨rfl,hx2⟩
 obtain ⟨E,HE,hE⟩:=OWN.out
 have KEYS:=hid (show ((owV E).map Prod.fst).mergeSort Go.leI=authorsF hs from by
  have e1:(owV E).map Prod.fst=(owL E).map Prod.fst:=by unfold owV owL;rw [List.map_map,List.map_map];rfl
  rw [e1,hE]
  exact own_keys HX.out)
 have ELEN:=hid (show (owV E).length<=1000000 from by
  have:=(ownL_few HX.out HR.out 1000000).1
  have hl:(sortedF hs (marksF hs)).length<=1000000:=by
   rw [(sorted_all HX.out (ms:=marksF hs) fun m q=>(mem_marksF hs m).2 q).length_eq]
   unfold marksF
   rw [(sortI_perm _).length_eq,List.length_map]
   exact Nat.le_trans HX.out.len (Nat.le_trans HR.out (by decide))
  rw [List.take_of_length_le hl,<-hE] at this
  unfold owL at this
  unfold owV
  rw [List.length_map] at this ⊢
  omega)
 subst hx2
 go_wp2_with fail
 refine (fsorted_any HE.map ELEN.out KEYS.out).mono ?_
 rintro en x3 ⟨vk,rfl,ho,u⟩
 have AK:=hid (authors_key HX.out HK.out)
 have AL:=hid (Nat.le_trans (authors_len HX.out) (Nat.le_trans HX.out.len HR.out))
 have RK:=hid (ints_rep ho fun x hx=>by have:=AK.out x hx;unfold I64;omega)
 obtain ⟨ak,ck,rfl,hk1,hk2⟩:=own_slice ho
 have hk2:ck<=9223372036854775807:=hk2
 have U3:=hid (U1.out.trans u)
 replace OWN:=hid (OWN.out.keep u)
 have HIS:=hid (HH.out.keep U3.out)
 have CELL:=hid (fun (y:World) (uy:Upd (fun j=>x3.heap.size<=j) x3 y) (hp:0<(authorsF hs).length)=>(show ∃ g o,ak=some ⟨g,o,none⟩/\∀ k (hk:k<(authorsF hs).length),y.cell? ⟨g,o+k,none⟩=some (.int .i64 (authorsF hs)[k]) from by
  obtain ⟨a,c,e,_,_,h3⟩:=slice_open RK.out
  obtain ⟨g,o,ea,hg,hel⟩:=h3 hp
  injection e with e1 _ _
  exact ⟨g,o,by rw [e1,ea],fun k hk=>cell_kept (int_cells hel hk) (uy.block g hg.2 (by have:=hg.2;omega))⟩))
 obtain ⟨N,hN⟩:∃ N,(authorsF hs).length=N:=⟨_,rfl⟩
 have HN:=hid hN
 have hN60:N<=60:=by rw [<-hN];exact AL.out
 rw [hN] at hk1 ⊢
 clear ho u hN HE hE KEYS ELEN E RK
 go_wp2_with fail
 go_loopg [3,15] N (fun gg s3 s15 wr=>∃ k:Nat,k<=N/\gg=N-k/\s15=.int .i64 k/\PrsAt wr x3.heap.size s3 (forksTo hs k)/\Upd (fun j=>x3.heap.size<=j) x3 wr)
 case atStart=>exact ⟨0,Nat.zero_le _,rfl,rfl,World.ownsRow_nil _ _ _ _,Upd.refl _ _⟩
 case round =>
  obtain ⟨k,hk,hg,rfl,ho,hu⟩:=hrel
  have OP:=hid ho;have UP:=hid hu;have HG:=hid hg
  clear ho hu hg
  have UF:=hid (UP.out.shut fun i hi q=>by omega)
  by_cases hlt:k<N
  case neg =>
   have hlti:¬(k:Int)<N:=by omega
   have HKN:=hid (forksTo_all (h:=hs) (k:=k) (by rw [HN.out];omega))
   go_wp2_with fail
   go_ret
   have q:=OP.out
   rw [HKN.out] at q
   exact ⟨_,rfl,ownsRow_base q (by have:=U3.out.size;omega),U3.out.trans UF.out⟩
  have hlti:(k:Int)<N:=by omega
  have hk1:(k:Int)+1<=1000:=by omega
  have hkl:k<(authorsF hs).length:=by rw [HN.out];exact hlt
  obtain ⟨g,o,rfl,hcell⟩:=CELL.out _ UP.out (by omega)
  have m0:=hcell k hkl
  obtain ⟨au,hau⟩:∃ au,(authorsF hs)[k]=au:=⟨_,rfl⟩
  have AW:=hid (show (Lit.int .i64 au).wf=true from iwf (by have:=AK.out _ (List.getElem_mem hkl);rw [hau] at this;omega))
  have STEP:=hid (show forksTo hs (k+1)=forksTo hs k++(pairF hs (ownF hs au)).toList by rw [forksTo_succ hkl,hau])
  rw [hau] at m0
  obtain ⟨v,hlk,hrow,_⟩:=(OWN.out.keep UF.out).get au AW.out
  rw [ownL_get] at hrow
  have RROW:=hid (ints_rep hrow fun x hx=>by
   have:=mark_wf HX.out HR.out ((mem_own HX.out au x).1 hx).1
   unfold I64;omega)
  obtain ⟨av,cv,rfl,_,_⟩:=own_slice hrow
  clear hcell hau hrow
  go_wp2_with fail
  refine (fpair_any (HIS.out.keep UF.out) _ _ (ownF hs au) RROW.out (fun m hm=>mark_wf HX.out HR.out ((mem_own HX.out au m).1 hm).1) (fun g hg=>hg.2)).mono ?_
  rintro en y1 ⟨rfl,u⟩
  obtain ⟨op,hop⟩:∃ op,pairF hs (ownF hs au)=op:=⟨_,rfl⟩
  rw [hop] at STEP ⊢
  have UY:=hid u
  clear u hop m0 hlk
  unfold prV
  cases op with
  | none =>
    obtain ⟨y2,hy2⟩:∃ y2,y2=y1.alloc (.cells #[.int .i64 0,.int .i64 0] 38 (0,0)):=⟨_,rfl⟩
    have UY2:=hid (show Upd (fun _=>False) wr y2 by rw [hy2];exact UY.out.alloc _)
    have HY2:=hid hy2
    clear hy2
    simp only [Option.getD_none,Option.isSome_none]
    go_wp2_with fail
    try rw [<-HY2.out]
    go_roundg (N-(k+1))
    case measure=>have:=HG.out;omega
    case rel =>
     refine ⟨k+1,by omega,rfl,by go_num,?_,UP.out.trans (UY2.out.mono fun _ q=>q.elim)⟩
     rw [STEP.out]
     simp only [Option.toList_none,List.append_nil]
     exact ownsRow_upd OP.out UY2.out fun _ _=>id
  | some p =>
    obtain ⟨p1,p2⟩:=p
    obtain ⟨y2,hy2⟩:∃ y2,y2=y1.alloc (.cells #[.int .i64 p1,.int .i64 p2] 38 (0,0)):=⟨_,rfl⟩
    have UY2:=hid (show Upd (fun _=>False) wr y2 by rw [hy2];exact UY.out.alloc _)
    have YB:=hid (show y2.heap[y1.heap.size]? = some (.cells #[.int .i64 p1,.int .i64 p2] 38 (0,0)) by rw [hy2];exact heap_alloc_new)
    have HY2:=hid hy2
    have row2:=ownsRow_upd OP.out UY2.out fun _ _=>id
    have hx3:x3.heap.size<=y2.heap.size:=Nat.le_trans UP.out.size UY2.out.size
    obtain ⟨v',w4,r4,o4,u4,n4⟩:=append_one elemPr row2 #[.int .i64 p1,.int .i64 p2] rfl (by simp [Value.oneCell']) (by have:=forksTo_len hs k;unfold maxLen;omega) (by have:=forksTo_len hs k;omega) hx3 33 (0,0)
    have O4:=hid o4;have R4:=hid r4
    have U4:=hid (show Upd (fun j=>x3.heap.size<=j) y2 w4 from u4.mono fun j hj=>(prs_lt OP.out j hj).1)
    have m1:y2.cell? ⟨y1.heap.size,0,none⟩=some (.int .i64 p1):=by rw [cell_of_block YB.out];rfl
    have m2:y2.cell? ⟨y1.heap.size,1,none⟩=some (.int .i64 p2):=by rw [cell_of_block YB.out];rfl
    clear hy2 row2 hx3 o4 u4 n4 r4
    simp only [Option.getD_some,Option.isSome_some]
    go_upto_region 8 with (fail)
    try rw [<-HY2.out]
    go_wp2_with (at_builtin;refine wpList_append_run rfl _ _ _ _ rfl rfl rfl R4.out ?_)
    go_roundg (N-(k+1))
    case measure=>have:=HG.out;omega
    case rel =>
     refine ⟨k+1,by omega,rfl,by go_num,?_,UP.out.trans ((UY2.out.mono fun _ q=>q.elim).trans U4.out)⟩
     rw [STEP.out]
     show PrsAt _ _ _ (forksTo hs k++[(p1,p2)])
     unfold PrsAt
     rw [prFlat_snoc,List.length_append]
     exact O4.out
end Go.Proofs.YtjkmalddfoemhaaGreatDoor
namespace Go.Proofs.YtjkmalddfoemhaaGreatDoor
open Go.RowKit Go.Deep
def guiltyTo (h:Hs) (k:Nat):List Int:=((forksF h).take k).map fun p=>(entM h p.1).author
theorem guiltyTo_all {h:Hs} {R:Rg} (H:His rdF R h) {k:Nat} (hk:(forksF h).length<=k):guiltyTo h k=guiltyF h:=by unfold guiltyTo;rw [List.take_of_length_le hk,forks_authors H]
theorem guiltyTo_succ {h:Hs} {k:Nat} (hk:k<(forksF h).length):guiltyTo h (k+1)=guiltyTo h k++[(entM h (forksF h)[k].1).author]:=by
 unfold guiltyTo;rw [List.take_succ_eq_append_getElem hk,List.map_append];rfl
theorem guiltyTo_len (h:Hs) (k:Nat):(guiltyTo h k).length<=k:=by unfold guiltyTo;rw [List.length_map,List.length_take];omega
theorem forks_small {h:Hs} {R:Rg} (H:His rdF R h) (hR:R.length<=60):∀ p∈forksF h,(0<=p.1/\p.1<=100)/\(0<=p.2/\p.2<=100):=by
 intro p hp
 obtain ⟨i,hi,rfl⟩:=List.getElem_of_mem hp
 unfold forksF at hp
 obtain ⟨a,_,ha⟩:=List.mem_filterMap.1 (List.getElem_mem hi)
 obtain ⟨h1,h2,_⟩:=pair_some ha
 exact ⟨mark_wf H hR ((mem_own H a _).1 h1).1,mark_wf H hR ((mem_own H a _).1 h2).1⟩
theorem forks_few {h:Hs} {R:Rg} (H:His rdF R h) (hR:R.length<=60):(forksF h).length<=60:=by
 have h1:=forksTo_len h (authorsF h).length
 rw [forksTo_all (Nat.le_refl _)] at h1
 have:=authors_len H
 have:=H.len
 omega
theorem fguilty_any {O:Nat->Prop} {b r:Nat} {hs:Hs} {R:Rg} {w:World} (h:IsHis w O b r hs) (H:His rdF R hs) (hk:RgOk R) (hR:R.length<=60):Calls Tryz.prog 65 #[.pointer (some ⟨b,0,none⟩)] w (IntsPost (guiltyF hs) w):=by
 have HH:=hid h;have HX:=hid H;have HK:=hid hk;have HR:=hid hR
 clear h H hk hR
 go_enter Tryz.func65,Tryz.ntmps65
 go_wp2_with fail
 refine (fforks_any HH.out HX.out HK.out HR.out).mono ?_
 rintro en x3 ⟨vp,rfl,ho,u⟩
 have OW:=hid ho;have U3:=hid u
 obtain ⟨ap,cp,rfl,hp1,hp2⟩:=prs_slice ho
 have hp2:cp<=9223372036854775807:=hp2
 have HIS:=hid (HH.out.keep u)
 have FS:=hid (forks_small HX.out HR.out)
 have FL:=hid (forks_few HX.out HR.out)
 have CELL:=hid (fun (y:World) (uy:Upd (fun j=>x3.heap.size<=j) x3 y) (hp:0<(forksF hs).length)=>(show ∃ g,ap=some ⟨g,0,none⟩/\∀ k (hk:k<(forksF hs).length),y.cell? ⟨g,k*2,none⟩=some (.int .i64 (forksF hs)[k].1)/\y.cell? ⟨g,k*2+1,none⟩=some (.int .i64 (forksF hs)[k].2) from by
  obtain ⟨g,cap,e,_,_,_,hgl,hc⟩:=PrsAt.get OW.out hp
  injection e with e1 _ _
  exact ⟨g,e1,fun k hk=>⟨cell_kept (hc k hk).1 (uy.block g hgl (by omega)),cell_kept (hc k hk).2 (uy.block g hgl (by omega))⟩⟩))
 obtain ⟨N,hN⟩:∃ N,(forksF hs).length=N:=⟨_,rfl⟩
 have HN:=hid hN
 have hN60:N<=60:=by rw [<-hN];exact FL.out
 rw [hN] at hp1 ⊢
 clear ho u hN OW
 go_wp2_with fail
 go_loopg [3,11] N (fun gg s3 s11 wr=>∃ k:Nat,k<=N/\gg=N-k/\s11=.int .i64 k/\wr.ownsRow x3.heap.size 3 1 s3 (guiltyTo hs k).length ((guiltyTo hs k).map fun x=>.int .i64 x)/\Upd (fun j=>x3.heap.size<=j) x3 wr)
 case atStart=>exact ⟨0,Nat.zero_le _,rfl,rfl,World.ownsRow_nil _ _ _ _,Upd.refl _ _⟩
 case round =>
  obtain ⟨k,hk,hg,rfl,ho,hu⟩:=hrel
  have OP:=hid ho;have UP:=hid hu;have HG:=hid hg
  clear ho hu hg
  have UF:=hid (UP.out.shut fun i hi q=>by omega)
  by_cases hlt:k<N
  case neg =>
   have hlti:¬(k:Int)<N:=by omega
   have HKN:=hid (guiltyTo_all HX.out (k:=k) (by rw [HN.out];omega))
   go_wp2_with fail
   go_ret
   have q:=OP.out
   rw [HKN.out] at q
   exact ⟨_,rfl,ownsRow_base q U3.out.size,U3.out.trans UF.out⟩
  have hlti:(k:Int)<N:=by omega
  have hk1:(k:Int)+1<=1000:=by omega
  have hkl:k<(forksF hs).length:=by rw [HN.out];exact hlt
  obtain ⟨g,rfl,hcell⟩:=CELL.out _ UP.out (by omega)
  obtain ⟨m0,m1⟩:=hcell k hkl
  obtain ⟨p,hp⟩:∃ p,(forksF hs)[k]=p:=⟨_,rfl⟩
  have PW:=hid (show (Lit.int .i64 p.1).wf=true from iwf (by have:=(FS.out _ (List.getElem_mem hkl)).1;rw [hp] at this;omega))
  have STEP:=hid (show guiltyTo hs (k+1)=guiltyTo hs k++[(entM hs p.1).author] by rw [guiltyTo_succ hkl,hp])
  rw [hp] at m0 m1
  clear hcell hp
  obtain ⟨y0,hy0⟩:∃ y0,y0=wr.alloc (.cells #[.int .i64 p.1,.int .i64 p.2] 38 (0,0)):=⟨_,rfl⟩
  have UY0:=hid (show Upd (fun _=>False) wr y0 by rw [hy0];exact (Upd.refl _ _).alloc _)
  have YB:=hid (show y0.heap[wr.heap.size]? = some (.cells #[.int .i64 p.1,.int .i64 p.2] 38 (0,0)) by rw [hy0];exact heap_alloc_new)
  have HY0:=hid hy0
  have n0:y0.cell? ⟨wr.heap.size,0,none⟩=some (.int .i64 p.1):=by rw [cell_of_block YB.out];rfl
  clear hy0
  go_upto_region 5 with (fail)
  try rw [<-HY0.out]
  clear m0 m1
  go_wp2_with fail
  refine (hentry_any ((HIS.out.keep UF.out).keep UY0.out) HX.out p.1 PW.out).mono ?_
  rintro en y1 ⟨a1,a2,a3,c1,c2,c3,rfl,_,u⟩
  rw [ent_entry]
  obtain ⟨x,hx⟩:∃ x,entM hs p.1=x:=⟨_,rfl⟩
  rw [hx] at STEP ⊢
  obtain ⟨W3,hW3⟩:∃ W3,W3=y1.alloc (.cells (en13 x a1 a2 a3 c1 c2 c3) 72 (0,0)):=⟨_,rfl⟩
  have u3:Upd (fun _=>False) y1 W3:=by rw [hW3];exact (Upd.refl _ _).alloc _
  have EB:=hid (show W3.heap[y1.heap.size]? = some (.cells (en13 x a1 a2 a3 c1 c2 c3) 72 (0,0)) by rw [hW3];exact heap_alloc_new)
  have UY3:=hid (UY0.out.trans (u.trans u3))
  have HW3:=hid hW3
  have row3:=ownsRow_upd OP.out UY3.out fun _ _=>id
  have hx3:x3.heap.size<=W3.heap.size:=Nat.le_trans UP.out.size UY3.out.size
  obtain ⟨v',w4,r4,o4,u4,n4⟩:=append_one elemI row3 #[.int .i64 x.author] rfl (by simp [Value.oneCell']) (by have:=guiltyTo_len hs k;unfold maxLen;omega) (by have:=guiltyTo_len hs k;omega) hx3 30 (0,0)
  have O4:=hid o4;have R4:=hid r4
  have U4:=hid (show Upd (fun j=>x3.heap.size<=j) W3 w4 from u4.mono fun j hj=>(own_lt OP.out j hj).1)
  have q0:W3.cell? ⟨y1.heap.size,0,none⟩=some (.int .i64 x.author):=by rw [cell_of_block EB.out];rfl
  clear hx hW3 u u3 row3 hx3 o4 u4 n4 r4 n0
  unfold enV
  go_upto_region 6 with (fail)
  rw [<-(show W3=y1.alloc (.cells #[.int .i64 x.author,.int .i64 x.seq,.int .i64 x.day,.slice a1 x.knows.length c1,.int .i64 x.kind,.int .i64 x.circle,.int .i64 x.who,.int .i64 x.n,.int .i64 x.m,.int .i64 x.ref,.slice a2 x.keys.length c2,.slice a3 x.spans.length c3,.string ⟨x.text.toArray⟩] 72 (0,0)) from HW3.out)]
  go_wp2_with (at_builtin;refine wpList_append_run rfl _ _ _ _ rfl rfl rfl R4.out ?_)
  go_roundg (N-(k+1))
  case measure=>have:=HG.out;omega
  case rel =>
   refine ⟨k+1,by omega,rfl,by go_num,?_,UP.out.trans ((UY3.out.mono fun _ q=>q.elim).trans U4.out)⟩
   rw [STEP.out,List.length_append,List.map_append]
   exact O4.out
end Go.Proofs.YtjkmalddfoemhaaGreatDoor
namespace Go.Proofs.YtjkmalddfoemhaaGreatDoor
open Go.RowKit Go.Deep
theorem own_emptyI (w:World):(w.alloc (.cells #[] 3 (0,0))).ownsRow w.heap.size 3 1 (.slice (some ⟨w.heap.size,0,none⟩) 0 0) 0 [] :=
 ⟨rfl,.inr ⟨_,0,#[],rfl,Nat.le_refl _,heap_alloc_new,Nat.le_refl _,Nat.zero_le _,rfl,rfl⟩⟩
theorem ints_none {A:Nat->Prop} {w:World} {c:Nat} {l:List Int} (h:kInts.rep A w [.slice none l.length c] l):l=[]:=by
 rcases Nat.eq_zero_or_pos l.length with h0 | h0
 · exact List.length_eq_zero_iff.1 h0
 · obtain ⟨_,_,e,_⟩:=slice_at h h0;cases e
theorem append_srcI {A:Nat->Prop} {w:World} {base n:Nat} {v:Value} {xs:List Value} (hown:w.ownsRow base 3 1 v n xs) (a:Option Addr) (c:Nat) (l:List Int) (h:kInts.rep A w [.slice a l.length c] l) (hn:n+l.length<=1000000) (hb:base<=w.heap.size) :
 ∃ v' w',(Builtin.append_ #[30,30] 30 #[v,.slice a l.length c]).run Tryz.prog w=.ok v' w'/\w'.ownsRow base 3 1 v' (n+l.length) (xs++l.map fun x=>Value.int .i64 x)/\w.grownBy w' v.ownBlock:=by
 cases a with
 | none =>
   obtain rfl:=ints_none h
   exact ⟨v,w,append_none elemI hown,by simpa using hown,⟨rfl,rfl,rfl,Nat.le_refl _,fun _ _ _=>rfl⟩⟩
 | some ad =>
   obtain ⟨v',w',hr,ho,hg,_⟩:=append_own2 elemI hown ad l.length c (l.map fun x=>Value.int .i64 x) (by simp) (ints_cells h) (by simp [Value.oneCell']) (by unfold maxLen;omega) (by omega) hb 30
   exact ⟨v',w',hr,ho,hg⟩
end Go.Proofs.YtjkmalddfoemhaaGreatDoor
