/- The sequence of the entries: the plain laws of OrderCame and OrderKnows. No program in sight. -/
import Derived.Test.YtjkmalddfoemhaaGreatDoorRm
namespace Go.Proofs.YtjkmalddfoemhaaGreatDoor
open Go
variable {rd:List UInt8->En×Int} {R:Rg}
structure Stp where
 keys:List Int
 liars:Int
 seed:Int
structure StpOk (s:Stp):Prop where
 keys:∀ i (hi:i<s.keys.length),0<=s.keys[i]/\s.keys[i]<200/\(0<i->s.keys[i-1]<s.keys[i])
 liars:0<=s.liars/\3*s.liars<s.keys.length
 seed:0<=s.seed/\s.seed<=1099511627776
def quorumF (s:Stp):Int:=((s.keys.length:Int)+s.liars) / 2+1
structure ActP where
 mark:Int
 en:En
 value:Int
def valueF (h:Hs) (m:Int):Int:=if (entryM h m).2=true/\(entryM h m).1.kind=18 then (if (entryM h m).1.ref=-1 then m else (entryM h m).1.ref) else -1
def VoteP (h:Hs) (e:En):Prop:=(entryM h e.ref).2=true/\(entryM h e.ref).1.kind=18/\(entryM h e.ref).1.m=e.m/\(entryM h e.ref).1.n=e.n
instance (h:Hs) (e:En):Decidable (VoteP h e):=by unfold VoteP;infer_instance
def actF (h:Hs) (m:Int):Option ActP :=
 if (entryM h m).1.kind=18 then some ⟨m,(entryM h m).1,valueF h m⟩
 else if (entryM h m).1.kind=19\/(entryM h m).1.kind=20 then some ⟨m,(entryM h m).1,if VoteP h (entryM h m).1 then valueF h (entryM h m).1.ref else -1⟩
 else none
def seeF (h:Hs) (ms:List Int):List ActP:=ms.filterMap (actF h)
def seeTo (h:Hs) (ms:List Int) (k:Nat):List ActP:=seeF h (ms.take k)
theorem seeTo_all {h:Hs} {ms:List Int} {k:Nat} (hk:ms.length<=k):seeTo h ms k=seeF h ms:=by unfold seeTo;rw [List.take_of_length_le hk]
theorem seeTo_no {h:Hs} {ms:List Int} {k:Nat} (hk:k<ms.length) (e:actF h ms[k]=none):seeTo h ms (k+1)=seeTo h ms k:=by
 unfold seeTo seeF
 rw [List.take_succ_eq_append_getElem hk,List.filterMap_append,List.filterMap_cons_none e]
 simp
theorem seeTo_yes {h:Hs} {ms:List Int} {k:Nat} {a:ActP} (hk:k<ms.length) (e:actF h ms[k]=some a):seeTo h ms (k+1)=seeTo h ms k++[a]:=by
 unfold seeTo seeF
 rw [List.take_succ_eq_append_getElem hk,List.filterMap_append,List.filterMap_cons_some e]
 simp
theorem seeTo_len (h:Hs) (ms:List Int) (k:Nat):(seeTo h ms k).length<=k:=by
 unfold seeTo seeF
 exact Nat.le_trans (List.length_filterMap_le _ _) (by rw [List.length_take];exact Nat.min_le_left _ _)
def CarP (s:Stp) (kind day round:Int) (st:List (Int×List Int)) (a:ActP):Prop:=a.en.kind=kind/\a.en.m=day/\a.en.n=round/\0<=a.value/\a.en.author∈s.keys/\a.en.author∉(st.lookup a.value).getD []
instance (s:Stp) (kind day round:Int) (st:List (Int×List Int)) (a:ActP):Decidable (CarP s kind day round st a):=by unfold CarP;infer_instance
def carStep (s:Stp) (kind day round:Int) (st:List (Int×List Int)) (a:ActP):List (Int×List Int) :=
 if CarP s kind day round st a then putM st a.value ((st.lookup a.value).getD []++[a.en.author]) else st
def carL (s:Stp) (acts:List ActP) (kind day round:Int):List (Int×List Int):=acts.foldl (carStep s kind day round) []
def carTo (s:Stp) (acts:List ActP) (kind day round:Int) (k:Nat):List (Int×List Int):=carL s (acts.take k) kind day round
theorem carTo_zero (s:Stp) (acts:List ActP) (kind day round:Int):carTo s acts kind day round 0=[]:=rfl
theorem carTo_all {s:Stp} {acts:List ActP} {kind day round:Int} {k:Nat} (hk:acts.length<=k):carTo s acts kind day round k=carL s acts kind day round:=by unfold carTo;rw [List.take_of_length_le hk]
theorem carTo_succ {s:Stp} {acts:List ActP} {kind day round:Int} {k:Nat} (hk:k<acts.length):carTo s acts kind day round (k+1)=carStep s kind day round (carTo s acts kind day round k) acts[k]:=by
 unfold carTo carL
 rw [List.take_succ_eq_append_getElem hk,List.foldl_append];rfl
def bigL (q:Int) (l:List (Int×List Int)):List Int:=(l.filter fun p=>decide (q<=(p.2.length:Int))).map Prod.fst
def carriedF (s:Stp) (acts:List ActP) (kind day round:Int):List Int:=sortI (bigL (quorumF s) (carL s acts kind day round))
def roundL (acts:List ActP) (kind day:Int):List Int:=(acts.filter fun a=>decide (a.en.kind=kind/\a.en.m=day)).map fun a=>a.en.n
def roundsF (acts:List ActP) (kind day:Int):List Int:=risingF (roundL acts kind day)
def roundTo (acts:List ActP) (kind day:Int) (k:Nat):List Int:=roundL (acts.take k) kind day
theorem roundTo_all {acts:List ActP} {kind day:Int} {k:Nat} (hk:acts.length<=k):roundTo acts kind day k=roundL acts kind day:=by unfold roundTo;rw [List.take_of_length_le hk]
theorem roundTo_yes {acts:List ActP} {kind day:Int} {k:Nat} (hk:k<acts.length) (e:acts[k].en.kind=kind/\acts[k].en.m=day):roundTo acts kind day (k+1)=roundTo acts kind day k++[acts[k].en.n]:=by
 unfold roundTo roundL
 rw [List.take_succ_eq_append_getElem hk,List.filter_append,List.map_append,List.filter_cons_of_pos (by simpa using e)]
 rfl
theorem roundTo_no {acts:List ActP} {kind day:Int} {k:Nat} (hk:k<acts.length) (e:¬(acts[k].en.kind=kind/\acts[k].en.m=day)):roundTo acts kind day (k+1)=roundTo acts kind day k:=by
 unfold roundTo roundL
 rw [List.take_succ_eq_append_getElem hk,List.filter_append,List.map_append,List.filter_cons_of_neg (by simpa using e)]
 simp
theorem roundTo_len (acts:List ActP) (kind day:Int) (k:Nat):(roundTo acts kind day k).length<=k:=by
 unfold roundTo roundL
 rw [List.length_map]
 exact Nat.le_trans (List.length_filter_le _ _) (by rw [List.length_take];exact Nat.min_le_left _ _)
theorem mem_roundL {acts:List ActP} {kind day n:Int}:n∈roundL acts kind day↔∃ a∈acts,a.en.kind=kind/\a.en.m=day/\a.en.n=n:=by
 unfold roundL
 simp only [List.mem_map,List.mem_filter,decide_eq_true_eq]
 exact ⟨fun ⟨a,⟨h1,h2,h3⟩,h4⟩=>⟨a,h1,h2,h3,h4⟩,fun ⟨a,h1,h2,h3,h4⟩=>⟨a,⟨h1,h2,h3⟩,h4⟩⟩
def inRound (s:Stp) (acts:List ActP) (day n:Int):Option (Int×Int):=match carriedF s acts 20 day n with
 | []=>none
 | v::_=>some (v,n)
def decidedF (s:Stp) (acts:List ActP) (day:Int):Option (Int×Int):=(roundsF acts 20 day).findSome? (inRound s acts day)
theorem decided_act {s:Stp} {acts:List ActP} {day:Int} {x:Int×Int} (e:decidedF s acts day=some x):∃ a∈acts,a.en.m=day:=by
 obtain ⟨n,hn,_⟩:=List.exists_of_findSome?_eq_some e
 obtain ⟨a,ha,_,hm,_⟩:=mem_roundL.1 ((rising_ok _).2 n |>.1 hn)
 exact ⟨a,ha,hm⟩
theorem nodup_sub_len:∀ {l1 l2:List Int},l1.Nodup->(∀ x∈l1,x∈l2)->l1.length<=l2.length
 | [],_,_,_=>Nat.zero_le _
 | x::l1,l2,hn,hs=>by
   have hx:=hs x List.mem_cons_self
   obtain ⟨h1,h2⟩:=List.nodup_cons.1 hn
   have h3:=nodup_sub_len (l1:=l1) (l2:=l2.erase x) h2 fun y hy=>(List.mem_erase_of_ne fun e=>h1 (by rw [<-e];exact hy)).2 (hs y (List.mem_cons_of_mem _ hy))
   rw [List.length_erase_of_mem hx] at h3
   have:=List.length_pos_of_mem hx
   rw [List.length_cons];omega
structure DaysIs (s:Stp) (acts:List ActP) (l:List (Int×Int)):Prop where
 each:∀ d (hd:d<l.length),decidedF s acts d=some l[d]
 stop:decidedF s acts l.length=none
theorem days_few {s:Stp} {acts:List ActP} {l:List (Int×Int)} (h:∀ d (hd:d<l.length),decidedF s acts d=some l[d]):l.length<=acts.length:=by
 have:=nodup_sub_len (l1:=(List.range l.length).map Int.ofNat) (l2:=acts.map fun a=>a.en.m) (by
  refine List.Pairwise.map _ (fun a b hab e=>hab ?_) List.nodup_range
  exact Int.ofNat.inj e) fun x hx=>by
  obtain ⟨d,hd,rfl⟩:=List.mem_map.1 hx
  obtain ⟨a,ha,e⟩:=decided_act (h d (List.mem_range.1 hd))
  exact List.mem_map.2 ⟨a,ha,e⟩
 simpa using this
theorem days_unique {s:Stp} {acts:List ActP} {l k:List (Int×Int)} (h:DaysIs s acts l) (g:DaysIs s acts k):l=k:=by
 have key:∀ {l k:List (Int×Int)},DaysIs s acts l->DaysIs s acts k->l.length<=k.length:=fun {l k} h g=>by
  refine Nat.le_of_not_lt fun c=>?_
  have h1:=h.each _ c
  rw [g.stop] at h1
  cases h1
 have hl:=Nat.le_antisymm (key h g) (key g h)
 refine List.ext_getElem hl fun i h1 h2=>?_
 have e1:=h.each i h1
 rw [g.each i h2] at e1
 injection e1 with e1
 exact e1.symm
def putF (h:Hs) (out ms:List Int):List Int:=out++(sortedF h ms).filter fun m=>decide (m∉out)
def seqTo (h:Hs) (days:List (Int×Int)) (k:Nat):List Int:=(days.take k).foldl (fun out d=>putF h out (pastF h d.1)) []
def endsTo (h:Hs) (days:List (Int×Int)) (k:Nat):List Int:=(List.range k).map fun d=>((seqTo h days (d+1)).length:Int)
def seqF (h:Hs) (days:List (Int×Int)):List Int:=putF h (seqTo h days days.length) (marksF h)
def endsF (h:Hs) (days:List (Int×Int)):List Int:=endsTo h days days.length
theorem seqTo_zero (h:Hs) (days:List (Int×Int)):seqTo h days 0=[]:=rfl
theorem seqTo_succ {h:Hs} {days:List (Int×Int)} {k:Nat} (hk:k<days.length):seqTo h days (k+1)=putF h (seqTo h days k) (pastF h days[k].1):=by
 unfold seqTo
 rw [List.take_succ_eq_append_getElem hk,List.foldl_append];rfl
theorem endsTo_succ (h:Hs) (days:List (Int×Int)) (k:Nat):endsTo h days (k+1)=endsTo h days k++[((seqTo h days (k+1)).length:Int)]:=by
 unfold endsTo
 rw [List.range_succ,List.map_append];rfl
theorem endsTo_len (h:Hs) (days:List (Int×Int)) (k:Nat):(endsTo h days k).length=k:=by unfold endsTo;simp
theorem endsTo_get (h:Hs) (days:List (Int×Int)) {k d:Nat} (hd:d<(endsTo h days k).length):(endsTo h days k)[d]=((seqTo h days (d+1)).length:Int):=by
 have e:((List.range k).map fun d:Nat=>((seqTo h days (d+1)).length:Int))[d]'(by rw [List.length_map,List.length_range];rw [endsTo_len] at hd;exact hd)=((seqTo h days (d+1)).length:Int):=by rw [List.getElem_map,List.getElem_range]
 exact e
def putTo (h:Hs) (out ms:List Int) (k:Nat):List Int:=out++((sortedF h ms).take k).filter fun m=>decide (m∉out)
theorem putTo_zero (h:Hs) (out ms:List Int):putTo h out ms 0=out:=by simp [putTo]
theorem putTo_all {h:Hs} {out ms:List Int} {k:Nat} (hk:(sortedF h ms).length<=k):putTo h out ms k=putF h out ms:=by unfold putTo putF;rw [List.take_of_length_le hk]
theorem mem_putTo {h:Hs} {out ms:List Int} {k:Nat} {x:Int}:x∈putTo h out ms k↔x∈out\/x∈(sortedF h ms).take k:=by
 unfold putTo
 rw [List.mem_append,List.mem_filter]
 constructor
 · rintro (a | ⟨a,_⟩)
   · exact .inl a
   · exact .inr a
 · rintro (a | a)
   · exact .inl a
   · by_cases c:x∈out
     · exact .inl c
     · exact .inr ⟨a,decide_eq_true c⟩
theorem putTo_in {h:Hs} (H:His rd R h) {out ms:List Int} {k:Nat} (hk:k<(sortedF h ms).length) (e:(sortedF h ms)[k]∈putTo h out ms k):putTo h out ms (k+1)=putTo h out ms k:=by
 have hn:(sortedF h ms)[k]∉(sortedF h ms).take k:=fun c=>by
  obtain ⟨j,hj,e⟩:=List.mem_take_iff_getElem.1 c
  have:=(List.getElem_inj (sorted_nodup H ms)).1 e
  omega
 have ho:(sortedF h ms)[k]∈out:=(mem_putTo.1 e).resolve_right hn
 unfold putTo
 rw [List.take_succ_eq_append_getElem hk,List.filter_append,List.filter_cons_of_neg (by simpa using ho)]
 simp
theorem putTo_new {h:Hs} {out ms:List Int} {k:Nat} (hk:k<(sortedF h ms).length) (e:(sortedF h ms)[k]∉putTo h out ms k):putTo h out ms (k+1)=putTo h out ms k++[(sortedF h ms)[k]]:=by
 have ho:(sortedF h ms)[k]∉out:=fun c=>e (mem_putTo.2 (.inl c))
 unfold putTo
 rw [List.take_succ_eq_append_getElem hk,List.filter_append,List.filter_cons_of_pos (by simpa using ho),<-List.append_assoc]
 rfl
end Go.Proofs.YtjkmalddfoemhaaGreatDoor
namespace Go.Proofs.YtjkmalddfoemhaaGreatDoor
open Go
variable {rd:List UInt8->En×Int} {R:Rg}
theorem kn_bef {h:Hs} (H:His rd R h) {a b:Int} (q:Kn h a b):BefM h a b:=by
 obtain ⟨i,j,ha,hb,hp⟩:=q
 obtain ⟨hi,_⟩:=idx_some ha
 obtain ⟨hj,_⟩:=idx_some hb
 have hl:=H.kn_level ha j hb ⟨i,j,ha,hb,hp⟩
 rw [nlevel hi,nlevel hj] at hl
 exact ⟨i,j,hi,hj,ha,hb,.inl hl⟩
theorem mem_put {h:Hs} (H:His rd R h) (out ms:List Int) (x:Int):x∈putF h out ms↔x∈out\/(x∈ms/\(idxF h x).isSome):=by
 rw [<-putTo_all (Nat.le_refl _),mem_putTo,List.take_length,(sorted_ok H ms).2]
theorem put_nodup {h:Hs} (H:His rd R h) {out:List Int} (ms:List Int) (ho:out.Nodup):(putF h out ms).Nodup:=by
 unfold putF
 refine List.nodup_append.2 ⟨ho,(sorted_nodup H ms).sublist List.filter_sublist,fun a ha b hb e=>?_⟩
 subst e
 simpa [ha] using (List.mem_filter.1 hb).2
theorem past_has {h:Hs} (H:His rd R h) {m x:Int} (hx:x∈pastF h m):(idxF h x).isSome:=(kn_has ((mem_past H m x).1 hx)).1
theorem mem_seqTo {h:Hs} (H:His rd R h) (days:List (Int×Int)):∀ k,k<=days.length->∀ x,x∈seqTo h days k↔∃ d∈days.take k,x∈pastF h d.1
 | 0,_,x=>by rw [seqTo_zero];simp
 | k+1,hk,x=>by
   have hk':k<days.length:=by omega
   rw [seqTo_succ hk',mem_put H,mem_seqTo H days k (by omega) x,List.take_succ_eq_append_getElem hk']
   constructor
   · rintro (⟨d,hd,hx⟩ | ⟨hx,_⟩)
     · exact ⟨d,List.mem_append.2 (.inl hd),hx⟩
     · exact ⟨_,List.mem_append.2 (.inr (List.mem_singleton.2 rfl)),hx⟩
   · rintro ⟨d,hd,hx⟩
     rcases List.mem_append.1 hd with c | c
     · exact .inl ⟨d,c,hx⟩
     · rw [List.mem_singleton.1 c] at hx
       exact .inr ⟨hx,past_has H hx⟩
theorem seqTo_nodup {h:Hs} (H:His rd R h) (days:List (Int×Int)):∀ k,k<=days.length->(seqTo h days k).Nodup
 | 0,_=>List.nodup_nil
 | k+1,hk=>by rw [seqTo_succ (by omega)];exact put_nodup H _ (seqTo_nodup H days k (by omega))
theorem mem_seq {h:Hs} (H:His rd R h) (days:List (Int×Int)) (x:Int):x∈seqF h days↔(idxF h x).isSome:=by
 unfold seqF
 rw [mem_put H,mem_seqTo H days _ (Nat.le_refl _)]
 constructor
 · rintro (⟨d,_,hx⟩ | ⟨_,hx⟩)
   · exact past_has H hx
   · exact hx
 · exact fun hx=>.inr ⟨(mem_marksF h x).2 hx,hx⟩
def After (h:Hs) (l:List Int):Prop:=∀ i (hi:i<l.length),∀ p∈pastF h l[i],p∈l.take i
theorem After.put {h:Hs} (H:His rd R h) {out ms:List Int} (ho:After h out) (hc:∀ y∈ms,∀ p∈pastF h y,p∈ms):After h (putF h out ms):=by
 intro i hi p hp
 unfold putF at hi hp ⊢
 by_cases c:i<out.length
 · rw [List.getElem_append_left c] at hp
   rw [List.take_append_of_le_length (by omega)]
   exact ho i c p hp
 · rw [List.getElem_append_right (by omega)] at hp
   rw [List.take_append,List.take_of_length_le (by omega),List.mem_append]
   obtain ⟨j,hj⟩:∃ j,i-out.length=j:=⟨_,rfl⟩
   have hjl:j<((sortedF h ms).filter fun m=>decide (m∉out)).length:=by rw [List.length_append] at hi;omega
   have hp:p∈pastF h ((sortedF h ms).filter fun m=>decide (m∉out))[j]:=by subst hj;exact hp
   rw [hj]
   by_cases d:p∈out
   · exact .inl d
   · refine .inr ?_
     obtain ⟨F,hF⟩:∃ F,((sortedF h ms).filter fun m=>decide (m∉out))=F:=⟨_,rfl⟩
     have hpw:F.Pairwise (BefM h):=by rw [<-hF];exact (sorted_ok H ms).1.filter _
     have hmem:∀ x,x∈F↔(x∈ms/\(idxF h x).isSome)/\x∉out:=fun x=>by rw [<-hF,List.mem_filter,(sorted_ok H ms).2];simp
     have hp:p∈pastF h (F[j]'(by rw [<-hF];exact hjl)):=by subst hF;exact hp
     rw [hF] at hjl ⊢
     have hy:=(hmem F[j]).1 (List.getElem_mem _)
     obtain ⟨j2,hj2,e⟩:=List.getElem_of_mem ((hmem p).2 ⟨⟨hc _ hy.1.1 p hp,past_has H hp⟩,d⟩)
     have hb:=kn_bef H ((mem_past H _ p).1 hp)
     refine List.mem_take_iff_getElem.2 ⟨j2,?_,e⟩
     have:j2<j:=by
      rcases Nat.lt_trichotomy j2 j with z | z | z
      · exact z
      · subst z;rw [e] at hb;exact absurd hb (befM_irrefl _)
      · have:=List.pairwise_iff_getElem.1 hpw j j2 hjl hj2 z
        rw [e] at this
        exact absurd hb (befM_asymm _ _ this)
     omega
theorem past_closed {h:Hs} (H:His rd R h) (m:Int):∀ y∈pastF h m,∀ p∈pastF h y,p∈pastF h m:=fun y hy p hp =>
 (mem_past H m p).2 (kn_tr H ((mem_past H y p).1 hp) ((mem_past H m y).1 hy))
theorem After.seqTo {h:Hs} (H:His rd R h) (days:List (Int×Int)):∀ k,k<=days.length->After h (seqTo h days k)
 | 0,_=>fun i hi=>absurd hi (Nat.not_lt_zero _)
 | k+1,hk=>by rw [seqTo_succ (by omega)];exact (After.seqTo H days k (by omega)).put H (past_closed H _)
theorem After.seq {h:Hs} (H:His rd R h) (days:List (Int×Int)):After h (seqF h days) :=
 (After.seqTo H days _ (Nat.le_refl _)).put H fun _ _ p hp=>(mem_marksF h p).2 (past_has H hp)
theorem seqTo_pre {h:Hs} (days:List (Int×Int)):∀ {k n:Nat},k<=n->n<=days.length->∃ t,seqTo h days n=seqTo h days k++t
 | k,0,hk,_=>by obtain rfl:k=0:=by omega
                exact ⟨[],by simp⟩
 | k,n+1,hk,hn=>by
   by_cases c:k=n+1
   · subst c;exact ⟨[],by simp⟩
   · obtain ⟨t,e⟩:=seqTo_pre (h:=h) days (k:=k) (n:=n) (by omega) (by omega)
     rw [seqTo_succ (by omega),e]
     unfold putF
     exact ⟨_,List.append_assoc _ _ _⟩
theorem seq_pre {h:Hs} (days:List (Int×Int)) {k:Nat} (hk:k<=days.length):∃ t,seqF h days=seqTo h days k++t:=by
 obtain ⟨t,e⟩:=seqTo_pre (h:=h) days hk (Nat.le_refl _)
 unfold seqF
 rw [e]
 unfold putF
 exact ⟨_,List.append_assoc _ _ _⟩
end Go.Proofs.YtjkmalddfoemhaaGreatDoor
