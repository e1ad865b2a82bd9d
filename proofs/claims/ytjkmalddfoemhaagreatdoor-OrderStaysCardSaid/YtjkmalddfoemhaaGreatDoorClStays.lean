/- The plain laws of OrderStays, CloseStays and CloseLocal. No program in sight. -/
import Derived.Test.YtjkmalddfoemhaaGreatDoorRn
import Derived.Test.YtjkmalddfoemhaaGreatDoorOrLaws
namespace Go.Proofs.YtjkmalddfoemhaaGreatDoor
open Go
variable {rd:List UInt8->En×Int} {R:Rg}
def DayP (n:Int):Prop:=0<=n/\n<=1048576
instance (n:Int):Decidable (DayP n):=by unfold DayP;infer_instance
def leaderF (s:Stp) (day round:Int):Int:=if DayP day/\DayP round then s.keys.getD ((day+round)%(s.keys.length:Int)).toNat (-1) else -1
def PermitP (h:Hs) (m day round:Int):Prop:=(entryM h m).2=true/\(entryM h m).1.kind=18/\(entryM h m).1.m=day/\(entryM h m).1.n<round/\(entryM h m).1.ref=-1
instance (h:Hs) (m day round:Int):Decidable (PermitP h m day round):=by unfold PermitP;infer_instance
def ownA (acts:List ActP) (a day:Int):List ActP:=acts.filter fun x=>decide (x.en.author=a/\x.en.m=day)
theorem mem_ownA {acts:List ActP} {a day:Int} {x:ActP}:x∈ownA acts a day↔x∈acts/\x.en.author=a/\x.en.m=day:=by
 unfold ownA;rw [List.mem_filter,decide_eq_true_eq]
def lockStep (st:Int×Int) (x:ActP):Int×Int:=if x.en.kind=20/\0<=x.value/\(st.1<x.en.n\/x.en.n=st.1/\x.value<st.2) then (x.en.n,x.value) else st
def lockF (l:List ActP):Int×Int:=l.foldl lockStep (-1,-1)
def LaterP (s:Stp) (acts:List ActP) (day a round value n:Int):Prop:=a<n/\n<round/\value∈carriedF s acts 19 day n
instance (s:Stp) (acts:List ActP) (day a round value n:Int):Decidable (LaterP s acts day a round value n):=by unfold LaterP;infer_instance
def KeepsP (s:Stp) (acts:List ActP) (author day round value:Int):Prop :=
 (lockF (ownA acts author day)).1<0\/(lockF (ownA acts author day)).2=value\/∃ n∈roundsF acts 19 day,LaterP s acts day (lockF (ownA acts author day)).1 round value n
instance (s:Stp) (acts:List ActP) (author day round value:Int):Decidable (KeepsP s acts author day round value):=by unfold KeepsP;infer_instance
def TwiceP (e:En) (x:ActP):Prop:=x.en.kind=e.kind/\x.en.n=e.n
instance (e:En) (x:ActP):Decidable (TwiceP e x):=by unfold TwiceP;infer_instance
def LateP (e:En) (x:ActP):Prop:=e.n<x.en.n\/x.en.n=e.n/\x.en.kind=20/\e.kind≠20
instance (e:En) (x:ActP):Decidable (LateP e x):=by unfold LateP;infer_instance
def timeF (e:En):List ActP->Int->Int
 | [],err=>err
 | x::l,err=>if TwiceP e x then 5 else timeF e l (if LateP e x then 25 else err)
def earlyF (s:Stp) (acts:List ActP) (e:En):Int :=
 if e.author∉s.keys\/e.kind=18/\leaderF s e.m e.n≠e.author then 18
 else if 0<e.m/\decidedF s acts (e.m-1)=none then 26
 else timeF e (ownA acts e.author e.m) 0
def ActK (k:Int):Prop:=k=18\/k=19\/k=20
instance (k:Int):Decidable (ActK k):=by unfold ActK;infer_instance
def legalB (h:Hs) (s:Stp) (m:Int) (brk:Bool):Int :=
 if (entryM h m).2=false then 4
 else if ¬ActK (entryM h m).1.kind then 0
 else if earlyF s (seeF h (pastF h m)) (entryM h m).1≠0\/(entryM h m).1.ref=-1 then earlyF s (seeF h (pastF h m)) (entryM h m).1
 else if (entryM h m).1.kind=18 then (if PermitP h (entryM h m).1.ref (entryM h m).1.m (entryM h m).1.n then 0 else 2)
 else if ¬((entryM h (entryM h m).1.ref).1.kind=18/\(entryM h (entryM h m).1.ref).1.m=(entryM h m).1.m/\(entryM h (entryM h m).1.ref).1.n=(entryM h m).1.n) then 2
 else if (entryM h m).1.kind=20/\valueF h (entryM h m).1.ref∉carriedF s (seeF h (pastF h m)) 19 (entryM h m).1.m (entryM h m).1.n then 24
 else if (entryM h m).1.kind=19/\brk=true then 32
 else if (entryM h m).1.kind=19/\¬KeepsP s (seeF h (pastF h m)) (entryM h m).1.author (entryM h m).1.m (entryM h m).1.n (valueF h (entryM h m).1.ref) then 7
 else 0
def legalF (h:Hs) (s:Stp) (m:Int):Int:=legalB h s m (decide (legalB h s (entryM h m).1.ref false≠0))
def GuiltP (h:Hs) (s:Stp) (a:Int):Prop:=a∈guiltyF h\/∃ m∈marksF h,(entryM h m).1.author=a/\legalF h s m≠0
instance (h:Hs) (s:Stp) (a:Int):Decidable (GuiltP h s a):=by unfold GuiltP;infer_instance
def guiltC (h:Hs) (s:Stp):List Int:=s.keys.filter fun a=>decide (GuiltP h s a)
def ForV (s:Stp) (acts:List ActP) (kind day round v a:Int):Prop:=a∈s.keys/\∃ x∈acts,x.en.kind=kind/\x.en.m=day/\x.en.n=round/\x.value=v/\x.en.author=a
structure CarInv (s:Stp) (acts:List ActP) (kind day round:Int) (st:List (Int×List Int)):Prop where
 keys:(st.map Prod.fst).Nodup
 all:∀ v l,st.lookup v=some l->l.Nodup/\0<=v/\l≠[]
 mem:∀ v a,0<=v->(a∈(st.lookup v).getD []↔ForV s acts kind day round v a)
theorem CarInv.step {s:Stp} {acts:List ActP} {kind day round:Int} {st:List (Int×List Int)} (h:CarInv s acts kind day round st) (x:ActP):CarInv s (acts++[x]) kind day round (carStep s kind day round st x):=by
 have ext:∀ v a,ForV s (acts++[x]) kind day round v a↔ForV s acts kind day round v a\/(a∈s.keys/\x.en.kind=kind/\x.en.m=day/\x.en.n=round/\x.value=v/\x.en.author=a):=fun v a=>by
  unfold ForV
  constructor
  · rintro ⟨h1,y,hy,h2⟩
    rcases List.mem_append.1 hy with c | c
    · exact .inl ⟨h1,y,c,h2⟩
    · rw [List.mem_singleton.1 c] at h2;exact .inr ⟨h1,h2⟩
  · rintro (⟨h1,y,hy,h2⟩ | ⟨h1,h2⟩)
    · exact ⟨h1,y,List.mem_append.2 (.inl hy),h2⟩
    · exact ⟨h1,x,List.mem_append.2 (.inr (List.mem_singleton.2 rfl)),h2⟩
 unfold carStep
 by_cases c:CarP s kind day round st x
 · rw [if_pos c]
   obtain ⟨c1,c2,c3,c4,c5,c6⟩:=c
   refine ⟨?_,fun v l hl=>?_,fun v a hv=>?_⟩
   · exact nodup_put h.keys _ _
   · rw [lookup_put] at hl
     split at hl
     · rename_i q
       injection hl with hl
       subst hl q
       refine ⟨?_,c4,by simp⟩
       refine List.nodup_append.2 ⟨?_,(by simp),fun a ha b hb e=>by rw [List.mem_singleton.1 hb] at e;subst e;exact c6 ha⟩
       cases e:st.lookup x.value with
       | none=>exact List.nodup_nil
       | some l=>exact (h.all _ _ e).1
     · exact h.all _ _ hl
   · rw [ext,lookup_put]
     split
     · rename_i q
       subst q
       rw [Option.getD_some,List.mem_append,List.mem_singleton,h.mem _ _ hv]
       constructor
       · rintro (d | d)
         · exact .inl d
         · subst d;exact .inr ⟨c5,c1,c2,c3,rfl,rfl⟩
       · rintro (d | ⟨_,_,_,_,_,d⟩)
         · exact .inl d
         · exact .inr d.symm
     · rename_i q
       rw [h.mem _ _ hv]
       exact ⟨.inl,fun d=>d.elim id fun z=>absurd z.2.2.2.2.1.symm q⟩
 · rw [if_neg c]
   refine ⟨h.keys,h.all,fun v a hv=>?_⟩
   rw [ext,h.mem v a hv]
   refine ⟨.inl,fun d=>d.elim id fun ⟨z1,z2,z3,z4,z5,z6⟩=>?_⟩
   subst z5 z6
   refine Classical.byContradiction fun n=>c ⟨z2,z3,z4,hv,z1,fun q=>n ((h.mem _ _ hv).1 q)⟩
theorem car_inv (s:Stp) (kind day round:Int) (acts:List ActP):CarInv s acts kind day round (carL s acts kind day round):=by
 have key:∀ (b a:List ActP) (st:List (Int×List Int)),CarInv s a kind day round st->CarInv s (a++b) kind day round (b.foldl (carStep s kind day round) st):=by
  intro b
  induction b with
  | nil=>intro a st h;rw [List.append_nil];exact h
  | cons x b ih =>
    intro a st h
    have:=ih (a++[x]) _ (h.step x)
    rwa [List.append_assoc] at this
 have h0:CarInv s [] kind day round []:=⟨List.nodup_nil,fun v l hl=>(nomatch hl),fun v a _=>⟨fun q=>(nomatch q),fun ⟨_,_,q,_⟩=>(nomatch q)⟩⟩
 have:=key acts [] [] h0
 rwa [List.nil_append] at this
theorem mem_look {β:Type} {l:List (Int×β)} (hn:(l.map Prod.fst).Nodup) {p:Int×β}:p∈l↔l.lookup p.1=some p.2:=by
 induction l with
 | nil=>simp [List.lookup]
 | cons q l ih =>
   obtain ⟨a,b⟩:=q
   obtain ⟨x,y⟩:=p
   rw [List.map_cons] at hn
   obtain ⟨h1,h2⟩:=List.nodup_cons.1 hn
   rw [List.mem_cons,List.lookup_cons]
   by_cases c:x=a
   · subst c
     rw [beq_self_eq_true]
     constructor
     · rintro (e | e)
       · injection e with _ e;rw [e]
       · exact absurd (List.mem_map.2 ⟨_,e,rfl⟩) h1
     · intro e;injection e with e;exact .inl (by rw [e])
   · rw [beq_eq_false_iff_ne.2 c]
     rw [<-ih h2]
     exact ⟨fun e=>e.resolve_left fun e=>c (congrArg Prod.fst e),.inr⟩
theorem mem_carried {s:Stp} (hq:1<=quorumF s) {acts:List ActP} {kind day round v:Int}:v∈carriedF s acts kind day round↔0<=v/\∃ l:List Int,l.Nodup/\quorumF s<=l.length/\∀ a∈l,ForV s acts kind day round v a:=by
 have I:=car_inv s kind day round acts
 unfold carriedF bigL
 rw [sortI_mem]
 simp only [List.mem_map,List.mem_filter,decide_eq_true_eq]
 constructor
 · rintro ⟨p,⟨h1,h2⟩,rfl⟩
   rw [mem_look I.keys] at h1
   obtain ⟨k1,k2,_⟩:=I.all _ _ h1
   refine ⟨k2,p.2,k1,h2,fun a ha=>(I.mem _ _ k2).1 ?_⟩
   rw [h1];exact ha
 · rintro ⟨hv,l,h1,h2,h3⟩
   cases e:(carL s acts kind day round).lookup v with
   | none =>
     have:l=[]:=List.eq_nil_iff_forall_not_mem.2 fun a ha=>by
      have:=(I.mem v a hv).2 (h3 a ha)
      rw [e] at this;cases this
     rw [this] at h2
     have:(([]:List Int).length:Int)=0:=rfl
     omega
   | some l' =>
     refine ⟨(v,l'),⟨(mem_look I.keys).2 e,?_⟩,rfl⟩
     have:=nodup_sub_len (l2:=l') h1 fun a ha=>by
      have:=(I.mem v a hv).2 (h3 a ha)
      rw [e] at this
      exact (this:a∈l')
     show quorumF s<=(l'.length:Int)
     omega
theorem carried_mono {s:Stp} (hq:1<=quorumF s) {a b:List ActP} (hs:∀ x∈a,x∈b) {kind day round v:Int} (h:v∈carriedF s a kind day round):v∈carriedF s b kind day round:=by
 rw [mem_carried hq] at h ⊢
 obtain ⟨h0,l,h1,h2,h3⟩:=h
 exact ⟨h0,l,h1,h2,fun k hk=>let ⟨q1,x,q2,q3⟩:=h3 k hk;⟨q1,x,hs x q2,q3⟩⟩
theorem quorum_pos {s:Stp} (h:StpOk s):1<=quorumF s:=by
 have:=h.liars
 unfold quorumF;omega
end Go.Proofs.YtjkmalddfoemhaaGreatDoor
namespace Go.Proofs.YtjkmalddfoemhaaGreatDoor
open Go
variable {rd:List UInt8->En×Int} {R:Rg}
theorem mem_see {h:Hs} {ms:List Int} {x:ActP}:x∈seeF h ms↔x.mark∈ms/\actF h x.mark=some x:=by
 unfold seeF
 rw [List.mem_filterMap]
 constructor
 · rintro ⟨m,hm,e⟩
   obtain ⟨e1,_⟩:=act_mark e
   rw [e1];exact ⟨hm,e⟩
 · rintro ⟨hm,e⟩
   exact ⟨_,hm,e⟩
theorem act_has {h:Hs} {m:Int} {x:ActP} (e:actF h m=some x):(idxF h m).isSome:=by
 cases c:idxF h m with
 | some i=>rfl
 | none =>
   have:(entryM h m).1.kind=0:=by unfold entryM;rw [c];rfl
   unfold actF at e
   rw [if_neg (by rw [this];decide),if_neg (by rw [this];decide)] at e
   cases e
def allA (h:Hs):List ActP:=seeF h (marksF h)
theorem mem_all {h:Hs} {x:ActP}:x∈allA h↔actF h x.mark=some x:=by
 unfold allA
 rw [mem_see,mem_marksF]
 exact ⟨fun q=>q.2,fun q=>⟨act_has q,q⟩⟩
theorem see_all {h:Hs} {ms:List Int} {x:ActP} (q:x∈seeF h ms):x∈allA h:=mem_all.2 (mem_see.1 q).2
theorem act_eq {h:Hs} {x y:ActP} (hx:x∈allA h) (hy:y∈allA h) (e:x.mark=y.mark):x=y:=by
 have h1:=mem_all.1 hx
 rw [e,mem_all.1 hy] at h1
 injection h1 with h1
 exact h1.symm
theorem act_kind {h:Hs} {x:ActP} (hx:x∈allA h):x.en=(entryM h x.mark).1/\ActK x.en.kind/\(entryM h x.mark).2=true:=by
 have e:=mem_all.1 hx
 obtain ⟨_,e2⟩:=act_mark e
 obtain ⟨i,ei⟩:=Option.isSome_iff_exists.1 (act_has e)
 obtain ⟨hi,e3⟩:=entry_at ei
 refine ⟨e2,?_,by rw [e3]⟩
 rw [e2]
 unfold ActK
 unfold actF at e
 by_cases c:(entryM h x.mark).1.kind=18
 · exact .inl c
 · rw [if_neg c] at e
   by_cases d:(entryM h x.mark).1.kind=19\/(entryM h x.mark).1.kind=20
   · exact .inr d
   · rw [if_neg d] at e;cases e
theorem act_vote {h:Hs} {x:ActP} (hx:x∈allA h) (hk:x.en.kind≠18) (hv:0<=x.value):VoteP h x.en/\x.value=valueF h x.en.ref:=by
 have e:=mem_all.1 hx
 obtain ⟨e2,e3,_⟩:=act_kind hx
 unfold actF at e
 rw [<-e2,if_neg hk] at e
 have d:x.en.kind=19\/x.en.kind=20:=e3.resolve_left hk
 rw [if_pos d] at e
 injection e with e
 by_cases c:VoteP h x.en
 · rw [if_pos c] at e
   exact ⟨c,by rw [<-e]⟩
 · rw [if_neg c] at e
   have:x.value=-1:=by rw [<-e]
   omega
theorem vote_ref {h:Hs} (H:His rd R h) {e:En} (v:VoteP h e):e.ref≠-1:=fun c=>by
 have h1:=v.1
 have:(idxF h e.ref).isSome:=by
  cases d:idxF h e.ref with
  | some i=>rfl
  | none=>unfold entryM at h1;rw [d] at h1;cases h1
 have:=(his_mark H this).1
 omega
theorem time_zero {e:En}:∀ {l:List ActP} {err:Int},timeF e l err=0->err=0/\∀ x∈l,¬TwiceP e x/\¬LateP e x
 | [],err,h=>⟨h,fun x hx=>nomatch hx⟩
 | x::l,err,h=>by
   unfold timeF at h
   by_cases c:TwiceP e x
   · rw [if_pos c] at h;cases h
   · rw [if_neg c] at h
     obtain ⟨h1,h2⟩:=time_zero h
     by_cases d:LateP e x
     · rw [if_pos d] at h1;cases h1
     · rw [if_neg d] at h1
       refine ⟨h1,fun y hy=>?_⟩
       rcases List.mem_cons.1 hy with q | q
       · subst q;exact ⟨c,d⟩
       · exact h2 y q
theorem early_zero {s:Stp} {acts:List ActP} {e:En} (h:earlyF s acts e=0):e.author∈s.keys/\(e.kind=18->leaderF s e.m e.n=e.author)/\(0<e.m->decidedF s acts (e.m-1)≠none)/\∀ x∈ownA acts e.author e.m,¬TwiceP e x/\¬LateP e x:=by
 unfold earlyF at h
 by_cases c:e.author∉s.keys\/e.kind=18/\leaderF s e.m e.n≠e.author
 · rw [if_pos c] at h;cases h
 · rw [if_neg c] at h
   by_cases d:0<e.m/\decidedF s acts (e.m-1)=none
   · rw [if_pos d] at h;cases h
   · rw [if_neg d] at h
     exact ⟨Classical.byContradiction fun q=>c (.inl q),fun k=>Classical.byContradiction fun q=>c (.inr ⟨k,q⟩),fun k q=>d ⟨k,q⟩,(time_zero h).2⟩
structure LegalOk (h:Hs) (s:Stp) (x:ActP):Prop where
 own:∀ y∈ownA (seeF h (pastF h x.mark)) x.en.author x.en.m,¬TwiceP x.en y/\¬LateP x.en y
 lock:x.en.kind=20->0<=x.value->x.value∈carriedF s (seeF h (pastF h x.mark)) 19 x.en.m x.en.n
 keep:x.en.kind=19->0<=x.value->KeepsP s (seeF h (pastF h x.mark)) x.en.author x.en.m x.en.n x.value
theorem legal_ok {h:Hs} (H:His rd R h) {s:Stp} {x:ActP} (hx:x∈allA h) (hl:legalF h s x.mark=0):LegalOk h s x:=by
 obtain ⟨e1,e2,e3⟩:=act_kind hx
 unfold legalF at hl
 obtain ⟨brk,hb⟩:∃ b,decide (legalB h s (entryM h x.mark).1.ref false≠0)=b:=⟨_,rfl⟩
 rw [hb] at hl
 unfold legalB at hl
 rw [<-e1,if_neg (by rw [e3];decide),if_neg (fun c=>c e2)] at hl
 have hE:earlyF s (seeF h (pastF h x.mark)) x.en=0:=by
  by_cases c:earlyF s (seeF h (pastF h x.mark)) x.en≠0\/x.en.ref=-1
  · rw [if_pos c] at hl;exact hl
  · exact Classical.byContradiction fun q=>c (.inl q)
 obtain ⟨_,_,_,k4⟩:=early_zero hE
 have key:x.en.kind≠18->0<=x.value->(x.en.kind=20->x.value∈carriedF s (seeF h (pastF h x.mark)) 19 x.en.m x.en.n)/\(x.en.kind=19->KeepsP s (seeF h (pastF h x.mark)) x.en.author x.en.m x.en.n x.value):=by
  intro n18 hv
  obtain ⟨v1,v2⟩:=act_vote hx n18 hv
  have hr:=vote_ref H v1
  rw [if_neg (by rintro (q | q);exact q hE;exact hr q),if_neg n18,if_neg (fun c=>c ⟨v1.2.1,v1.2.2.1,v1.2.2.2⟩),<-v2] at hl
  constructor
  · intro k
    refine Classical.byContradiction fun c=>?_
    rw [if_pos ⟨k,c⟩] at hl;cases hl
  · intro k
    refine Classical.byContradiction fun c=>?_
    rw [if_neg (fun q=>by have:=q.1;omega)] at hl
    by_cases d:x.en.kind=19/\brk=true
    · rw [if_pos d] at hl;cases hl
    · rw [if_neg d,if_pos ⟨k,c⟩] at hl;cases hl
 exact ⟨k4,fun k v=>(key (by omega) v).1 k,fun k v=>(key (by omega) v).2 k⟩
theorem lock_inv (l:List ActP):(∀ x∈l,x.en.kind=20->0<=x.value->x.en.n<=(lockF l).1)/\(lockF l=(-1,-1)\/∃ z∈l,z.en.kind=20/\0<=z.value/\z.en.n=(lockF l).1/\z.value=(lockF l).2):=by
 have key:∀ (b a:List ActP) (st:Int×Int),((∀ x∈a,x.en.kind=20->0<=x.value->x.en.n<=st.1)/\(st=(-1,-1)\/∃ z∈a,z.en.kind=20/\0<=z.value/\z.en.n=st.1/\z.value=st.2)) →
  ((∀ x∈a++b,x.en.kind=20->0<=x.value->x.en.n<=(b.foldl lockStep st).1)/\(b.foldl lockStep st=(-1,-1)\/∃ z∈a++b,z.en.kind=20/\0<=z.value/\z.en.n=(b.foldl lockStep st).1/\z.value=(b.foldl lockStep st).2)):=by
  intro b
  induction b with
  | nil=>intro a st h;rw [List.append_nil];exact h
  | cons y b ih =>
    intro a st ⟨h1,h2⟩
    have hs:a++y::b=(a++[y])++b:=by rw [List.append_assoc];rfl
    rw [hs,List.foldl_cons]
    refine ih (a++[y]) (lockStep st y) ?_
    unfold lockStep
    by_cases c:y.en.kind=20/\0<=y.value/\(st.1<y.en.n\/y.en.n=st.1/\y.value<st.2)
    · rw [if_pos c]
      refine ⟨fun x hx k v=>?_,.inr ⟨y,by simp,c.1,c.2.1,rfl,rfl⟩⟩
      show x.en.n<=y.en.n
      rcases List.mem_append.1 hx with q | q
      · have:=h1 x q k v;have:=c.2.2;omega
      · rw [List.mem_singleton.1 q];exact Int.le_refl _
    · rw [if_neg c]
      refine ⟨fun x hx k v=>?_,?_⟩
      · rcases List.mem_append.1 hx with q | q
        · exact h1 x q k v
        · rw [List.mem_singleton.1 q] at k v ⊢
          refine Classical.byContradiction fun n=>c ⟨k,v,.inl (by omega)⟩
      · rcases h2 with q | ⟨z,q1,q2⟩
        · exact .inl q
        · exact .inr ⟨z,List.mem_append.2 (.inl q1),q2⟩
 have:=key l [] (-1,-1) ⟨fun x hx=>(nomatch hx),.inl rfl⟩
 rwa [List.nil_append] at this
theorem split_len (l:List Int) (p:Int->Bool):l.length=(l.filter p).length+(l.filter fun x=>!p x).length:=by
 induction l with
 | nil=>rfl
 | cons x l ih =>
   by_cases c:p x=true
   · rw [List.filter_cons_of_pos c,List.filter_cons_of_neg (by simp [c]),List.length_cons,List.length_cons];omega
   · rw [List.filter_cons_of_neg c,List.filter_cons_of_pos (by simpa using c),List.length_cons,List.length_cons];omega
theorem common_key {s:Stp} (hs:StpOk s) {G l1 l2:List Int} (hG:(G.length:Int)<=s.liars) (n1:l1.Nodup) (n2:l2.Nodup) (k1:∀ a∈l1,a∈s.keys) (k2:∀ a∈l2,a∈s.keys) (q1:quorumF s<=l1.length) (q2:quorumF s<=l2.length):∃ a,a∈l1/\a∈l2/\a∉G:=by
 refine Classical.byContradiction fun c=>?_
 have c:∀ a,a∈l1->a∈l2->a∈G:=fun a h1 h2=>Classical.byContradiction fun h3=>c ⟨a,h1,h2,h3⟩
 have e1:=split_len l1 fun x=>decide (x∈l2)
 have i1:=nodup_sub_len (l1:=l1.filter fun x=>decide (x∈l2)) (l2:=G) (n1.sublist List.filter_sublist) fun x hx=>by
  obtain ⟨h1,h2⟩:=List.mem_filter.1 hx
  exact c x h1 (by simpa using h2)
 have i2:=nodup_sub_len (l1:=(l1.filter fun x=>!decide (x∈l2))++l2) (l2:=s.keys) (List.nodup_append.2 ⟨n1.sublist List.filter_sublist,n2,fun a ha b hb e=>by
  subst e
  have:=(List.mem_filter.1 ha).2
  simp [hb] at this⟩) fun x hx=>by
  rcases List.mem_append.1 hx with q | q
  · exact k1 x (List.mem_filter.1 q).1
  · exact k2 x q
 rw [List.length_append] at i2
 have:=hs.liars
 unfold quorumF at q1 q2
 omega
structure Fair (h:Hs) (s:Stp):Prop where
 ok:StpOk s
 few:((guiltC h s).length:Int)<=s.liars
 pos:∀ x∈allA h,0<=x.en.n
theorem fair_key {h:Hs} {s:Stp} {a:Int} (hk:a∈s.keys) (hn:a∉guiltC h s):a∉guiltyF h/\∀ m∈marksF h,(entryM h m).1.author=a->legalF h s m=0:=by
 have hn:¬GuiltP h s a:=fun q=>hn (by unfold guiltC;rw [List.mem_filter,decide_eq_true_eq];exact ⟨hk,q⟩)
 exact ⟨fun q=>hn (.inl q),fun m hm e=>Classical.byContradiction fun q=>hn (.inr ⟨m,hm,e,q⟩)⟩
theorem fair_legal {h:Hs} (H:His rd R h) {s:Stp} {x:ActP} (hx:x∈allA h) (hk:x.en.author∈s.keys) (hn:x.en.author∉guiltC h s):LegalOk h s x:=by
 obtain ⟨e1,_,_⟩:=act_kind hx
 exact legal_ok H hx ((fair_key hk hn).2 x.mark ((mem_marksF h _).2 (act_has (mem_all.1 hx))) (by rw [<-e1]))
theorem fair_order {h:Hs} (H:His rd R h) {s:Stp} {x y:ActP} (hx:x∈allA h) (hy:y∈allA h) (hk:x.en.author∈s.keys) (hn:x.en.author∉guiltC h s) (he:x.en.author=y.en.author) (hm:x.mark≠y.mark):Kn h x.mark y.mark\/Kn h y.mark x.mark:=by
 have hg:=(fair_key hk hn).1
 rw [mem_guilty H] at hg
 refine Classical.byContradiction fun c=>hg ⟨x.mark,?_,y.mark,?_,hm,fun q=>c (.inl q),fun q=>c (.inr q)⟩
 · exact (mem_own H _ _).2 ⟨act_has (mem_all.1 hx),by rw [<-ent_entry,<-(act_kind hx).1]⟩
 · exact (mem_own H _ _).2 ⟨act_has (mem_all.1 hy),by rw [<-ent_entry,<-(act_kind hy).1,he]⟩
theorem in_own {h:Hs} (H:His rd R h) {x y:ActP} (hx:x∈allA h) (q:Kn h x.mark y.mark) (ha:x.en.author=y.en.author) (hd:x.en.m=y.en.m):x∈ownA (seeF h (pastF h y.mark)) y.en.author y.en.m :=
 mem_ownA.2 ⟨mem_see.2 ⟨(mem_past H _ _).2 q,mem_all.1 hx⟩,ha,hd⟩
theorem one_lock {h:Hs} (H:His rd R h) {s:Stp} {x y:ActP} (hx:x∈allA h) (hy:y∈allA h) (hk:x.en.author∈s.keys) (hn:x.en.author∉guiltC h s) (he:x.en.author=y.en.author) (hd:x.en.m=y.en.m) (hr:x.en.n=y.en.n) (hkind:x.en.kind=y.en.kind):x=y:=by
 refine Classical.byContradiction fun c=>?_
 have hm:x.mark≠y.mark:=fun q=>c (act_eq hx hy q)
 rcases fair_order H hx hy hk hn he hm with q | q
 · have:=(fair_legal H hy (he ▸ hk) (he ▸ hn)).own x (in_own H hx q he hd)
   exact this.1 ⟨hkind,hr⟩
 · have:=(fair_legal H hx hk hn).own y (in_own H hy q he.symm hd.symm)
   exact this.1 ⟨hkind.symm,hr.symm⟩
theorem lock_safe {h:Hs} (H:His rd R h) {s:Stp} (F:Fair h s) {day r v:Int} (hc:v∈carriedF s (allA h) 20 day r):∀ (n:Nat) (r' v':Int),(r'-r).toNat=n->r<r'->v'∈carriedF s (allA h) 19 day r'->v'=v:=by
 have hq:=quorum_pos F.ok
 intro n
 induction n using Nat.strongRecOn with
 | _ n ih =>
   intro r' v' hn hr hc'
   obtain ⟨v0,l1,n1,q1,f1⟩:=(mem_carried hq).1 hc
   obtain ⟨v0',l2,n2,q2,f2⟩:=(mem_carried hq).1 hc'
   obtain ⟨k,m1,m2,hk⟩:=common_key F.ok F.few n1 n2 (fun a ha=>(f1 a ha).1) (fun a ha=>(f2 a ha).1) q1 q2
   obtain ⟨kk,x,hx,x1,x2,x3,x4,x5⟩:=f1 k m1
   obtain ⟨_,y,hy,y1,y2,y3,y4,y5⟩:=f2 k m2
   have hxk:x.en.author∈s.keys:=by rw [x5];exact kk
   have hxn:x.en.author∉guiltC h s:=by rw [x5];exact hk
   have hyk:y.en.author∈s.keys:=by rw [y5];exact kk
   have hyn:y.en.author∉guiltC h s:=by rw [y5];exact hk
   have hmk:x.mark≠y.mark:=fun q=>by have:=act_eq hx hy q;subst this;omega
   rcases fair_order H hx hy hxk hxn (by rw [x5,y5]) hmk with q | q
   case inr =>
    have:=((fair_legal H hx hxk hxn).own y (in_own H hy q (by rw [x5,y5]) (by rw [x2,y2]))).2
    exact absurd (show LateP x.en y from .inl (by omega)) this
   have LY:=fair_legal H hy hyk hyn
   have hin:=in_own H hx q (by rw [x5,y5]) (by rw [x2,y2])
   have K:=LY.keep y1 (by omega)
   unfold KeepsP at K
   obtain ⟨i1,i2⟩:=lock_inv (ownA (seeF h (pastF h y.mark)) y.en.author y.en.m)
   have hr0:=i1 x hin x1 (by omega)
   have hrp:=F.pos x hx
   rcases K with K | K | ⟨n',_,K1,K2,K3⟩
   · omega
   · rcases i2 with i2 | ⟨z,hz,z1,z2,z3,z4⟩
     · rw [i2] at hr0
       have:x.en.n<=-1:=hr0
       omega
     · obtain ⟨hz1,hz2,hz3⟩:=mem_ownA.1 hz
       have hza:=see_all hz1
       have hzv:z.value=v':=by rw [z4,K,y4]
       have hzk:z.en.author∈s.keys:=by rw [hz2];exact hyk
       have hzn:z.en.author∉guiltC h s:=by rw [hz2];exact hyn
       by_cases c:z.en.n=r
       · have:=one_lock H hza hx hzk hzn (by rw [hz2,x5,y5]) (by rw [hz3,x2,y2]) (by rw [c,x3]) (by rw [z1,x1])
         subst this
         omega
       · have hnl:=(LY.own z hz).2
         have b1:z.en.n<r':=by
          refine Classical.byContradiction fun d=>hnl ?_
          by_cases e:z.en.n=y.en.n
          · exact .inr ⟨e,z1,by omega⟩
          · exact .inl (by omega)
         have hc2:=(fair_legal H hza hzk hzn).lock z1 (by omega)
         have hc3:=carried_mono hq (fun a ha=>see_all ha) hc2
         rw [hzv,hz3,y2] at hc3
         exact ih (z.en.n-r).toNat (by omega) z.en.n v' rfl (by omega) hc3
   · have hc3:=carried_mono hq (fun a ha=>see_all ha) K3
     rw [y2,y4] at hc3
     exact ih (n'-r).toNat (by omega) n' v' rfl (by omega) hc3
theorem carried_one {h:Hs} (H:His rd R h) {s:Stp} (F:Fair h s) {day r r' v v':Int} (hc:v∈carriedF s (allA h) 20 day r) (hc':v'∈carriedF s (allA h) 20 day r'):v=v':=by
 have hq:=quorum_pos F.ok
 have key:∀ {r r' v v':Int},r<r'->v∈carriedF s (allA h) 20 day r->v'∈carriedF s (allA h) 20 day r'->v=v':=fun {r r' v v'} hr hc hc'=>by
  obtain ⟨v0,l,n1,q1,f1⟩:=(mem_carried hq).1 hc'
  obtain ⟨k,m1,_,hk⟩:=common_key F.ok F.few n1 n1 (fun a ha=>(f1 a ha).1) (fun a ha=>(f1 a ha).1) q1 q1
  obtain ⟨kk,x,hx,x1,x2,x3,x4,x5⟩:=f1 k m1
  have h1:=(fair_legal H hx (by rw [x5];exact kk) (by rw [x5];exact hk)).lock x1 (by omega)
  have h2:=carried_mono hq (fun a ha=>see_all ha) h1
  rw [x2,x3,x4] at h2
  exact (lock_safe H F hc _ r' v' rfl hr h2).symm
 rcases Int.lt_trichotomy r r' with c | c | c
 · exact key c hc hc'
 · subst c
   obtain ⟨v0,l1,n1,q1,f1⟩:=(mem_carried hq).1 hc
   obtain ⟨v0',l2,n2,q2,f2⟩:=(mem_carried hq).1 hc'
   obtain ⟨k,m1,m2,hk⟩:=common_key F.ok F.few n1 n2 (fun a ha=>(f1 a ha).1) (fun a ha=>(f2 a ha).1) q1 q2
   obtain ⟨kk,x,hx,x1,x2,x3,x4,x5⟩:=f1 k m1
   obtain ⟨_,y,hy,y1,y2,y3,y4,y5⟩:=f2 k m2
   have:=one_lock H hx hy (by rw [x5];exact kk) (by rw [x5];exact hk) (by rw [x5,y5]) (by rw [x2,y2]) (by rw [x3,y3]) (by rw [x1,y1])
   subst this
   omega
 · exact (key c hc' hc).symm
theorem ent_part {g h:Hs} (G:His rd R g) (H:His rd R h) (q:SubM g h) {m:Int} (hm:(idxF g m).isSome):entryM g m=entryM h m:=by
 have k:=ent_both G H hm (q m hm)
 rw [<-ent_entry,<-ent_entry] at k
 obtain ⟨i,e1⟩:=Option.isSome_iff_exists.1 hm
 obtain ⟨j,e2⟩:=Option.isSome_iff_exists.1 (q m hm)
 obtain ⟨hi,a⟩:=entry_at e1
 obtain ⟨hj,b⟩:=entry_at e2
 rw [a,b] at k ⊢
 exact congrArg (·, true) k
theorem ref_part {g h:Hs} (G:His rd R g) (H:His rd R h) (_:SubM g h) {m:Int} (hm:(idxF g m).isSome) (hk:(entryM g m).1.kind≠8):(idxF g (entryM g m).1.ref).isSome\/¬(idxF h (entryM g m).1.ref).isSome:=by
 rcases past_ref G hm with c | c | c
 · refine .inr fun z=>?_
   have:=(his_mark H z).1
   omega
 · exact absurd c hk
 · exact .inl (kn_has ((mem_past G _ _).1 c)).1
theorem entry_ref {g h:Hs} (G:His rd R g) (H:His rd R h) (q:SubM g h) {m:Int} (hm:(idxF g m).isSome) (hk:(entryM g m).1.kind≠8):entryM g (entryM g m).1.ref=entryM h (entryM g m).1.ref:=by
 rcases ref_part G H q hm hk with c | c
 · exact ent_part G H q c
 · have d:¬(idxF g (entryM g m).1.ref).isSome:=fun z=>c (q _ z)
   cases e1:idxF g (entryM g m).1.ref with
   | some i=>rw [e1] at d;exact absurd rfl d
   | none =>
     cases e2:idxF h (entryM g m).1.ref with
     | some i=>rw [e2] at c;exact absurd rfl c
     | none =>
       have a:∀ {h:Hs} {m:Int},idxF h m=none->entryM h m=(En.none,false):=fun {h m} e=>by unfold entryM;rw [e]
       rw [a e1,a e2]
theorem act_part {g h:Hs} (G:His rd R g) (H:His rd R h) (q:SubM g h) {m:Int} (hm:(idxF g m).isSome):actF g m=actF h m:=by
 have e:=ent_part G H q hm
 by_cases k8:(entryM g m).1.kind=8
 · unfold actF
   rw [<-e,if_neg (by rw [k8];decide),if_neg (by rw [k8];decide),if_neg (by rw [k8];decide),if_neg (by rw [k8];decide)]
 · have er:=entry_ref G H q hm k8
   have hv:VoteP g (entryM g m).1↔VoteP h (entryM g m).1:=by unfold VoteP;rw [er]
   simp only [actF,valueF,<-e,hv,er]
theorem all_part {g h:Hs} (G:His rd R g) (H:His rd R h) (q:SubM g h):∀ x∈allA g,x∈allA h:=fun x hx=>by
 have e:=mem_all.1 hx
 rw [act_part G H q (act_has e)] at e
 exact mem_all.2 e
theorem round_in {s:Stp} {acts:List ActP} {day n v:Int} (h:v∈carriedF s acts 20 day n) (hq:1<=quorumF s):n∈roundsF acts 20 day:=by
 obtain ⟨_,l,h1,h2,h3⟩:=(mem_carried hq).1 h
 cases l with
 | nil=>have:(([]:List Int).length:Int)=0:=rfl
        omega
 | cons a l =>
   obtain ⟨_,x,hx,x1,x2,x3,_⟩:=h3 a List.mem_cons_self
   exact ((rising_ok _).2 n).2 (mem_roundL.2 ⟨x,hx,x1,x2,x3⟩)
theorem inRound_iff {s:Stp} {acts:List ActP} {day n:Int} {p:Int×Int}:inRound s acts day n=some p↔p.2=n/\(carriedF s acts 20 day n).head? = some p.1:=by
 unfold inRound
 cases carriedF s acts 20 day n with
 | nil=>simp
 | cons v l =>
   obtain ⟨a,b⟩:=p
   simp only [Option.some.injEq,Prod.mk.injEq,List.head?_cons]
   exact ⟨fun ⟨h1,h2⟩=>⟨h2.symm,h1⟩,fun ⟨h1,h2⟩=>⟨h2,h1.symm⟩⟩
theorem decided_in {s:Stp} {acts:List ActP} {day:Int} {p:Int×Int} (h:decidedF s acts day=some p):p.1∈carriedF s acts 20 day p.2/\∀ n v,v∈carriedF s acts 20 day n->n∈roundsF acts 20 day->p.2<=n:=by
 unfold decidedF at h
 obtain ⟨l1,a,l2,e,h1,h2⟩:=List.findSome?_eq_some_iff.1 h
 obtain ⟨rfl,h3⟩:=inRound_iff.1 h1
 refine ⟨List.mem_of_mem_head? h3,fun n v hv hn=>?_⟩
 rw [e] at hn
 rcases List.mem_append.1 hn with c | c
 · have:=h2 n c
   unfold inRound at this
   cases d:carriedF s acts 20 day n with
   | nil=>rw [d] at hv;cases hv
   | cons w l=>rw [d] at this;cases this
 · rcases List.mem_cons.1 c with c | c
   · omega
   · have:=(rising_ok (roundL acts 20 day)).1
     rw [show risingF (roundL acts 20 day)=l1++p.2::l2 from e] at this
     have:=(List.pairwise_cons.1 (List.pairwise_append.1 this).2.1).1 n c
     omega
theorem decided_has {s:Stp} {acts:List ActP} {day n v:Int} (hv:v∈carriedF s acts 20 day n) (hn:n∈roundsF acts 20 day):∃ p,decidedF s acts day=some p:=by
 cases e:decidedF s acts day with
 | some p=>exact ⟨p,rfl⟩
 | none =>
   have:=List.findSome?_eq_none_iff.1 e n hn
   unfold inRound at this
   cases d:carriedF s acts 20 day n with
   | nil=>rw [d] at hv;cases hv
   | cons w l=>rw [d] at this;cases this
theorem decided_part {g h:Hs} (G:His rd R g) (H:His rd R h) (q:SubM g h) {s:Stp} (F:Fair h s) {day:Int} {p:Int×Int} (e:decidedF s (allA g) day=some p):∃ r,decidedF s (allA h) day=some (p.1,r)/\r<=p.2:=by
 have hq:=quorum_pos F.ok
 obtain ⟨h1,_⟩:=decided_in e
 have h2:=carried_mono hq (all_part G H q) h1
 have h3:=round_in h2 hq
 obtain ⟨p',e'⟩:=decided_has h2 h3
 obtain ⟨h4,h5⟩:=decided_in e'
 obtain ⟨v',r'⟩:=p'
 refine ⟨r',?_,h5 _ _ h2 h3⟩
 have k:v'=p.1:=carried_one H F h4 h2
 rw [e',k]
theorem days_part {g h:Hs} (G:His rd R g) (H:His rd R h) (q:SubM g h) {s:Stp} (F:Fair h s) {a b:List (Int×Int)} (da:DaysIs s (allA g) a) (db:DaysIs s (allA h) b):a.length<=b.length/\∀ i (hi:i<a.length) (hj:i<b.length),a[i].1=b[i].1/\b[i].2<=a[i].2:=by
 have hl:a.length<=b.length:=Nat.le_of_not_lt fun c=>by
  obtain ⟨r,e,_⟩:=decided_part G H q F (da.each _ c)
  rw [db.stop] at e;cases e
 refine ⟨hl,fun i hi hj=>?_⟩
 obtain ⟨r,e,hr⟩:=decided_part G H q F (da.each i hi)
 rw [db.each i hj] at e
 injection e with e
 rw [e]
 exact ⟨rfl,hr⟩
end Go.Proofs.YtjkmalddfoemhaaGreatDoor
namespace Go.Proofs.YtjkmalddfoemhaaGreatDoor
open Go
variable {rd:List UInt8->En×Int} {R:Rg}
theorem vote_has {h:Hs} (H:His rd R h) {e:En} (v:VoteP h e):(idxF h (valueF h e.ref)).isSome:=by
 obtain ⟨v1,v2,_⟩:=v
 have hr:(idxF h e.ref).isSome:=by
  cases c:idxF h e.ref with
  | some i=>rfl
  | none=>unfold entryM at v1;rw [c] at v1;cases v1
 unfold valueF
 rw [if_pos ⟨v1,v2⟩]
 by_cases c:(entryM h e.ref).1.ref=-1
 · rw [if_pos c];exact hr
 · rw [if_neg c]
   rcases past_ref H hr with d | d | d
   · exact absurd d c
   · rw [v2] at d;cases d
   · exact past_has H d
theorem carried_has {h:Hs} (H:His rd R h) {s:Stp} (hq:1<=quorumF s) {kind day n v:Int} (hk:kind≠18) (hv:v∈carriedF s (allA h) kind day n):(idxF h v).isSome:=by
 obtain ⟨v0,l,h1,h2,h3⟩:=(mem_carried hq).1 hv
 cases l with
 | nil=>have:(([]:List Int).length:Int)=0:=rfl
        omega
 | cons a l =>
   obtain ⟨_,x,hx,x1,_,_,x4,_⟩:=h3 a List.mem_cons_self
   obtain ⟨w1,w2⟩:=act_vote hx (by rw [x1];exact hk) (by rw [x4];exact v0)
   rw [<-x4,w2]
   exact vote_has H w1
theorem days_has {h:Hs} (H:His rd R h) {s:Stp} (hq:1<=quorumF s) {a:List (Int×Int)} (da:DaysIs s (allA h) a) (i:Nat) (hi:i<a.length):(idxF h a[i].1).isSome :=
 carried_has H hq (by decide) (decided_in (da.each i hi)).1
theorem days_len {g h:Hs} (G:His rd R g) (H:His rd R h) (q:SubM g h) {s:Stp} (hq:1<=quorumF s) {a b:List (Int×Int)} (da:DaysIs s (allA g) a) (db:DaysIs s (allA h) b):a.length<=b.length:=Nat.le_of_not_lt fun c=>by
 have h2:=carried_mono hq (all_part G H q) (decided_in (da.each _ c)).1
 obtain ⟨p,e⟩:=decided_has h2 (round_in h2 hq)
 rw [db.stop] at e;cases e
theorem put_part {g h:Hs} (G:His rd R g) (H:His rd R h) (q:SubM g h) (out:List Int) {ms:List Int} (hm:∀ m∈ms,(idxF g m).isSome):putF g out ms=putF h out ms:=by
 unfold putF
 rw [sorted_both G H (x:=ms) (y:=ms) fun m=>⟨fun ⟨a,b⟩=>⟨a,q m b⟩,fun ⟨a,_⟩=>⟨a,hm m a⟩⟩]
theorem seqTo_part {g h:Hs} (G:His rd R g) (H:His rd R h) (q:SubM g h) {a b:List (Int×Int)} (he:∀ i (hi:i<a.length) (hj:i<b.length),a[i].1=b[i].1) (hl:a.length<=b.length) (hh:∀ i (hi:i<a.length),(idxF g a[i].1).isSome):∀ k,k<=a.length->seqTo g a k=seqTo h b k
 | 0,_=>rfl
 | k+1,hk=>by
   have hk':k<a.length:=by omega
   rw [seqTo_succ hk',seqTo_succ (show k<b.length by omega),seqTo_part G H q he hl hh k (by omega),<-he k hk' (by omega),<-past_both G H (hh k hk') (q _ (hh k hk'))]
   exact put_part G H q _ fun m hm=>past_has G hm
theorem endsTo_part {g h:Hs} {a b:List (Int×Int)} {n:Nat} (e:∀ k,k<=n->seqTo g a k=seqTo h b k):endsTo g a n=endsTo h b n:=by
 unfold endsTo
 refine List.map_congr_left fun d hd=>?_
 rw [e (d+1) (by have:=List.mem_range.1 hd;omega)]
theorem endsTo_pre {h:Hs} {b:List (Int×Int)} {k n:Nat} (hk:k<=n):endsTo h b k=(endsTo h b n).take k:=by
 unfold endsTo
 rw [<-List.map_take,List.take_range,Nat.min_eq_left hk]
structure Begins (x y:List Int) (ends ends':List Int):Prop where
 len:ends.length<=ends'.length
 pre:ends=ends'.take ends.length
 last:∀ (h0:0<ends.length),∃ n:Nat,ends[ends.length-1]=(n:Int)/\n<=x.length/\n<=y.length/\x.take n=y.take n
theorem begins_of {g h:Hs} {a b:List (Int×Int)} (hl:a.length<=b.length) (e:∀ k,k<=a.length->seqTo g a k=seqTo h b k):Begins (seqF g a) (seqF h b) (endsF g a) (endsF h b):=by
 have l1:(endsF g a).length=a.length:=endsTo_len _ _ _
 have l2:(endsF h b).length=b.length:=endsTo_len _ _ _
 refine ⟨by omega,?_,fun h0=>?_⟩
 · rw [l1]
   unfold endsF
   rw [<-endsTo_pre hl]
   exact endsTo_part e
 · refine ⟨(seqTo g a a.length).length,?_,?_⟩
   · have:=endsTo_get g a (k:=a.length) (d:=(endsF g a).length-1) (by have:=endsTo_len g a a.length;omega)
     unfold endsF at this ⊢
     rw [this,show (endsTo g a a.length).length-1+1=a.length by rw [show (endsTo g a a.length).length=a.length from l1];omega]
   · obtain ⟨t,ht⟩:=seq_pre (h:=g) a (k:=a.length) (Nat.le_refl _)
     obtain ⟨u,hu⟩:=seq_pre (h:=h) b (k:=a.length) hl
     rw [e a.length (Nat.le_refl _)] at ht ⊢
     rw [ht,hu]
     refine ⟨by rw [List.length_append];omega,by rw [List.length_append];omega,?_⟩
     rw [List.take_left',List.take_left']<;>rfl
theorem stays_law {u v h:Hs} (U:His rd R u) (V:His rd R v) (H:His rd R h) (uv:SubM u v) (vh:SubM v h) {s:Stp} (F:Fair h s) {a b c:List (Int×Int)} (da:DaysIs s (allA u) a) (db:DaysIs s (allA v) b) (dc:DaysIs s (allA h) c) :
 Begins (seqF u a) (seqF v b) (endsF u a) (endsF v b)/\Begins (seqF u a) (seqF h c) (endsF u a) (endsF h c)/\(endsF v b).length<=(endsF h c).length/\endsF v b=(endsF h c).take (endsF v b).length:=by
 have hq:=quorum_pos F.ok
 have uh:SubM u h:=fun m q=>vh m (uv m q)
 have l1:=days_len U V uv hq da db
 have l2:=days_len V H vh hq db dc
 obtain ⟨l3,e3⟩:=days_part U H uh F da dc
 obtain ⟨_,e2⟩:=days_part V H vh F db dc
 have k1:=seqTo_part U V uv (fun i hi hj=>by rw [(e3 i hi (by omega)).1,(e2 i hj (by omega)).1]) l1 (days_has U hq da)
 have k2:=seqTo_part V H vh (fun i hi hj=>(e2 i hi hj).1) l2 (days_has V hq db)
 have k3:=seqTo_part U H uh (fun i hi hj=>(e3 i hi hj).1) l3 (days_has U hq da)
 have B:=begins_of l2 k2
 exact ⟨begins_of l1 k1,begins_of l3 k3,B.len,B.pre⟩
end Go.Proofs.YtjkmalddfoemhaaGreatDoor
