/- Histories in plain words: signatures, what is added, what an entry knows, levels. No program in sight. -/
import Derived.Test.YtjkmalddfoemhaaGreatDoorJ1
namespace Go.Proofs.YtjkmalddfoemhaaGreatDoor
open Go
structure Sg where
 key:Int
 text:List UInt8
 mark:Int
 deriving DecidableEq
abbrev Rg:=List (Int×List UInt8)
def ValidP (R:Rg) (s:Sg):Prop:=0<=s.mark/\R[s.mark.toNat]? = some (s.key,s.text)
instance (R:Rg) (s:Sg):Decidable (ValidP R s):=by unfold ValidP;exact inferInstance
theorem valid_same {R:Rg} {s t:Sg} (h1:ValidP R s) (h2:ValidP R t) (h:s.mark=t.mark):s=t:=by
 obtain ⟨_,h1⟩:=h1
 obtain ⟨_,h2⟩:=h2
 rw [h,h2] at h1
 injection h1 with h1
 injection h1 with h3 h4
 cases s;cases t
 dsimp only at h h3 h4
 rw [h,h3,h4]
structure Nd where
 sg:Sg
 en:En
 level:Nat
 past:Nat->Bool
abbrev Hs:=List Nd
def Nd.mark (n:Nd):Int:=n.sg.mark
def idxF (h:Hs) (m:Int):Option Nat:=h.findIdx? fun n=>n.mark==m
def pastAt (h:Hs) (i j:Nat):Bool:=match h[i]? with
 | some n=>n.past j
 | none=>false
def levelAt (h:Hs) (i:Nat):Nat:=match h[i]? with
 | some n=>n.level
 | none=>0
def downStep (h:Hs) (st:(Nat->Bool)×Bool) (m:Int):(Nat->Bool)×Bool:=match idxF h m with
 | none=>(st.1,false)
 | some i=>(fun j=>st.1 j || pastAt h i j || j==i,st.2)
def downF (h:Hs) (ms:List Int):(Nat->Bool)×Bool:=ms.foldl (downStep h) (fun _=>false,true)
def levelStep (h:Hs) (a:Nat) (m:Int):Nat:=match idxF h m with
 | none=>max a 1
 | some i=>max a (levelAt h i+1)
def levelF (h:Hs) (ms:List Int):Nat:=ms.foldl (levelStep h) 0
def refB (h:Hs) (e:En) (p:Nat->Bool):Bool:=e.ref==-1 || e.kind==8 || match idxF h e.ref with
 | none=>false
 | some i=>p i
def addF (rd:List UInt8->En×Int) (R:Rg) (h:Hs) (s:Sg):Hs×Int :=
 if ¬ValidP R s then (h,17)
 else if (rd s.text).2≠0\/(rd s.text).1.author≠s.key then (h,2)
 else if (idxF h s.mark).isSome then (h,0)
 else if (downF h (rd s.text).1.knows).2=false then (h,19)
 else if refB h (rd s.text).1 (downF h (rd s.text).1.knows).1=false then (h,19)
 else if 4000<=h.length then (h,6)
 else (h++[⟨s,(rd s.text).1,levelF h (rd s.text).1.knows,(downF h (rd s.text).1.knows).1⟩],0)
theorem idx_some {h:Hs} {m:Int} {i:Nat} (e:idxF h m=some i):∃ hi:i<h.length,h[i].mark=m:=by
 unfold idxF at e
 obtain ⟨hi,h1,_⟩:=List.findIdx?_eq_some_iff_getElem.1 e
 exact ⟨hi,by simpa using h1⟩
theorem idx_none {h:Hs} {m:Int}:idxF h m=none↔∀ n∈h,n.mark≠m:=by
 unfold idxF
 rw [List.findIdx?_eq_none_iff]
 simp
theorem idx_of {h:Hs} (hn:(h.map Nd.mark).Nodup) {i:Nat} (hi:i<h.length):idxF h h[i].mark=some i:=by
 unfold idxF
 refine List.findIdx?_eq_some_iff_getElem.2 ⟨hi,by simp,fun j hj=>?_⟩
 have hjl:j<h.length:=Nat.lt_trans hj hi
 simp only [beq_iff_eq]
 intro e
 have h1:(h.map Nd.mark)[j]'(by simpa using hjl)=(h.map Nd.mark)[i]'(by simpa using hi):=by simpa using e
 have:=(List.getElem_inj hn).1 h1
 omega
theorem idx_snoc {h:Hs} {n:Nd} {m:Int}:idxF (h++[n]) m=match idxF h m with
 | some i=>some i
 | none=>if n.mark=m then some h.length else none:=by
 unfold idxF
 rw [List.findIdx?_append]
 cases h.findIdx? fun n=>n.mark==m with
 | some i=>rfl
 | none=>by_cases e:n.mark=m<;>simp [List.findIdx?_cons,e]
theorem down_iff (h:Hs) (j:Nat):∀ (ms:List Int) (st:(Nat->Bool)×Bool),(ms.foldl (downStep h) st).1 j=true↔st.1 j=true\/∃ m∈ms,∃ i,idxF h m=some i/\(pastAt h i j=true\/j=i)
 | [],st=>by simp
 | m::ms,st=>by
   rw [List.foldl_cons,down_iff h j ms]
   unfold downStep
   cases e:idxF h m with
   | none=>simp [e]
   | some i=>simp [e,or_assoc]
theorem down_all (h:Hs):∀ (ms:List Int) (st:(Nat->Bool)×Bool),(ms.foldl (downStep h) st).2=true↔st.2=true/\∀ m∈ms,(idxF h m).isSome
 | [],st=>by simp
 | m::ms,st=>by
   rw [List.foldl_cons,down_all h ms]
   unfold downStep
   cases e:idxF h m with
   | none=>simp [e]
   | some i=>simp [e]
theorem downF_iff (h:Hs) (ms:List Int) (j:Nat):(downF h ms).1 j=true↔∃ m∈ms,∃ i,idxF h m=some i/\(pastAt h i j=true\/j=i):=by
 unfold downF;rw [down_iff];simp
theorem downF_all (h:Hs) (ms:List Int):(downF h ms).2=true↔∀ m∈ms,(idxF h m).isSome:=by
 unfold downF;rw [down_all];simp
theorem levels_le (h:Hs) (b:Nat):∀ (ms:List Int) (a:Nat),(∀ m∈ms,(idxF h m).isSome)->(ms.foldl (levelStep h) a<=b↔a<=b/\∀ m∈ms,∀ i,idxF h m=some i->levelAt h i+1<=b)
 | [],a,_=>by simp
 | m::ms,a,hk=>by
   rw [List.foldl_cons,levels_le h b ms _ fun x hx=>hk x (List.mem_cons_of_mem _ hx)]
   unfold levelStep
   have hm:=hk m List.mem_cons_self
   cases e:idxF h m with
   | none=>rw [e] at hm;cases hm
   | some i =>
     dsimp only
     rw [List.forall_mem_cons,e]
     simp only [Option.some.injEq,forall_eq',Nat.max_le]
     exact ⟨fun ⟨⟨a,b⟩,c⟩=>⟨a,b,c⟩,fun ⟨a,b,c⟩=>⟨⟨a,b⟩,c⟩⟩
theorem levelF_le {h:Hs} {ms:List Int} (hk:∀ m∈ms,(idxF h m).isSome) (b:Nat):levelF h ms<=b↔∀ m∈ms,∀ i,idxF h m=some i->levelAt h i+1<=b:=by
 unfold levelF;rw [levels_le h b ms 0 hk];simp
structure Adds1 (rd:List UInt8->En×Int) (R:Rg) (h:Hs) (n:Nd):Prop where
 valid:ValidP R n.sg
 read:rd n.sg.text=(n.en,0)
 author:n.en.author=n.sg.key
 new:idxF h n.mark=none
 all:∀ m∈n.en.knows,(idxF h m).isSome
 ref:refB h n.en n.past=true
 past:n.past=(downF h n.en.knows).1
 level:n.level=levelF h n.en.knows
inductive His (rd:List UInt8->En×Int) (R:Rg):Hs->Prop
 | nil:His rd R []
 | snoc {h n}:His rd R h->Adds1 rd R h n->His rd R (h++[n])
variable {rd:List UInt8->En×Int} {R:Rg}
theorem His.nodup {h:Hs} (H:His rd R h):(h.map Nd.mark).Nodup:=by
 induction H with
 | nil=>exact List.nodup_nil
 | snoc H A ih =>
   rename_i h n
   rw [List.map_append,List.nodup_append]
   refine ⟨ih,by simp,fun a ha b hb=>?_⟩
   obtain ⟨x,hx,rfl⟩:=List.mem_map.1 ha
   rw [show b=n.mark by simpa using hb]
   exact idx_none.1 A.new x hx
theorem add_one {h:Hs} {s:Sg}:(∃ n,(addF rd R h s)=(h++[n],0)/\n.sg=s/\Adds1 rd R h n/\h.length<4000)\/(addF rd R h s).1=h:=by
 unfold addF
 split
 · exact .inr rfl
 rename_i h1
 split
 · exact .inr rfl
 rename_i h2
 split
 · exact .inr rfl
 rename_i h3
 split
 · exact .inr rfl
 rename_i h4
 split
 · exact .inr rfl
 rename_i h5
 split
 · exact .inr rfl
 rename_i h6
 refine .inl ⟨_,rfl,rfl,?_,by omega⟩
 have h1:=Decidable.not_not.1 h1
 have h2':(rd s.text).2=0/\(rd s.text).1.author=s.key:=by
  refine ⟨Decidable.byContradiction fun c=>h2 (.inl c),Decidable.byContradiction fun c=>h2 (.inr c)⟩
 refine ⟨h1,?_,h2'.2,?_,?_,?_,rfl,rfl⟩
 · show rd s.text=((rd s.text).1,0)
   rw [<-h2'.1]
 · show idxF h s.mark=none
   cases e:idxF h s.mark with
   | none=>rfl
   | some i=>rw [e] at h3;exact absurd rfl h3
 · exact (downF_all h _).1 (by simpa using h4)
 · simpa using h5
theorem His.add {h:Hs} (H:His rd R h) (s:Sg):His rd R (addF rd R h s).1:=by
 rcases add_one (rd:=rd) (R:=R) (h:=h) (s:=s) with ⟨n,e,_,A,_⟩ | e
 · rw [e];exact H.snoc A
 · rw [e];exact H
def Kn (h:Hs) (a b:Int):Prop:=∃ i j,idxF h a=some i/\idxF h b=some j/\pastAt h j i=true
theorem His.at {h:Hs} (H:His rd R h):∀ {i:Nat} (hi:i<h.length),Adds1 rd R (h.take i) h[i]:=by
 induction H with
 | nil=>intro i hi;cases hi
 | snoc H A ih =>
   rename_i h n
   intro i hi
   rw [List.length_append,List.length_singleton] at hi
   by_cases hl:i<h.length
   · rw [List.getElem_append_left hl,List.take_append_of_le_length (Nat.le_of_lt hl)]
     exact ih hl
   · have:i=h.length:=by omega
     subst this
     simpa using A
theorem idx_take {h:Hs} (hn:(h.map Nd.mark).Nodup) {m:Int} {k i:Nat}:idxF (h.take k) m=some i↔i<k/\idxF h m=some i:=by
 have hn':((h.take k).map Nd.mark).Nodup:=by
  rw [List.map_take];exact hn.sublist (List.take_sublist _ _)
 constructor
 · intro e
   obtain ⟨hi,hm⟩:=idx_some e
   have hl:i<k/\i<h.length:=by rw [List.length_take] at hi;omega
   rw [List.getElem_take] at hm
   refine ⟨hl.1,?_⟩
   rw [<-hm]
   exact idx_of hn hl.2
 · rintro ⟨hk,e⟩
   obtain ⟨hi,hm⟩:=idx_some e
   have hl:i<(h.take k).length:=by rw [List.length_take];omega
   have:=idx_of hn' hl
   rw [List.getElem_take,hm] at this
   exact this
theorem past_take {h:Hs} {k i j:Nat} (hi:i<k):pastAt (h.take k) i j=pastAt h i j:=by
 unfold pastAt;rw [List.getElem?_take,if_pos hi]
theorem level_take {h:Hs} {k i:Nat} (hi:i<k):levelAt (h.take k) i=levelAt h i:=by
 unfold levelAt;rw [List.getElem?_take,if_pos hi]
theorem His.knows {h:Hs} (H:His rd R h) {i:Nat} (hi:i<h.length) {m:Int} (hm:m∈h[i].en.knows):∃ j,idxF h m=some j/\j<i:=by
 have A:=H.at hi
 have:=A.all m hm
 obtain ⟨j,e⟩:=Option.isSome_iff_exists.1 this
 obtain ⟨h1,h2⟩:=(idx_take H.nodup).1 e
 exact ⟨j,h2,h1⟩
theorem His.past_iff {h:Hs} (H:His rd R h) {i:Nat} (hi:i<h.length) (j:Nat):pastAt h i j=true↔∃ m∈h[i].en.knows,∃ k,idxF h m=some k/\k<i/\(pastAt h k j=true\/j=k):=by
 have A:=H.at hi
 have e:pastAt h i j=(downF (h.take i) h[i].en.knows).1 j:=by
  unfold pastAt
  rw [List.getElem?_eq_getElem hi]
  show h[i].past j=_
  rw [A.past]
 rw [e,downF_iff]
 constructor
 · rintro ⟨m,hm,k,hk,hp⟩
   obtain ⟨h1,h2⟩:=(idx_take H.nodup).1 hk
   rw [past_take h1] at hp
   exact ⟨m,hm,k,h2,h1,hp⟩
 · rintro ⟨m,hm,k,h2,h1,hp⟩
   exact ⟨m,hm,k,(idx_take H.nodup).2 ⟨h1,h2⟩,by rw [past_take h1];exact hp⟩
theorem His.kn_iff {h:Hs} (H:His rd R h) {b:Int} {j:Nat} (hb:idxF h b=some j) (hj:j<h.length) (a:Int):Kn h a b↔(∃ i,idxF h a=some i)/\∃ m∈h[j].en.knows,a=m\/Kn h a m:=by
 constructor
 · rintro ⟨i,j',ha,hb',hp⟩
   rw [hb] at hb';cases hb'
   refine ⟨⟨i,ha⟩,?_⟩
   obtain ⟨m,hm,k,hk,_,h2⟩:=(H.past_iff hj i).1 hp
   rcases h2 with h2 | h2
   · exact ⟨m,hm,.inr ⟨i,k,ha,hk,h2⟩⟩
   · subst h2
     obtain ⟨_,e1⟩:=idx_some ha
     obtain ⟨_,e2⟩:=idx_some hk
     exact ⟨m,hm,.inl (e1.symm.trans e2)⟩
 · rintro ⟨⟨i,ha⟩,m,hm,h1⟩
   obtain ⟨k,hk,hkj⟩:=H.knows hj hm
   refine ⟨i,j,ha,hb,(H.past_iff hj i).2 ⟨m,hm,k,hk,hkj,?_⟩⟩
   rcases h1 with rfl | ⟨i',k',ha',hk',hp⟩
   · rw [ha] at hk;cases hk;exact .inr rfl
   · rw [ha] at ha';cases ha'
     rw [hk] at hk';cases hk'
     exact .inl hp
theorem His.kn_trans {h:Hs} (H:His rd R h) {a b:Int} (hab:Kn h a b):∀ (k:Nat) {c:Int},idxF h c=some k->Kn h b c->Kn h a c:=by
 intro k
 induction k using Nat.strongRecOn with
 | _ k ih =>
   intro c hc hbc
   obtain ⟨hk,_⟩:=idx_some hc
   rw [H.kn_iff hc hk] at hbc ⊢
   obtain ⟨_,m,hm,h1⟩:=hbc
   obtain ⟨i,_,ha,_,_⟩:=id hab
   refine ⟨⟨i,ha⟩,m,hm,.inr ?_⟩
   rcases h1 with rfl | h1
   · exact hab
   · obtain ⟨l,hl,hlk⟩:=H.knows hk hm
     exact ih l hlk hl h1
theorem His.level_le {h:Hs} (H:His rd R h) {i:Nat} (hi:i<h.length) (b:Nat):levelAt h i<=b↔∀ m∈h[i].en.knows,∀ k,idxF h m=some k->levelAt h k+1<=b:=by
 have A:=H.at hi
 have e:levelAt h i=levelF (h.take i) h[i].en.knows:=by
  unfold levelAt
  rw [List.getElem?_eq_getElem hi]
  exact A.level
 rw [e,levelF_le A.all]
 constructor
 · intro h1 m hm k hk
   obtain ⟨k',hk',hlt⟩:=H.knows hi hm
   rw [hk] at hk';cases hk'
   have:=h1 m hm k ((idx_take H.nodup).2 ⟨hlt,hk⟩)
   rw [level_take hlt] at this
   exact this
 · intro h1 m hm k hk
   obtain ⟨hlt,hk'⟩:=(idx_take H.nodup).1 hk
   rw [level_take hlt]
   exact h1 m hm k hk'
theorem His.kn_level {h:Hs} (H:His rd R h) {a:Int} {i:Nat} (ha:idxF h a=some i):∀ (j:Nat) {b:Int},idxF h b=some j->Kn h a b->levelAt h i<levelAt h j:=by
 intro j
 induction j using Nat.strongRecOn with
 | _ j ih =>
   intro b hb hk
   obtain ⟨hj,_⟩:=idx_some hb
   obtain ⟨_,m,hm,h1⟩:=(H.kn_iff hb hj a).1 hk
   obtain ⟨l,hl,hlj⟩:=H.knows hj hm
   have h2:=(H.level_le hj _).1 (Nat.le_refl _) m hm l hl
   rcases h1 with rfl | h1
   · rw [ha] at hl;cases hl;omega
   · have:=ih l hlj hl h1;omega
theorem his_same {h g:Hs} (H:His rd R h) (G:His rd R g):∀ (i:Nat) {m:Int} {j:Nat},idxF h m=some i->idxF g m=some j →
 (∃ (hi:i<h.length) (hj:j<g.length),h[i].sg=g[j].sg/\h[i].en=g[j].en)/\levelAt h i=levelAt g j/\∀ a,Kn h a m↔Kn g a m:=by
 intro i
 induction i using Nat.strongRecOn with
 | _ i ih =>
   intro m j hi hj
   obtain ⟨li,mi⟩:=idx_some hi
   obtain ⟨lj,mj⟩:=idx_some hj
   have A:=H.at li
   have B:=G.at lj
   have hs:h[i].sg=g[j].sg:=valid_same A.valid B.valid (mi.trans mj.symm)
   have he:h[i].en=g[j].en:=by
    have h1:=A.read
    have h2:=B.read
    rw [hs,h2] at h1
    exact (congrArg Prod.fst h1).symm
   refine ⟨⟨li,lj,hs,he⟩,?_,fun a=>?_⟩
   · apply Nat.le_antisymm
     · rw [H.level_le li]
       intro x hx k hk
       obtain ⟨k',hk',hlt⟩:=H.knows li hx
       rw [hk] at hk';cases hk'
       obtain ⟨l,hl,_⟩:=G.knows lj (he ▸ hx)
       obtain ⟨_,e,_⟩:=ih k hlt hk hl
       rw [e]
       exact (G.level_le lj _).1 (Nat.le_refl _) x (he ▸ hx) l hl
     · rw [G.level_le lj]
       intro x hx l hl
       rw [<-he] at hx
       obtain ⟨k,hk,hlt⟩:=H.knows li hx
       obtain ⟨_,e,_⟩:=ih k hlt hk hl
       rw [<-e]
       exact (H.level_le li _).1 (Nat.le_refl _) x hx k hk
   · rw [H.kn_iff hi li,G.kn_iff hj lj,<-he]
     constructor
     · rintro ⟨_,x,hx,h1⟩
       obtain ⟨k,hk,hlt⟩:=H.knows li hx
       obtain ⟨l,hl,_⟩:=G.knows lj (he ▸ hx)
       obtain ⟨_,_,hkn⟩:=ih k hlt hk hl
       rcases h1 with rfl | h1
       · exact ⟨⟨l,hl⟩,a,hx,.inl rfl⟩
       · have h2:=(hkn a).1 h1
         obtain ⟨i',_,e',_,_⟩:=id h2
         exact ⟨⟨i',e'⟩,x,hx,.inr h2⟩
     · rintro ⟨_,x,hx,h1⟩
       obtain ⟨k,hk,hlt⟩:=H.knows li hx
       obtain ⟨l,hl,_⟩:=G.knows lj (he ▸ hx)
       obtain ⟨_,_,hkn⟩:=ih k hlt hk hl
       rcases h1 with rfl | h1
       · exact ⟨⟨k,hk⟩,a,hx,.inl rfl⟩
       · have h2:=(hkn a).2 h1
         obtain ⟨i',_,e',_,_⟩:=id h2
         exact ⟨⟨i',e'⟩,x,hx,.inr h2⟩
end Go.Proofs.YtjkmalddfoemhaaGreatDoor
namespace Go.Proofs.YtjkmalddfoemhaaGreatDoor
open Go
variable {rd:List UInt8->En×Int} {R:Rg}
theorem sorted_unique {α:Type} {r:α->α->Prop} (hr:∀ a b,r a b->¬r b a) (hi:∀ a,¬r a a):∀ {x y:List α},x.Pairwise r->y.Pairwise r->(∀ z,z∈x↔z∈y)->x=y
 | [],[],_,_,_=>rfl
 | [],b::y,_,_,h=>absurd ((h b).2 List.mem_cons_self) (by simp)
 | a::x,[],_,_,h=>absurd ((h a).1 List.mem_cons_self) (by simp)
 | a::x,b::y,hx,hy,h=>by
   obtain ⟨hx1,hx2⟩:=List.pairwise_cons.1 hx
   obtain ⟨hy1,hy2⟩:=List.pairwise_cons.1 hy
   have e:a=b:=by
    rcases List.mem_cons.1 ((h a).1 List.mem_cons_self) with e | e
    · exact e
    · rcases List.mem_cons.1 ((h b).2 List.mem_cons_self) with e' | e'
      · exact e'.symm
      · exact absurd (hx1 b e') (hr b a (hy1 a e))
   subst e
   rw [sorted_unique hr hi hx2 hy2 fun z=>?_]
   have h1:=h z
   rw [List.mem_cons,List.mem_cons] at h1
   constructor
   · intro hz
     rcases h1.1 (.inr hz) with e | e
     · subst e;exact absurd (hx1 z hz) (hi z)
     · exact e
   · intro hz
     rcases h1.2 (.inr hz) with e | e
     · subst e;exact absurd (hy1 z hz) (hi z)
     · exact e
def sortI (l:List Int):List Int:=l.mergeSort fun a b=>decide (a<=b)
theorem sortI_perm (l:List Int):(sortI l).Perm l:=List.mergeSort_perm _ _
theorem sortI_mem (l:List Int) (x:Int):x∈sortI l↔x∈l:=(sortI_perm l).mem_iff
theorem sortI_asc {l:List Int} (h:l.Nodup):(sortI l).Pairwise (· < ·):=by
 have h1:=List.pairwise_mergeSort (le:=fun a b:Int=>decide (a<=b)) (fun a b c h1 h2=>by simp only [decide_eq_true_eq] at *;omega) (fun a b=>by simp only [Bool.or_eq_true,decide_eq_true_eq];omega) l
 have h2:(sortI l).Nodup:=(sortI_perm l).nodup_iff.2 h
 exact (h1.and h2).imp fun ⟨a,b⟩=>by simp only [decide_eq_true_eq] at a;omega
theorem sortI_eq {a b:List Int} (ha:a.Nodup) (hb:b.Nodup) (h:∀ x,x∈a↔x∈b):sortI a=sortI b :=
 sorted_unique (fun a b h1 h2=>by omega) (fun a h=>by omega) (sortI_asc ha) (sortI_asc hb) fun z=>by rw [sortI_mem,sortI_mem,h]
theorem mark_range {h:Hs} (H:His rd R h):∀ n∈h,0<=n.mark/\n.mark<R.length:=by
 intro n hn
 obtain ⟨i,hi,rfl⟩:=List.getElem_of_mem hn
 obtain ⟨h1,h2⟩:=(H.at hi).valid
 obtain ⟨h3,_⟩:=List.getElem?_eq_some_iff.1 h2
 exact ⟨h1,by unfold Nd.mark;omega⟩
theorem nodup_len {l:List Int}:∀ (n:Nat),l.Nodup->(∀ x∈l,0<=x/\x<n)->l.length<=n
 | 0,_,h=>by
   cases l with
   | nil=>exact Nat.le_refl _
   | cons a l=>have:=h a List.mem_cons_self;omega
 | n+1,hn,h=>by
   have h1:=nodup_len (l:=l.erase n) n (hn.erase _) fun x hx=>by
    have h2:=(hn.mem_erase_iff).1 hx
    have h3:=h x h2.2
    exact ⟨h3.1,by have:=h2.1;omega⟩
   have h2:=List.length_erase (a:=(n:Int)) (l:=l)
   split at h2<;>omega
theorem His.len {h:Hs} (H:His rd R h):h.length<=R.length:=by
 have:=nodup_len R.length H.nodup fun x hx=>by
  obtain ⟨n,hn,rfl⟩:=List.mem_map.1 hx
  exact mark_range H n hn
 rwa [List.length_map] at this
theorem mem_marks {h:Hs} {m:Int}:(idxF h m).isSome↔m∈h.map Nd.mark:=by
 cases e:idxF h m with
 | none=>simp only [Option.isSome_none,Bool.false_eq_true,false_iff];intro hm;obtain ⟨n,hn,rfl⟩:=List.mem_map.1 hm;exact idx_none.1 e n hn rfl
 | some i=>obtain ⟨hi,rfl⟩:=idx_some e;simp only [Option.isSome_some,true_iff];exact List.mem_map.2 ⟨_,List.getElem_mem hi,rfl⟩
theorem His.room {h:Hs} (H:His rd R h) (hR:R.length<=4000) {m:Int} (hm:0<=m/\m<R.length) (hn:(idxF h m).isSome=false):h.length<4000:=by
 have h1:m∉h.map Nd.mark:=fun c=>by rw [mem_marks.2 c] at hn;cases hn
 have:=nodup_len (l:=m::h.map Nd.mark) R.length (List.nodup_cons.2 ⟨h1,H.nodup⟩) fun x hx=>by
  rcases List.mem_cons.1 hx with rfl | hx
  · exact hm
  · obtain ⟨n,hn,rfl⟩:=List.mem_map.1 hx
    exact mark_range H n hn
 rw [List.length_cons,List.length_map] at this
 omega
theorem ref_iff {h:Hs} (H:His rd R h) {i:Nat} (hi:i<h.length):h[i].en.ref=-1\/h[i].en.kind=8\/Kn h h[i].en.ref h[i].mark:=by
 have A:=H.at hi
 have h1:=A.ref
 unfold refB at h1
 simp only [Bool.or_eq_true,beq_iff_eq] at h1
 rcases h1 with (h1 | h1) | h1
 · exact .inl h1
 · exact .inr (.inl h1)
 · refine .inr (.inr ?_)
   cases e:idxF (h.take i) h[i].en.ref with
   | none=>rw [e] at h1;cases h1
   | some k =>
     rw [e] at h1
     obtain ⟨_,e'⟩:=(idx_take H.nodup).1 e
     refine ⟨k,i,e',idx_of H.nodup hi,?_⟩
     unfold pastAt
     rw [List.getElem?_eq_getElem hi]
     exact h1
theorem down_ref {g:Hs} {e:En} {x:Int} (hx:x∈e.knows) {r:Int} {k:Nat} (hk:idxF g r=some k) (hkn:(idxF g x).isSome) (h:r=x\/Kn g r x):(downF g e.knows).1 k=true:=by
 rw [downF_iff]
 rcases h with rfl | ⟨i,j,h1,h2,h3⟩
 · exact ⟨r,hx,k,hk,.inr rfl⟩
 · rw [hk] at h1;cases h1
   exact ⟨x,hx,j,h2,.inl h3⟩
theorem add_ok {h g:Hs} (H:His rd R h) (G:His rd R g) (hR:R.length<=4000) {i:Nat} (hi:i<h.length) (hk:∀ x∈h[i].en.knows,(idxF g x).isSome) :
 (addF rd R g h[i].sg).2=0/\∀ m,(idxF (addF rd R g h[i].sg).1 m).isSome↔(idxF g m).isSome\/m=h[i].mark:=by
 have A:=H.at hi
 have hrd:rd h[i].sg.text=(h[i].en,0):=A.read
 unfold addF
 rw [if_neg (fun c=>c A.valid),hrd]
 dsimp only
 rw [if_neg (by rintro (c | c);exact c rfl;exact c A.author)]
 by_cases hn:(idxF g h[i].sg.mark).isSome
 · rw [if_pos hn]
   exact ⟨rfl,fun m=>⟨.inl,fun c=>c.elim id fun e=>by rw [e];exact hn⟩⟩
 · rw [if_neg hn,if_neg (by rw [(downF_all g _).2 hk];decide),if_neg,if_neg]
   · refine ⟨rfl,fun m=>?_⟩
     rw [mem_marks,mem_marks,List.map_append,List.mem_append,List.map_singleton,List.mem_singleton]
     rfl
   · have:=G.room hR (mark_range H _ (List.getElem_mem hi)) (show (idxF g h[i].sg.mark).isSome=false by simpa using hn)
     omega
   · rw [Bool.not_eq_false]
     unfold refB
     simp only [Bool.or_eq_true,beq_iff_eq]
     rcases ref_iff H hi with c | c | c
     · exact .inl (.inl c)
     · exact .inl (.inr c)
     · refine .inr ?_
       obtain ⟨⟨a,ha⟩,x,hx,h1⟩:=(H.kn_iff (idx_of H.nodup hi) hi _).1 c
       have hgx:=hk x hx
       obtain ⟨l,hl⟩:=Option.isSome_iff_exists.1 hgx
       obtain ⟨k,hkx,_⟩:=H.knows hi hx
       obtain ⟨_,_,hkn⟩:=his_same H G k hkx hl
       have h2:h[i].en.ref=x\/Kn g h[i].en.ref x:=h1.imp id (hkn _).1
       have h3:∃ q,idxF g h[i].en.ref=some q:=by
        rcases h2 with h2 | ⟨q,_,hq,_⟩
        · rw [h2];exact ⟨l,hl⟩
        · exact ⟨q,hq⟩
       obtain ⟨q,hq⟩:=h3
       rw [hq]
       exact down_ref hx hq hgx h2
def takeAll (rd:List UInt8->En×Int) (R:Rg) (g:Hs) (l:List Nd):Hs:=l.foldl (fun g n=>(addF rd R g n.sg).1) g
theorem take_ok {h:Hs} (H:His rd R h) (hR:R.length<=4000):∀ (l:List Nd) {g:Hs},His rd R g->(∀ n∈l,n∈h)->(∀ a n b,l=a++n::b->∀ x∈n.en.knows,(idxF g x).isSome\/∃ y∈a,y.mark=x) →
 His rd R (takeAll rd R g l)/\∀ m,(idxF (takeAll rd R g l) m).isSome↔(idxF g m).isSome\/∃ y∈l,y.mark=m
 | [],g,G,_,_=>⟨G,fun m=>by simp [takeAll]⟩
 | n::l,g,G,hm,hk=>by
   obtain ⟨i,hi,hin⟩:=List.getElem_of_mem (hm n List.mem_cons_self)
   have h1:=add_ok (g:=g) H G hR hi fun x hx=>by
    rw [hin] at hx
    rcases hk [] n l rfl x hx with c | ⟨y,hy,_⟩
    · exact c
    · cases hy
   rw [hin] at h1
   obtain ⟨h2,h3⟩:=take_ok H hR l (G.add n.sg) (fun y hy=>hm y (List.mem_cons_of_mem _ hy)) fun a y b e x hx=>by
    rcases hk (n::a) y b (by rw [e];rfl) x hx with c | ⟨z,hz,e'⟩
    · exact .inl ((h1.2 x).2 (.inl c))
    · rcases List.mem_cons.1 hz with rfl | hz
      · exact .inl ((h1.2 x).2 (.inr e'.symm))
      · exact .inr ⟨z,hz,e'⟩
   refine ⟨h2,fun m=>?_⟩
   show (idxF (takeAll rd R (addF rd R g n.sg).1 l) m).isSome↔_
   rw [h3 m,h1.2 m]
   constructor
   · rintro ((c | c) | ⟨y,hy,e⟩)
     · exact .inl c
     · exact .inr ⟨n,List.mem_cons_self,c.symm⟩
     · exact .inr ⟨y,List.mem_cons_of_mem _ hy,e⟩
   · rintro (c | ⟨y,hy,e⟩)
     · exact .inl (.inl c)
     · rcases List.mem_cons.1 hy with rfl | hy
       · exact .inl (.inr e.symm)
       · exact .inr ⟨y,hy,e⟩
def pick (h:Hs) (p:Nat->Bool):List Nd:=(h.zipIdx.filter fun q=>p q.2).map Prod.fst
theorem mem_pick {h:Hs} {p:Nat->Bool} {n:Nd}:n∈pick h p↔∃ i,h[i]? = some n/\p i=true:=by
 unfold pick
 rw [List.mem_map]
 constructor
 · rintro ⟨⟨a,i⟩,h1,rfl⟩
   obtain ⟨h2,h3⟩:=List.mem_filter.1 h1
   exact ⟨i,List.mem_zipIdx_iff_getElem?.1 h2,h3⟩
 · rintro ⟨i,h1,h2⟩
   exact ⟨(n,i),List.mem_filter.2 ⟨List.mem_zipIdx_iff_getElem?.2 h1,h2⟩,rfl⟩
theorem pick_sub (h:Hs) (p:Nat->Bool):(pick h p).Sublist h:=by
 have h1:((h.zipIdx.filter fun q=>p q.2).map Prod.fst).Sublist (h.zipIdx.map Prod.fst):=List.filter_sublist.map _
 rwa [show h.zipIdx.map Prod.fst=h from List.zipIdx_map_fst 0 h] at h1
def InDown (h:Hs) (ms:List Int) (m:Int):Prop:=(idxF h m).isSome/\(m∈ms\/∃ b∈ms,Kn h m b)
theorem down_mark {h:Hs} (H:His rd R h) (ms:List Int) {i:Nat} (hi:i<h.length):(downF h ms).1 i=true↔InDown h ms h[i].mark:=by
 have hx:=idx_of H.nodup hi
 rw [downF_iff]
 constructor
 · rintro ⟨m,hm,k,hk,h1⟩
   refine ⟨by rw [hx];rfl,?_⟩
   rcases h1 with h1 | h1
   · exact .inr ⟨m,hm,i,k,hx,hk,h1⟩
   · subst h1
     obtain ⟨_,e⟩:=idx_some hk
     exact .inl (by rw [e];exact hm)
 · rintro ⟨_,h1 | ⟨b,hb,i',k,h2,h3,h4⟩⟩
   · exact ⟨_,h1,i,hx,.inr rfl⟩
   · rw [hx] at h2;cases h2
     exact ⟨b,hb,k,h3,.inl h4⟩
def restrictF (rd:List UInt8->En×Int) (R:Rg) (h:Hs) (ms:List Int):Hs:=takeAll rd R [] (pick h (downF h ms).1)
theorem split_idx {h:Hs} (hn:(h.map Nd.mark).Nodup) {l a b:List Nd} {n:Nd} (hs:l.Sublist h) (e:l=a++n::b) {y:Nd} {i j:Nat} (hi:h[i]? = some n) (hj:h[j]? = some y) (hji:j<i) (hy:y∈l):y∈a:=by
 subst e
 rcases List.mem_append.1 hy with hy | hy
 · exact hy
 exfalso
 have hp:h.Pairwise fun u v=>∀ p q:Nat,h[p]? = some u->h[q]? = some v->p<q:=by
  rw [List.pairwise_iff_getElem]
  intro p q hp hq hpq p' q' h1 h2
  obtain ⟨l1,e1⟩:=List.getElem?_eq_some_iff.1 h1
  obtain ⟨l2,e2⟩:=List.getElem?_eq_some_iff.1 h2
  have f1:=idx_of hn l1
  have f2:=idx_of hn l2
  rw [e1,idx_of hn hp] at f1
  rw [e2,idx_of hn hq] at f2
  cases f1;cases f2
  exact hpq
 have hp2:=hp.sublist hs
 obtain ⟨_,hp3,_⟩:=List.pairwise_append.1 hp2
 rcases List.mem_cons.1 hy with rfl | hy
 · obtain ⟨l1,e1⟩:=List.getElem?_eq_some_iff.1 hi
   obtain ⟨l2,e2⟩:=List.getElem?_eq_some_iff.1 hj
   have f1:=idx_of hn l1
   have f2:=idx_of hn l2
   rw [e1] at f1
   rw [e2,f1] at f2
   cases f2
   omega
 · have:=(List.pairwise_cons.1 hp3).1 y hy i j hi hj
   omega
theorem restrict_ok {h:Hs} (H:His rd R h) (hR:R.length<=4000) (ms:List Int):His rd R (restrictF rd R h ms)/\∀ m,(idxF (restrictF rd R h ms) m).isSome↔InDown h ms m:=by
 have hs:=pick_sub h (downF h ms).1
 obtain ⟨h1,h2⟩:=take_ok H hR (pick h (downF h ms).1) His.nil (fun n hn=>hs.subset hn) fun a n b e x hx=>by
  refine .inr ?_
  have hn:n∈pick h (downF h ms).1:=by rw [e];simp
  obtain ⟨i,hi,hp⟩:=mem_pick.1 hn
  obtain ⟨li,ei⟩:=List.getElem?_eq_some_iff.1 hi
  subst ei
  obtain ⟨j,hj,hji⟩:=H.knows li hx
  obtain ⟨lj,ej⟩:=idx_some hj
  have hkn:Kn h x h[i].mark:=(H.kn_iff (idx_of H.nodup li) li x).2 ⟨⟨j,hj⟩,x,hx,.inl rfl⟩
  have hd:=(down_mark H ms li).1 hp
  have hd2:InDown h ms h[j].mark:=by
   rw [ej]
   refine ⟨by rw [hj];rfl,.inr ?_⟩
   rcases hd.2 with c | ⟨b',hb',c⟩
   · exact ⟨_,c,hkn⟩
   · obtain ⟨_,k,_,hk,_⟩:=id c
     exact ⟨b',hb',H.kn_trans hkn k hk c⟩
  have hy:h[j]∈pick h (downF h ms).1:=mem_pick.2 ⟨j,List.getElem?_eq_getElem lj,(down_mark H ms lj).2 hd2⟩
  exact ⟨h[j],split_idx H.nodup hs e hi (List.getElem?_eq_getElem lj) hji hy,ej⟩
 refine ⟨h1,fun m=>?_⟩
 show (idxF (takeAll rd R [] (pick h (downF h ms).1)) m).isSome↔_
 rw [h2 m]
 constructor
 · rintro (c | ⟨y,hy,rfl⟩)
   · cases c
   · obtain ⟨i,hi,hp⟩:=mem_pick.1 hy
     obtain ⟨li,ei⟩:=List.getElem?_eq_some_iff.1 hi
     rw [<-ei]
     exact (down_mark H ms li).1 hp
 · intro c
   obtain ⟨i,hi⟩:=Option.isSome_iff_exists.1 c.1
   obtain ⟨li,ei⟩:=idx_some hi
   subst ei
   exact .inr ⟨h[i],mem_pick.2 ⟨i,List.getElem?_eq_getElem li,(down_mark H ms li).2 c⟩,rfl⟩
end Go.Proofs.YtjkmalddfoemhaaGreatDoor
namespace Go.Proofs.YtjkmalddfoemhaaGreatDoor
open Go
variable {rd:List UInt8->En×Int} {R:Rg}
def BefN (a b:Nd):Prop:=a.level<b.level\/a.level=b.level/\(a.en.author<b.en.author\/a.en.author=b.en.author/\(a.en.seq<b.en.seq\/a.en.seq=b.en.seq/\a.mark<b.mark))
instance (a b:Nd):Decidable (BefN a b):=by unfold BefN;exact inferInstance
theorem bef_asymm (a b:Nd) (h:BefN a b):¬BefN b a:=by unfold BefN at *;omega
theorem bef_irrefl (a:Nd):¬BefN a a:=by unfold BefN;omega
theorem bef_trans {a b c:Nd} (h1:BefN a b) (h2:BefN b c):BefN a c:=by unfold BefN at *;omega
theorem bef_total {a b:Nd} (h:a.mark≠b.mark):BefN a b\/BefN b a:=by unfold BefN;omega
def sortN (l:List Nd):List Nd:=l.mergeSort fun a b=>decide (¬BefN b a)
theorem sortN_perm (l:List Nd):(sortN l).Perm l:=List.mergeSort_perm _ _
theorem sortN_asc {l:List Nd} (h:(l.map Nd.mark).Nodup):(sortN l).Pairwise BefN:=by
 have h1:=List.pairwise_mergeSort (le:=fun a b:Nd=>decide (¬BefN b a)) (fun a b c h1 h2=>by simp only [decide_eq_true_eq] at *;unfold BefN at *;omega) (fun a b=>by
  simp only [Bool.or_eq_true,decide_eq_true_eq]
  by_cases h:BefN b a
  · exact .inr (bef_asymm _ _ h)
  · exact .inl h) l
 have h2:((sortN l).map Nd.mark).Nodup:=((sortN_perm l).map Nd.mark).nodup_iff.2 h
 rw [List.Nodup,List.pairwise_map] at h2
 refine (h1.and h2).imp fun ⟨a,b⟩=>?_
 simp only [decide_eq_true_eq] at a
 rcases bef_total b with c | c
 · exact c
 · exact absurd c a
theorem sortN_of {l r:List Nd} (hn:(l.map Nd.mark).Nodup) (hp:r.Perm l) (hs:r.Pairwise fun a b=>¬BefN b a):r=sortN l:=by
 have h2:(r.map Nd.mark).Nodup:=(hp.map Nd.mark).nodup_iff.2 hn
 rw [List.Nodup,List.pairwise_map] at h2
 refine sorted_unique bef_asymm bef_irrefl ((hs.and h2).imp fun ⟨a,b⟩=>?_) (sortN_asc hn) fun z=>by rw [hp.mem_iff,(sortN_perm l).mem_iff]
 rcases bef_total b with c | c
 · exact c
 · exact absurd c a
def levelM (h:Hs) (m:Int):Int:=match idxF h m with
 | some i=>levelAt h i
 | none=>-1
def marksP (h:Hs) (p:Nat->Bool):List Int:=sortI ((pick h p).map Nd.mark)
def marksF (h:Hs):List Int:=sortI (h.map Nd.mark)
def pastF (h:Hs) (m:Int):List Int:=match idxF h m with
 | some i=>marksP h (pastAt h i)
 | none=>[]
def firstStep (h:Hs) (st:List Int×List Nd) (m:Int):List Int×List Nd:=match idxF h m with
 | some i=>if m∈st.1 then st else (m::st.1,st.2++h[i]?.toList)
 | none=>st
def firstsF (h:Hs) (ms:List Int):List Nd:=(ms.foldl (firstStep h) ([],[])).2
def sortedF (h:Hs) (ms:List Int):List Int:=(sortN (firstsF h ms)).map Nd.mark
theorem pick_nodup {h:Hs} (H:His rd R h) (p:Nat->Bool):((pick h p).map Nd.mark).Nodup:=H.nodup.sublist ((pick_sub h p).map _)
theorem mem_marksP {h:Hs} (H:His rd R h) (p:Nat->Bool) (m:Int):m∈marksP h p↔∃ i,idxF h m=some i/\p i=true:=by
 unfold marksP
 rw [sortI_mem,List.mem_map]
 constructor
 · rintro ⟨n,hn,rfl⟩
   obtain ⟨i,hi,hp⟩:=mem_pick.1 hn
   obtain ⟨li,ei⟩:=List.getElem?_eq_some_iff.1 hi
   exact ⟨i,by rw [<-ei];exact idx_of H.nodup li,hp⟩
 · rintro ⟨i,hi,hp⟩
   obtain ⟨li,ei⟩:=idx_some hi
   exact ⟨h[i],mem_pick.2 ⟨i,List.getElem?_eq_getElem li,hp⟩,ei⟩
theorem mem_marksF (h:Hs) (m:Int):m∈marksF h↔(idxF h m).isSome:=by
 unfold marksF;rw [sortI_mem,<-mem_marks]
theorem mem_past {h:Hs} (H:His rd R h) (m a:Int):a∈pastF h m↔Kn h a m:=by
 unfold pastF Kn
 cases e:idxF h m with
 | none=>simp
 | some j =>
   dsimp only
   rw [mem_marksP H]
   constructor
   · rintro ⟨i,h1,h2⟩;exact ⟨i,j,h1,rfl,h2⟩
   · rintro ⟨i,j',h1,h2,h3⟩;cases h2;exact ⟨i,h1,h3⟩
theorem past_nodup {h:Hs} (H:His rd R h) (m:Int):(pastF h m).Pairwise (· < ·):=by
 unfold pastF
 split
 · exact sortI_asc (pick_nodup H _)
 · exact List.Pairwise.nil
theorem firsts_inv {h:Hs} (H:His rd R h):∀ (ms:List Int) (st:List Int×List Nd),(st.2.map Nd.mark).Nodup->(∀ m,m∈st.1↔m∈st.2.map Nd.mark)->(∀ n∈st.2,n∈h) →
 ((ms.foldl (firstStep h) st).2.map Nd.mark).Nodup/\(∀ m,m∈(ms.foldl (firstStep h) st).2.map Nd.mark↔m∈st.2.map Nd.mark\/m∈ms/\(idxF h m).isSome)/\∀ n∈(ms.foldl (firstStep h) st).2,n∈h
 | [],st,h1,_,h3=>⟨h1,fun m=>by simp,h3⟩
 | m::ms,st,h1,h2,h3=>by
   rw [List.foldl_cons]
   cases e:idxF h m with
   | none =>
     rw [show firstStep h st m=st by unfold firstStep;rw [e]]
     obtain ⟨a,b,c⟩:=firsts_inv H ms st h1 h2 h3
     refine ⟨a,fun x=>?_,c⟩
     rw [b x]
     constructor
     · rintro (q | ⟨q,r⟩)
       · exact .inl q
       · exact .inr ⟨List.mem_cons_of_mem _ q,r⟩
     · rintro (q | ⟨q,r⟩)
       · exact .inl q
       · rcases List.mem_cons.1 q with rfl | q
         · rw [e] at r;cases r
         · exact .inr ⟨q,r⟩
   | some i =>
     obtain ⟨hi,hm⟩:=idx_some e
     by_cases hin:m∈st.1
     · rw [show firstStep h st m=st by unfold firstStep;rw [e];dsimp only;rw [if_pos hin]]
       obtain ⟨a,b,c⟩:=firsts_inv H ms st h1 h2 h3
       refine ⟨a,fun x=>?_,c⟩
       rw [b x]
       constructor
       · rintro (q | ⟨q,r⟩)
         · exact .inl q
         · exact .inr ⟨List.mem_cons_of_mem _ q,r⟩
       · rintro (q | ⟨q,r⟩)
         · exact .inl q
         · rcases List.mem_cons.1 q with rfl | q
           · exact .inl ((h2 _).1 hin)
           · exact .inr ⟨q,r⟩
     · have hs:firstStep h st m=(m::st.1,st.2++[h[i]]):=by
        unfold firstStep;rw [e];dsimp only;rw [if_neg hin,List.getElem?_eq_getElem hi];rfl
       rw [hs]
       have hin':m∉st.2.map Nd.mark:=fun c=>hin ((h2 m).2 c)
       obtain ⟨a,b,c⟩:=firsts_inv H ms (m::st.1,st.2++[h[i]]) (by
        rw [List.map_append,List.nodup_append]
        refine ⟨h1,by simp,fun x hx y hy=>?_⟩
        rw [List.map_singleton,List.mem_singleton,hm] at hy
        subst hy
        exact fun c=>hin' (c ▸ hx)) (fun x=>by
        rw [List.map_append,List.mem_append,List.map_singleton,List.mem_singleton,hm,List.mem_cons,h2 x]
        exact or_comm) (fun n hn=>by
        rcases List.mem_append.1 hn with q | q
        · exact h3 n q
        · rw [List.mem_singleton.1 q];exact List.getElem_mem hi)
       refine ⟨a,fun x=>?_,c⟩
       rw [b x,List.map_append,List.mem_append,List.map_singleton,List.mem_singleton,hm]
       constructor
       · rintro ((q | q) | ⟨q,r⟩)
         · exact .inl q
         · exact .inr ⟨by rw [q];exact List.mem_cons_self,by rw [q,e];rfl⟩
         · exact .inr ⟨List.mem_cons_of_mem _ q,r⟩
       · rintro (q | ⟨q,r⟩)
         · exact .inl (.inl q)
         · rcases List.mem_cons.1 q with q | q
           · exact .inl (.inr q)
           · exact .inr ⟨q,r⟩
theorem firsts_ok {h:Hs} (H:His rd R h) (ms:List Int):((firstsF h ms).map Nd.mark).Nodup/\(∀ m,m∈(firstsF h ms).map Nd.mark↔m∈ms/\(idxF h m).isSome)/\∀ n∈firstsF h ms,n∈h:=by
 obtain ⟨a,b,c⟩:=firsts_inv H ms ([],[]) List.nodup_nil (fun m=>Iff.rfl) (fun n hn=>nomatch hn)
 exact ⟨a,fun m=>by rw [show firstsF h ms=(ms.foldl (firstStep h) ([],[])).2 from rfl,b m];simp,c⟩
def BefM (h:Hs) (a b:Int):Prop:=∃ i j,∃ (hi:i<h.length) (hj:j<h.length),idxF h a=some i/\idxF h b=some j/\BefN h[i] h[j]
theorem befM_asymm {h:Hs} (a b:Int) (q:BefM h a b):¬BefM h b a:=by
 rintro ⟨i,j,hi,hj,e1,e2,e3⟩
 obtain ⟨i',j',hi',hj',f1,f2,f3⟩:=q
 rw [f1] at e2;cases e2
 rw [f2] at e1;cases e1
 exact bef_asymm _ _ f3 e3
theorem befM_irrefl {h:Hs} (a:Int):¬BefM h a a:=fun q=>befM_asymm _ _ q q
theorem befM_of {h:Hs} (H:His rd R h) {x y:Nd} (hx:x∈h) (hy:y∈h) (q:BefN x y):BefM h x.mark y.mark:=by
 obtain ⟨i,hi,rfl⟩:=List.getElem_of_mem hx
 obtain ⟨j,hj,rfl⟩:=List.getElem_of_mem hy
 exact ⟨i,j,hi,hj,idx_of H.nodup hi,idx_of H.nodup hj,q⟩
theorem sorted_ok {h:Hs} (H:His rd R h) (ms:List Int):(sortedF h ms).Pairwise (BefM h)/\∀ m,m∈sortedF h ms↔m∈ms/\(idxF h m).isSome:=by
 obtain ⟨a,b,c⟩:=firsts_ok H ms
 unfold sortedF
 constructor
 · rw [List.pairwise_map]
   exact (sortN_asc a).imp_of_mem fun hx hy q=>befM_of H (c _ ((sortN_perm _).mem_iff.1 hx)) (c _ ((sortN_perm _).mem_iff.1 hy)) q
 · intro m
   rw [((sortN_perm _).map Nd.mark).mem_iff,b m]
def SameM (h g:Hs):Prop:=∀ m,(idxF h m).isSome↔(idxF g m).isSome
theorem SameM.symm {h g:Hs} (s:SameM h g):SameM g h:=fun m=>(s m).symm
theorem SameM.trans {h g k:Hs} (s:SameM h g) (t:SameM g k):SameM h k:=fun m=>(s m).trans (t m)
theorem SameM.marks {h g:Hs} (H:His rd R h) (G:His rd R g) (s:SameM h g):marksF h=marksF g :=
 sortI_eq H.nodup G.nodup fun x=>by rw [<-mem_marks,<-mem_marks];exact s x
theorem SameM.len {h g:Hs} (H:His rd R h) (G:His rd R g) (s:SameM h g):h.length=g.length:=by
 have h1:=s.marks H G
 unfold marksF at h1
 have h2:=congrArg List.length h1
 rw [(sortI_perm _).length_eq,(sortI_perm _).length_eq,List.length_map,List.length_map] at h2
 exact h2
theorem kn_both {h g:Hs} (H:His rd R h) (G:His rd R g) {m:Int} (h1:(idxF h m).isSome) (h2:(idxF g m).isSome) (a:Int):Kn h a m↔Kn g a m:=by
 obtain ⟨i,hi⟩:=Option.isSome_iff_exists.1 h1
 obtain ⟨j,hj⟩:=Option.isSome_iff_exists.1 h2
 exact (his_same H G i hi hj).2.2 a
theorem level_both {h g:Hs} (H:His rd R h) (G:His rd R g) {m:Int} (h1:(idxF h m).isSome) (h2:(idxF g m).isSome):levelM h m=levelM g m:=by
 obtain ⟨i,hi⟩:=Option.isSome_iff_exists.1 h1
 obtain ⟨j,hj⟩:=Option.isSome_iff_exists.1 h2
 unfold levelM
 rw [hi,hj]
 exact congrArg _ (his_same H G i hi hj).2.1
theorem past_both {h g:Hs} (H:His rd R h) (G:His rd R g) {m:Int} (h1:(idxF h m).isSome) (h2:(idxF g m).isSome):pastF h m=pastF g m :=
 sorted_unique (fun a b h1 h2=>by omega) (fun a h=>by omega) (past_nodup H m) (past_nodup G m) fun z=>by rw [mem_past H,mem_past G,kn_both H G h1 h2]
theorem SameM.level {h g:Hs} (H:His rd R h) (G:His rd R g) (s:SameM h g) (m:Int):levelM h m=levelM g m:=by
 by_cases h1:(idxF h m).isSome
 · exact level_both H G h1 ((s m).1 h1)
 · have h2:¬(idxF g m).isSome:=fun c=>h1 ((s m).2 c)
   unfold levelM
   rw [Option.not_isSome_iff_eq_none.1 h1,Option.not_isSome_iff_eq_none.1 h2]
theorem SameM.past {h g:Hs} (H:His rd R h) (G:His rd R g) (s:SameM h g) (m:Int):pastF h m=pastF g m:=by
 by_cases h1:(idxF h m).isSome
 · exact past_both H G h1 ((s m).1 h1)
 · have h2:¬(idxF g m).isSome:=fun c=>h1 ((s m).2 c)
   unfold pastF
   rw [Option.not_isSome_iff_eq_none.1 h1,Option.not_isSome_iff_eq_none.1 h2]
def addAll (rd:List UInt8->En×Int) (R:Rg) (h:Hs) (l:List Sg):Hs:=l.foldl (fun h s=>(addF rd R h s).1) h
theorem His.addAll:∀ (l:List Sg) {h:Hs},His rd R h->His rd R (addAll rd R h l)
 | [],_,H=>H
 | s::l,_,H=>His.addAll l (H.add s)
end Go.Proofs.YtjkmalddfoemhaaGreatDoor
namespace Go.Proofs.YtjkmalddfoemhaaGreatDoor
open Go
structure Po where
 key:Int
 en:En
 raw:List UInt8
 odd:Int
def wordsF (p:Po):List UInt8:=if p.raw=[] then txtF p.en else p.raw
def turnedF (s:Sg) (o:Int):Sg:=if o=1 then ⟨s.key,s.text,s.mark+1⟩ else if o=2 then ⟨s.key,s.text++[120],s.mark⟩ else if o=3 then ⟨s.key+1,s.text,s.mark⟩ else s
def ringF (R:Rg) (x:Int×List UInt8):Option Nat:=R.findIdx? fun y=>y==x
def signF (R:Rg) (k:Int) (t:List UInt8):Rg×Sg:=if ¬(0<=k/\k<200) then (R,⟨0,[],0⟩) else match ringF R (k,t) with
 | some i=>(R,⟨k,t,i⟩)
 | none=>(R++[(k,t)],⟨k,t,R.length⟩)
structure RgOk (R:Rg):Prop where
 nodup:R.Nodup
 ok:∀ x∈R,0<=x.1/\x.1<200/\x.2.length<=1000000
theorem RgOk.nil:RgOk []:=⟨List.nodup_nil,fun _ h=>nomatch h⟩
theorem ring_some {R:Rg} {x:Int×List UInt8} {i:Nat} (h:ringF R x=some i):R[i]? = some x:=by
 obtain ⟨hi,h1,_⟩:=List.findIdx?_eq_some_iff_getElem.1 h
 rw [List.getElem?_eq_getElem hi]
 rw [beq_iff_eq] at h1
 rw [h1]
theorem ring_none {R:Rg} {x:Int×List UInt8}:ringF R x=none↔x∉R:=by
 unfold ringF
 rw [List.findIdx?_eq_none_iff]
 constructor
 · intro h hx
   have:=h x hx
   simp at this
 · intro h y hy
   rw [beq_eq_false_iff_ne]
   rintro rfl
   exact h hy
theorem ring_of {R:Rg} (hn:R.Nodup) {x:Int×List UInt8} {i:Nat} (h:R[i]? = some x):ringF R x=some i:=by
 obtain ⟨hi,e⟩:=List.getElem?_eq_some_iff.1 h
 refine List.findIdx?_eq_some_iff_getElem.2 ⟨hi,by rw [e,beq_self_eq_true],fun j hj=>?_⟩
 rw [<-e]
 intro hb
 rw [beq_iff_eq] at hb
 have:=(List.getElem_inj hn).1 hb
 omega
theorem ring_snoc {R:Rg} {x y:Int×List UInt8} (hy:y∉R):ringF (R++[y]) x=if x=y then some R.length else ringF R x:=by
 unfold ringF
 rw [List.findIdx?_append]
 by_cases h:x=y
 · subst h
   rw [if_pos rfl,show R.findIdx? (fun z=>z==x)=none from ring_none.2 hy]
   simp [List.findIdx?_cons]
 · rw [if_neg h]
   cases R.findIdx? fun z=>z==x with
   | some i=>rfl
   | none=>simp [List.findIdx?_cons,Ne.symm h]
theorem valid_iff {R:Rg} (hR:RgOk R) (s:Sg):ValidP R s↔∃ i:Nat,ringF R (s.key,s.text)=some i/\(i:Int)=s.mark:=by
 unfold ValidP
 constructor
 · rintro ⟨h1,h2⟩
   exact ⟨_,ring_of hR.nodup h2,by omega⟩
 · rintro ⟨i,h1,h2⟩
   refine ⟨by omega,?_⟩
   rw [<-h2,Int.toNat_natCast]
   exact ring_some h1
theorem RgOk.sign {R:Rg} (h:RgOk R) (k:Int) (t:List UInt8) (ht:t.length<=1000000):RgOk (signF R k t).1:=by
 unfold signF
 split
 · exact h
 · rename_i hk
   cases e:ringF R (k,t) with
   | some i=>exact h
   | none =>
     refine ⟨?_,fun x hx=>?_⟩
     · rw [List.nodup_append]
       refine ⟨h.nodup,by simp,fun a ha b hb=>?_⟩
       rw [List.mem_singleton.1 hb]
       rintro rfl
       exact ring_none.1 e ha
     · rcases List.mem_append.1 hx with hx | hx
       · exact h.ok x hx
       · rw [List.mem_singleton.1 hx]
         dsimp only
         exact ⟨by omega,by omega,ht⟩
theorem sign_len (R:Rg) (k:Int) (t:List UInt8):(signF R k t).1.length<=R.length+1:=by
 unfold signF
 split
 · exact Nat.le_succ _
 · cases ringF R (k,t)<;>simp
theorem sign_sg (R:Rg) (k:Int) (t:List UInt8):0<=(signF R k t).2.key/\(signF R k t).2.key<200/\0<=(signF R k t).2.mark/\(signF R k t).2.mark<=R.length/\(signF R k t).2.text.length<=t.length:=by
 unfold signF
 split
 · simp
 · rename_i hk
   cases e:ringF R (k,t) with
   | none=>refine ⟨?_,?_,?_,?_,?_⟩<;>simp<;>omega
   | some i =>
     obtain ⟨hi,_⟩:=List.getElem?_eq_some_iff.1 (ring_some e)
     refine ⟨?_,?_,?_,?_,?_⟩<;>simp<;>omega
theorem valid_grow {R:Rg} {s:Sg} (h:ValidP R s) (x:Rg):ValidP (R++x) s:=by
 obtain ⟨h1,h2⟩:=h
 refine ⟨h1,?_⟩
 obtain ⟨hi,_⟩:=List.getElem?_eq_some_iff.1 h2
 rw [List.getElem?_append_left hi];exact h2
theorem His.grow {rd:List UInt8->En×Int} {R:Rg} {h:Hs} (H:His rd R h) (x:Rg):His rd (R++x) h:=by
 induction H with
 | nil=>exact His.nil
 | snoc H A ih=>exact ih.snoc ⟨valid_grow A.valid x,A.read,A.author,A.new,A.all,A.ref,A.past,A.level⟩
def signStep (st:Rg×List Sg) (p:Po):Rg×List Sg:=((signF st.1 p.key (wordsF p)).1,st.2++[turnedF (signF st.1 p.key (wordsF p)).2 p.odd])
def signedF (l:List Po):Rg×List Sg:=l.foldl signStep ([],[])
def signedTo (l:List Po) (k:Nat):Rg×List Sg:=signedF (l.take k)
theorem signedTo_succ (l:List Po) {k:Nat} (h:k<l.length):signedTo l (k+1)=signStep (signedTo l k) l[k]:=by
 unfold signedTo signedF
 rw [List.take_succ_eq_append_getElem h,List.foldl_append];rfl
theorem signedTo_all (l:List Po):signedTo l l.length=signedF l:=by unfold signedTo;rw [List.take_length]
theorem signedTo_len (l:List Po):∀ (k:Nat),k<=l.length->(signedTo l k).2.length=k/\(signedTo l k).1.length<=k
 | 0,_=>by simp [signedTo,signedF]
 | k+1,h=>by
   obtain ⟨h1,h2⟩:=signedTo_len l k (by omega)
   rw [signedTo_succ l h]
   unfold signStep
   have:=sign_len (signedTo l k).1 l[k].key (wordsF l[k])
   constructor
   · simp [h1]
   · dsimp only;omega
end Go.Proofs.YtjkmalddfoemhaaGreatDoor
namespace Go.Proofs.YtjkmalddfoemhaaGreatDoor
open Go
variable {rd:List UInt8->En×Int} {R:Rg}
theorem sorted_nodup {h:Hs} (H:His rd R h) (ms:List Int):(sortedF h ms).Nodup :=
 List.Pairwise.imp (S:=fun a b:Int=>a≠b) (fun q e=>befM_irrefl _ (by subst e;exact q)) (sorted_ok H ms).1
theorem marks_nodup {h:Hs} (H:His rd R h):(marksF h).Nodup:=(sortI_perm _).nodup_iff.2 H.nodup
end Go.Proofs.YtjkmalddfoemhaaGreatDoor
namespace Go.Proofs.YtjkmalddfoemhaaGreatDoor
open Go
variable {rd:List UInt8->En×Int} {R:Rg}
theorem His.takeAll:∀ (l:List Nd) {g:Hs},His rd R g->His rd R (takeAll rd R g l)
 | [],_,G=>G
 | n::l,_,G=>His.takeAll l (G.add n.sg)
theorem takeAll_snoc (g:Hs) (l:List Nd) (n:Nd):takeAll rd R g (l++[n])=(addF rd R (takeAll rd R g l) n.sg).1:=by unfold takeAll;rw [List.foldl_append];rfl
theorem pickS (h:Hs) (p:Nat->Bool) {k:Nat} {n:Nd} (hk:h[k]? = some n):pick (h.take (k+1)) p=pick (h.take k) p++if p k=true then [n] else []:=by
 obtain ⟨hl,rfl⟩:=List.getElem?_eq_some_iff.1 hk
 unfold pick
 rw [List.take_succ_eq_append_getElem hl,List.zipIdx_append,List.filter_append,List.map_append]
 congr 1
 have hk:(h.take k).length=k:=by rw [List.length_take];omega
 rw [hk]
 by_cases hp:p k=true<;>simp [hp]
def restrictTo (rd:List UInt8->En×Int) (R:Rg) (h:Hs) (p:Nat->Bool) (k:Nat):Hs:=takeAll rd R [] (pick (h.take k) p)
theorem restrictTo_all (h:Hs) (ms:List Int):restrictTo rd R h (downF h ms).1 h.length=restrictF rd R h ms:=by unfold restrictTo restrictF;rw [List.take_length]
theorem restrictTo_yes {h:Hs} {p:Nat->Bool} {k:Nat} {n:Nd} (hk:h[k]? = some n) (hp:p k=true):restrictTo rd R h p (k+1)=(addF rd R (restrictTo rd R h p k) n.sg).1:=by
 unfold restrictTo
 rw [pickS h p hk,if_pos hp,takeAll_snoc]
theorem restrictTo_no {h:Hs} {p:Nat->Bool} {k:Nat} {n:Nd} (hk:h[k]? = some n) (hp:p k=false):restrictTo rd R h p (k+1)=restrictTo rd R h p k:=by
 unfold restrictTo
 rw [pickS h p hk,if_neg (by rw [hp];decide),List.append_nil]
theorem His.restrictTo (h:Hs) (p:Nat->Bool) (k:Nat):His rd R (restrictTo rd R h p k):=His.takeAll _ His.nil
def firstsTo (h:Hs) (ms:List Int) (k:Nat):List Int×List Nd:=(ms.take k).foldl (firstStep h) ([],[])
theorem firstsTo_all (h:Hs) (ms:List Int):(firstsTo h ms ms.length).2=firstsF h ms:=by unfold firstsTo firstsF;rw [List.take_length]
theorem firstsTo_succ {h:Hs} {ms:List Int} {k:Nat} (hk:k<ms.length):firstsTo h ms (k+1)=firstStep h (firstsTo h ms k) ms[k]:=by
 unfold firstsTo
 rw [List.take_succ_eq_append_getElem hk,List.foldl_append];rfl
theorem firstsTo_no {h:Hs} {ms:List Int} {k:Nat} (hk:k<ms.length) (e:idxF h ms[k]=none):firstsTo h ms (k+1)=firstsTo h ms k:=by
 rw [firstsTo_succ hk];unfold firstStep;rw [e]
theorem firstsTo_seen {h:Hs} {ms:List Int} {k i:Nat} (hk:k<ms.length) (e:idxF h ms[k]=some i) (hs:ms[k]∈(firstsTo h ms k).1):firstsTo h ms (k+1)=firstsTo h ms k:=by
 rw [firstsTo_succ hk];unfold firstStep;rw [e];dsimp only;rw [if_pos hs]
theorem firstsTo_new {h:Hs} {ms:List Int} {k i:Nat} {n:Nd} (hk:k<ms.length) (e:idxF h ms[k]=some i) (hn:h[i]? = some n) (hs:ms[k]∉(firstsTo h ms k).1):firstsTo h ms (k+1)=(ms[k]::(firstsTo h ms k).1,(firstsTo h ms k).2++[n]):=by
 rw [firstsTo_succ hk];unfold firstStep;rw [e];dsimp only;rw [if_neg hs,hn];rfl
theorem firstsTo_len {h:Hs} (H:His rd R h) (ms:List Int) (k:Nat):(firstsTo h ms k).2.length<=R.length/\(firstsTo h ms k).1.length=(firstsTo h ms k).2.length/\((firstsTo h ms k).2.map Nd.mark).Nodup:=by
 obtain ⟨a,b,c⟩:=firsts_inv H (ms.take k) ([],[]) List.nodup_nil (fun m=>Iff.rfl) (fun n hn=>nomatch hn)
 have e:firstsTo h ms k=(ms.take k).foldl (firstStep h) ([],[]):=rfl
 rw [<-e] at a b c
 refine ⟨?_,?_,a⟩
 · have h1:=nodup_len (l:=(firstsTo h ms k).2.map Nd.mark) R.length a fun x hx=>by
    obtain ⟨n,hn,rfl⟩:=List.mem_map.1 hx
    obtain ⟨i,hi,rfl⟩:=List.getElem_of_mem (c n hn)
    obtain ⟨h1,h2⟩:=(H.at hi).valid
    obtain ⟨h3,_⟩:=List.getElem?_eq_some_iff.1 h2
    unfold Nd.mark
    omega
   rwa [List.length_map] at h1
 · rw [e]
   clear a b c e
   induction k with
   | zero=>rfl
   | succ k ih =>
     by_cases hk:k<ms.length
     · rw [List.take_succ_eq_append_getElem hk,List.foldl_append]
       show (firstStep h _ _).1.length=(firstStep h _ _).2.length
       generalize List.foldl (firstStep h) ([],[]) (List.take k ms)=st at ih ⊢
       unfold firstStep
       cases hi:idxF h ms[k] with
       | none=>exact ih
       | some i =>
         dsimp only
         split
         · exact ih
         · obtain ⟨hl,_⟩:=idx_some hi
           rw [List.getElem?_eq_getElem hl]
           show (_::st.1).length=(st.2++[_]).length
           rw [List.length_cons,List.length_append,List.length_singleton,ih]
     · rw [List.take_of_length_le (by omega)] at ih ⊢
       exact ih
theorem his_mark {h:Hs} (H:His rd R h) {m:Int} (hm:(idxF h m).isSome):0<=m/\m<R.length:=by
 obtain ⟨i,hi⟩:=Option.isSome_iff_exists.1 hm
 obtain ⟨hl,rfl⟩:=idx_some hi
 obtain ⟨h1,h2⟩:=(H.at hl).valid
 obtain ⟨h3,_⟩:=List.getElem?_eq_some_iff.1 h2
 unfold Nd.mark
 omega
theorem marks_small {h:Hs} (H:His rd R h) {m:Int} (hm:m∈marksF h):0<=m/\m<R.length:=his_mark H ((mem_marksF h m).1 hm)
theorem marksF_len (h:Hs):(marksF h).length=h.length:=by unfold marksF;rw [(sortI_perm _).length_eq,List.length_map]
theorem words_len {p:Po} (hw:EnWf p.en) (hr:p.raw.length<=4000):(wordsF p).length<=4000:=by
 unfold wordsF
 split
 · exact txt_len hw
 · exact hr
structure SgSmall (s:Sg):Prop where
 key:0<=s.key/\s.key<=200
 mark:0<=s.mark/\s.mark<=100000
 text:s.text.length<=5000
theorem turned_small {s:Sg} (hk:0<=s.key/\s.key<200) (hm:0<=s.mark/\s.mark<100000) (ht:s.text.length<5000) (o:Int):SgSmall (turnedF s o):=by
 unfold turnedF
 split
 · exact ⟨by dsimp only;omega,by dsimp only;omega,by dsimp only;omega⟩
 split
 · exact ⟨by dsimp only;omega,by dsimp only;omega,by dsimp only;rw [List.length_append];simp;omega⟩
 split
 · exact ⟨by dsimp only;omega,by dsimp only;omega,by dsimp only;omega⟩
 · exact ⟨by omega,by omega,by omega⟩
theorem signedTo_small (l:List Po) (hl:l.length<=1000) (hw:∀ p∈l,(wordsF p).length<=4000):∀ k,k<=l.length->∀ s∈(signedTo l k).2,SgSmall s
 | 0,_,s,hs=>by simp [signedTo,signedF] at hs
 | k+1,hk,s,hs=>by
   rw [signedTo_succ l hk] at hs
   unfold signStep at hs
   rcases List.mem_append.1 hs with hs | hs
   · exact signedTo_small l hl hw k (by omega) s hs
   · rw [List.mem_singleton.1 hs]
     have h1:=sign_sg (signedTo l k).1 l[k].key (wordsF l[k])
     have h2:=(signedTo_len l k (by omega)).2
     have h3:=hw l[k] (List.getElem_mem hk)
     exact turned_small ⟨h1.1,h1.2.1⟩ ⟨h1.2.2.1,by omega⟩ (by omega) _
theorem signed_small (l:List Po) (hl:l.length<=1000) (hw:∀ p∈l,(wordsF p).length<=4000):∀ s∈(signedF l).2,SgSmall s:=by
 have h:=signedTo_small l hl hw l.length (Nat.le_refl _)
 rwa [signedTo_all] at h
theorem signed_len (l:List Po):(signedF l).2.length=l.length/\(signedF l).1.length<=l.length:=by
 have h:=signedTo_len l l.length (Nat.le_refl _)
 rwa [signedTo_all] at h
end Go.Proofs.YtjkmalddfoemhaaGreatDoor
namespace Go.Proofs.YtjkmalddfoemhaaGreatDoor
open Go
def nt (a q:Int) (k:List Int):En:=⟨a,q,0,k,1,0,0,0,0,-1,[],[],[]⟩
end Go.Proofs.YtjkmalddfoemhaaGreatDoor
