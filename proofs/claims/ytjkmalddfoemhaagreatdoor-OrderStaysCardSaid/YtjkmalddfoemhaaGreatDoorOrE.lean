/- A range over a map of ints; whether a number is in a list (slices.Contains); what voices carry, collected out of a map. -/
import Derived.Test.YtjkmalddfoemhaaGreatDoorRm
import Derived.Test.YtjkmalddfoemhaaGreatDoorOrD
import Derived.Maps.RangeWalk
namespace Go.Proofs.YtjkmalddfoemhaaGreatDoor
open Go.RowKit Go.Deep
open Go.Maps (Keyed int_keyed keyOf_int_mk)
def RangeAt (P:Program) (k:TypeId) (w:World) (b r:Nat) (l:List (Int×Value)) (got:List Int):Prop :=
 ((l.map Prod.fst).Nodup/\got.Nodup/\∀ x∈got,x∈l.map Prod.fst)/\∃ (D:DataW Value) (left:Lit->Bool) (cnt:Nat),w.ranges P k RV b r l.length D left cnt ∧
   (∀ x v,l.lookup x=some v->Maps.has D (.int .i64 x)=true/\∀ z,D.atKey (.int .i64 x) z=.held v)/\∀ x,left (.int .i64 x)=true↔x∈l.map Prod.fst/\x∉got
theorem RangeAt.upd {P:Program} {k:TypeId} {S:Nat->Prop} {w w':World} {b r:Nat} {l:List (Int×Value)} {got:List Int} (h:RangeAt P k w b r l got) (u:Upd S w w') (hb:¬S b) (hr:¬S r):RangeAt P k w' b r l got:=by
 obtain ⟨h0,D,left,cnt,⟨es,clock,since,seen,c0,h1,F,h2,h3,h4,h5⟩,h6⟩:=h
 exact ⟨h0,D,left,cnt,⟨es,clock,since,seen,c0,(u.block b (heap_lt h1) hb).trans h1,F,h2,h3,(u.block r (heap_lt h4) hr).trans h4,h5⟩,h6⟩
theorem RangeAt.few {P:Program} {k:TypeId} {w:World} {b r:Nat} {l:List (Int×Value)} {got:List Int} (h:RangeAt P k w b r l got):got.length<=l.length:=by
 have:=nodup_sub_len h.1.2.1 h.1.2.2
 rwa [List.length_map] at this
section
variable {P:Program} {w:World} {ops:Array Oper} {rest:List Oper} {o:Oper} {a:Act} {Q:Exit->Act->World->Prop}
theorem range_op {k e t:TypeId} (hk:P.underlying k=some (.int .i64)) (ht:P.underlying t=some (.map k e)) {b:Nat} {l:List (Int×Value)} (M:MapIs P k w b l) (hg:o.guard=none) (m:Operand) (hop:o.op=Op.range t m) (hm:a.eval m=.map (some b))
 (hK:∀ w',RangeAt P k w' b w.heap.size l []->Upd (fun _=>False) w w'->w'.heap.size=w.heap.size+1->wpList P ops Q rest (a.put o.dst (.pointer (some ⟨w.heap.size,0,none⟩))) w'):wpList P ops Q (o::rest) a w:=by
 obtain ⟨hn,D,ho,hs,h1,h2⟩:=M
 refine wpList_range_own w hg m t hop k e (int_keyed hk) ht RV b l.length D hm ho ?_
 intro w' hr hg' hsz
 refine hK w' ⟨⟨hn,List.nodup_nil,fun x hx=>(nomatch hx)⟩,D,_,_,hr,h1,fun x=>?_⟩ ((Upd.refl (fun _=>False) w).grown hg' fun i hi=>(nomatch hi)) hsz
 cases hl:l.lookup x with
 | none =>
   rw [h2 x hl]
   exact ⟨fun q=>(nomatch q),fun q=>absurd q.1 (lookup_none_iff.1 hl)⟩
 | some v =>
   rw [(h1 x v hl).1]
   exact ⟨fun _=>⟨List.mem_map.2 ⟨_,lookup_mem hl,rfl⟩,List.not_mem_nil⟩,fun _=>rfl⟩
theorem next_op {k:TypeId} (hk:P.underlying k=some (.int .i64)) {b r:Nat} {l:List (Int×Value)} {got:List Int} (h:RangeAt P k w b r l got) (hg:o.guard=none) (it:Operand) (hop:o.op=Op.next it false) (hit:a.eval it=.pointer (some ⟨r,0,none⟩))
 (hDone:got.Perm (l.map Prod.fst)->wpList P ops Q rest (a.put o.dst (.tuple #[.bool false])) w)
 (hMore:∀ x v w',l.lookup x=some v->x∉got->(Lit.int .i64 x).wf=true->RangeAt P k w' b r l (got++[x])->got.length<l.length->Upd (· = r) w w'->w'.heap.size=w.heap.size →
  (Instr.entry (.pointer (some ⟨r,0,none⟩))).run P w'=.ok (.tuple #[.int .i64 x,v]) w'->wpList P ops Q rest (a.put o.dst (.tuple #[.bool true,.int .i64 x,v])) w'):wpList P ops Q (o::rest) a w:=by
 obtain ⟨⟨hn,hgn,hsub⟩,D,left,cnt,hr,h1,h2⟩:=h
 refine wpList_next_ranges w hg it hop k (int_keyed hk) RV (Value.int .i64) id (fun key kl hkey=>by obtain ⟨x,rfl,_⟩:=Maps.keyOf_int_inv hk hkey;exact ⟨x,rfl⟩) (fun v _ _=>⟨v,rfl⟩) b r l.length D left cnt hit hr (fun _ hl=>hDone ?_) ?_
 · refine (List.perm_ext_iff_of_nodup hgn hn).2 fun x=>⟨hsub x,fun hx=>Classical.byContradiction fun c=>?_⟩
   have:=(h2 x).2 ⟨hx,c⟩
   rw [hl] at this
   cases this
 · intro x c kl y w' cnt' hkey hlk hv hat hrg hlt hgr hsz hen
   obtain ⟨x',ex,rfl,hwx⟩:=Maps.keyOf_int_inv hk hkey
   cases ex
   obtain ⟨hx,hxg⟩:=(h2 x).1 hlk
   have hlook:l.lookup x=some c:=by
    cases hl:l.lookup x with
    | none=>exact absurd hx (lookup_none_iff.1 hl)
    | some v =>
      have e1:=(h1 x v hl).2 (.held c)
      rw [hat (.held c)] at e1
      have e2:(some (DataW.held c,([]:List MemPlace)))=some y:=hv
      injection e2 with e2
      rw [<-e2] at e1
      injection e1 with e1
      rw [e1]
   have hgn':(got++[x]).Nodup:=List.nodup_append.2 ⟨hgn,(by simp:[x].Nodup),fun a ha b hb e=>by rw [List.mem_singleton.1 hb] at e;exact hxg (e ▸ ha)⟩
   have hsub':∀ z∈got++[x],z∈l.map Prod.fst:=fun z hz=>(List.mem_append.1 hz).elim (hsub z) fun q=>by rw [List.mem_singleton.1 q];exact hx
   have hR:RangeAt P k w' b r l (got++[x]):=⟨⟨hn,hgn',hsub'⟩,D,_,cnt',hrg,h1,fun z=>by
    rw [Bool.and_eq_true,h2 z]
    simp only [Lit.sameKey,true_and,Bool.not_eq_true',decide_eq_false_iff_not,List.mem_append,List.mem_singleton,not_or]
    exact ⟨fun q=>⟨q.1.1,q.1.2,q.2⟩,fun q=>⟨⟨q.1,q.2.1⟩,q.2.2⟩⟩⟩
   have hfew:=hR.few
   rw [List.length_append] at hfew
   exact hMore x c w' hlook hxg hwx hR hfew ((Upd.refl (· = r) w).grown hgr fun i hi=>.inl (by injection hi with hi;exact hi.symm)) hsz hen
end
theorem rowlt {w:World} {B:Nat} {v:Value} {n s:Nat} {e:TypeId} {xs:List Value} (h:w.ownsRow B e s v n xs):∀ g,v.ownBlock=some g->B<=g/\g<w.heap.size:=by
 intro g hg
 rcases ownsRow_fits h with ⟨rfl,_⟩ | ⟨g',cap,rfl,h1,h2,_⟩
 · cases hg
 · cases hg;exact ⟨h1,h2⟩
def IntRow (w:World) (v:Value) (l:List Int):Prop:=∃ a c,v=.slice a l.length c/\l.length<=c/\c<=9223372036854775807/\(0<l.length->∃ g o,a=some ⟨g,o,none⟩/\∀ i (hi:i<l.length),w.cell? ⟨g,o+i,none⟩=some (.int .i64 l[i]))
theorem IntRow.of_rep {A:Nat->Prop} {w:World} {v:Value} {l:List Int} (h:kInts.rep A w [v] l):IntRow w v l:=by
 obtain ⟨a,c,rfl,h1,h2,h3⟩:=slice_open h
 refine ⟨a,c,rfl,h1,h2,fun hp=>?_⟩
 obtain ⟨g,o,e,_,hel⟩:=h3 hp
 exact ⟨g,o,e,fun i hi=>int_cells hel hi⟩
theorem IntRow.of_own {w:World} {B:Nat} {v:Value} {l:List Int} (h:w.ownsRow B 3 1 v l.length (l.map fun x=>.int .i64 x)):IntRow w v l:=by
 obtain ⟨h1,⟨rfl,h3⟩ | ⟨g,cap,cur,rfl,hb,hg,hn,hc,hs,ht⟩⟩:=h
 · refine ⟨none,0,by rw [h3],by omega,by decide,fun hp=>by omega⟩
 · refine ⟨_,cap,rfl,hn,hc,fun _=>⟨g,0,rfl,fun i hi=>?_⟩⟩
   have e:cur.toList[i]? = some (.int .i64 l[i]):=by
    have:=congrArg (·[i]?) ht
    simp only [Nat.mul_one,List.getElem?_take,hi,if_true,List.getElem?_map,List.getElem?_eq_getElem hi,Option.map_some] at this
    exact this
   rw [cell_of_block hg,Nat.zero_add,<-Array.getElem?_toList]
   exact e
theorem has_int {w:World} {v:Value} {l:List Int} (h:IntRow w v l) (x:Int):Calls Tryz.prog 132 #[v,.int .i64 x] w fun e w'=>e=.returned (.bool (decide (x∈l)))/\w=w':=by
 obtain ⟨a,c,rfl,h1,h2,h3⟩:=h
 by_cases hp:0<l.length
 · obtain ⟨g,o,rfl,hc⟩:=h3 hp
   refine (AnyG.slices_Contains_int Tryz.containsA g o l.length c l x w (Nat.le_refl _) (by omega) fun j hj=>by rw [hc j hj,List.getD_eq_getElem?_getD,List.getElem?_eq_getElem hj];rfl).mono ?_
   rintro e w' ⟨rfl,rfl⟩
   exact ⟨by rw [List.take_length];congr 2;simp,rfl⟩
 · have e:l=[]:=List.length_eq_zero_iff.1 (by omega)
   subst e
   refine (AnyG.slices_Contains_int_empty Tryz.containsA a c x w).mono ?_
   rintro e w' ⟨rfl,rfl⟩
   exact ⟨by simp,rfl⟩
theorem carTo_ok (s:Stp) (acts:List ActP) (kind day round:Int):∀ k,k<=acts.length->(carTo s acts kind day round k).length<=k/\((carTo s acts kind day round k).map Prod.fst).Nodup/\∀ a,(((carTo s acts kind day round k).lookup a).getD []).length<=k
 | 0,_=>by rw [carTo_zero];exact ⟨Nat.le_refl _,List.nodup_nil,fun a=>Nat.le_refl _⟩
 | k+1,hk=>by
   obtain ⟨h1,h2,h3⟩:=carTo_ok s acts kind day round k (by omega)
   rw [carTo_succ (by omega)]
   unfold carStep
   split
   · refine ⟨?_,nodup_put h2 _ _,fun a=>?_⟩
     · have:=len_put h2 (acts[k].value) (((carTo s acts kind day round k).lookup acts[k].value).getD []++[acts[k].en.author])
       split at this<;>omega
     · rw [lookup_put]
       split
       · rw [Option.getD_some,List.length_append]
         have:=h3 acts[k].value
         simp only [List.length_singleton]
         omega
       · exact Nat.le_succ_of_le (h3 a)
   · exact ⟨Nat.le_succ_of_le h1,h2,fun a=>Nat.le_succ_of_le (h3 a)⟩
def BigP (q:Int) (l:List (Int×List Int)) (x:Int):Bool:=decide (q<=(((l.lookup x).getD []).length:Int))
theorem big_sort {q:Int} {l:List (Int×List Int)} (hn:(l.map Prod.fst).Nodup) {got:List Int} (hp:got.Perm (l.map Prod.fst)):sortI (got.filter (BigP q l))=sortI (bigL q l):=by
 have hb:(l.map Prod.fst).filter (BigP q l)=bigL q l:=by
  unfold bigL
  rw [List.filter_map]
  congr 1
  refine List.filter_congr fun p hp=>?_
  obtain ⟨x,v⟩:=p
  show BigP q l x=_
  unfold BigP
  rw [mem_lookup hn hp]
  rfl
 have hq:=hp.filter (BigP q l)
 rw [hb] at hq
 have n1:(got.filter (BigP q l)).Nodup:=(hp.nodup_iff.2 hn).sublist List.filter_sublist
 exact sorted_unique (fun a b p q=>by omega) (fun a p=>by omega) (sortI_asc n1) (sortI_asc (hq.nodup_iff.1 n1)) fun z=>by rw [sortI_mem,sortI_mem];exact hq.mem_iff
theorem filter_snoc {p:Int->Bool} (l:List Int) (x:Int):(l++[x]).filter p=l.filter p++if p x then [x] else []:=by
 rw [List.filter_append]
 cases h:p x<;>simp [h]
end Go.Proofs.YtjkmalddfoemhaaGreatDoor
