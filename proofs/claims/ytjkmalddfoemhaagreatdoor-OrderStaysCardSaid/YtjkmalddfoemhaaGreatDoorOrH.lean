/- Walks: the sequence of a history (Sequence), the index of an entry (Position). -/
import Derived.Test.YtjkmalddfoemhaaGreatDoorRm
import Derived.Test.YtjkmalddfoemhaaGreatDoorOrG
import Derived.Test.YtjkmalddfoemhaaGreatDoorOrLaws
set_option maxRecDepth 100000
set_option maxHeartbeats 8000000
namespace Go.Proofs.YtjkmalddfoemhaaGreatDoor
open Go.RowKit Go.Deep
theorem cells1 {w:World} {p:Nat} {a:Value} {t:TypeId} (h:w.heap[p]? = some (.cells #[a] t (0,0))):w.cell? ⟨p,0,none⟩=some a:=by rw [cell_of_block h];rfl
theorem box_put {w:World} {q:Nat} {t:TypeId} {av bv:Option Addr} {n c m d:Nat} (h:w.heap[q]? = some (.cells #[.slice av n c] t (0,0))) :
 ∃ w',(Instr.storeAt 30 (.pointer (some ⟨q,0,none⟩)) (.slice bv m d)).run Tryz.prog w=.ok () w'/\w'.heap[q]? = some (.cells #[.slice bv m d] t (0,0))/\Upd (· = q) w w':=by
 refine ⟨w.setCells q 0 [.slice bv m d],?_,?_,upd_setCells' (S:=fun k=>k=q) q (.inl rfl) _ 0 w (Upd.refl _ _)⟩
 · have m0:=cells1 h
   have hf:∀ o,w.frozen? ⟨q,o,none⟩=false:=fun o=>frozen_of_block h
   clear h
   unfold Instr.storeAt
   go_simp
   rfl
 · have:=heap_setCells q t (0,0) [.slice bv m d] 0 w [.slice av n c] (by simpa using h) (by simp)
   rw [this]
   rfl
theorem isl_load {w:World} {p:Addr} {a:Option Addr} {n c:Nat} (h:w.cell? p=some (.slice a n c)):(Instr.loadAt 30 (.pointer (some p))).run Tryz.prog w=.ok (.slice a n c) w:=by
 unfold Instr.loadAt
 go_simp
theorem int_slice (x:Int) (w:World):(Instr.buildSlice 30 1 #[(0,.int .i64 x)]).run Tryz.prog w=.ok (.slice (some ⟨w.heap.size,0,none⟩) 1 1) (w.alloc (.cells #[.int .i64 x] 3 (0,0))):=by
 unfold Instr.buildSlice
 go_simp
structure SqAt (w:World) (B hc dc oc mb b:Nat) (D:Nat->Prop) (out:List Int):Prop where
 h:∃ t,w.heap[hc]? = some (.cells #[.pointer (some ⟨b,0,none⟩)] t (0,0))
 d:∃ t,w.heap[dc]? = some (.cells #[.map (some mb)] t (0,0))
 done:∃ S,SeenAt w mb S out.length/\∀ x,x∈S↔x∈out
 o:∃ t a c,w.heap[oc]? = some (.cells #[.slice a out.length c] t (0,0))/\w.ownsRow B 3 1 (.slice a out.length c) out.length (out.map fun x=>.int .i64 x)/\∀ g,(Value.slice a out.length c).ownBlock=some g->D g/\g≠oc/\g≠mb
 ne:¬D hc/\¬D dc/\D oc/\D mb/\oc≠mb
 lt:(∀ k,D k->k<w.heap.size)/\B<=w.heap.size
theorem SqAt.upd {S:Nat->Prop} {w w':World} {B hc dc oc mb b:Nat} {D:Nat->Prop} {out:List Int} (h:SqAt w B hc dc oc mb b D out) (u:Upd S w w') (hS:∀ k,D k->¬S k) (h1:¬S hc) (h2:¬S dc):SqAt w' B hc dc oc mb b D out:=by
 obtain ⟨⟨t1,k1⟩,⟨t2,k2⟩,⟨Q,k3,k4⟩,⟨t3,a,c,k5,k6,k7⟩,ne,lt⟩:=h
 exact ⟨⟨t1,(u.block _ (heap_lt k1) h1).trans k1⟩,⟨t2,(u.block _ (heap_lt k2) h2).trans k2⟩,⟨Q,k3.upd u (hS _ ne.2.2.2.1) (Nat.le_refl _),k4⟩,⟨t3,a,c,(u.block _ (heap_lt k5) (hS _ ne.2.2.1)).trans k5,ownsRow_upd k6 u fun g hg=>hS _ (k7 g hg).1,k7⟩,ne,fun k hk=>Nat.lt_of_lt_of_le (lt.1 k hk) u.size,Nat.le_trans lt.2 u.size⟩
theorem SqAt.keep {w w':World} {B hc dc oc mb b:Nat} {D:Nat->Prop} {out:List Int} (h:SqAt w B hc dc oc mb b D out) (u:Upd (fun _=>False) w w'):SqAt w' B hc dc oc mb b D out:=h.upd u (fun _ _=>id) id id
theorem SqAt.more {w:World} {B hc dc oc mb b:Nat} {D:Nat->Prop} {out:List Int} (h:SqAt w B hc dc oc mb b D out) {x:Int} (hx:(Lit.int .i64 x).wf=true) (hn:out.length<=1000) :
 ∃ w1,(Instr.mapUpdate 164 (.map (some mb)) (.int .i64 x) (.bool true)).run Tryz.prog w=.ok () w1/\Upd (· = mb) w w1/\∃ t a c,w1.heap[oc]? = some (.cells #[.slice a out.length c] t (0,0)) ∧
   ∃ a' c' w4 w5,(Builtin.append_ #[30,30] 30 #[.slice a out.length c,.slice (some ⟨w1.heap.size,0,none⟩) 1 1]).run Tryz.prog (w1.alloc (.cells #[.int .i64 x] 3 (0,0)))=.ok (.slice a' (out.length+1) c') w4 ∧
     (Instr.storeAt 30 (.pointer (some ⟨oc,0,none⟩)) (.slice a' (out.length+1) c')).run Tryz.prog w4=.ok () w5/\∃ D',SqAt w5 B hc dc oc mb b D' (out++[x])/\(∀ k,D' k->D k\/w.heap.size<=k)/\Upd D w w5:=by
 obtain ⟨⟨t1,h1⟩,⟨t2,h2⟩,⟨S,h3,h4⟩,⟨t3,a,c,h5,h6,h7⟩,⟨n1,n2,n3,n4,n5⟩,l1,l5⟩:=h
 obtain ⟨w1,r1,s1,u1⟩:=h3.put hx (by unfold maxLen;omega)
 have row1:=ownsRow_upd h6 u1 fun g hg e=>(h7 g hg).2.2 e
 obtain ⟨v',w4,r4,o4,u4,nb⟩:=append_one elemI row1 #[.int .i64 x] rfl (by simp [Value.oneCell']) (by unfold maxLen;omega) (by omega) (Nat.le_trans l5 u1.size) 30 (0,0)
 obtain ⟨a',c',e',_,_⟩:=own_slice o4
 subst e'
 have k5:w1.heap[oc]? = some (.cells #[.slice a out.length c] t3 (0,0)):=(u1.block _ (heap_lt h5) n5).trans h5
 have k5':w4.heap[oc]? = some (.cells #[.slice a out.length c] t3 (0,0)):=(u4.block _ (heap_lt k5) fun e=>(h7 _ e).2.1 rfl).trans k5
 obtain ⟨w5,r5,s5,u5⟩:=box_put (bv:=a') (m:=out.length+1) (d:=c') k5'
 have u15:Upd D w1 w5:=(u4.mono fun k hk=>(h7 k hk).1).trans (u5.mono fun k hk=>by subst hk;exact n3)
 have u05:Upd D w w5:=(u1.mono fun k hk=>by subst hk;exact n4).trans u15
 have hnew:∀ g,(Value.slice a' (out.length+1) c').ownBlock=some g->(D g/\g≠oc/\g≠mb)\/w1.heap.size<g:=fun g hg=>by
  rcases nb with e | ⟨g',e,hlt⟩
  · rw [e] at hg;exact .inl (h7 g hg)
  · rw [e] at hg;cases hg;exact .inr hlt
 have hlt:=own_lt o4
 refine ⟨w1,r1,u1,t3,a,c,k5,a',c',w4,w5,r4,r5,fun k=>D k\/(Value.slice a' (out.length+1) c').ownBlock=some k,⟨⟨t1,(u05.block _ (heap_lt h1) n1).trans h1⟩,⟨t2,(u05.block _ (heap_lt h2) n2).trans h2⟩,⟨x::S,?_,fun z=>?_⟩,⟨t3,a',c',?_,?_,?_⟩,⟨?_,?_,.inl n3,.inl n4,n5⟩,fun k hk=>?_,Nat.le_trans l5 u05.size⟩,fun k hk=>?_,u05⟩
 · refine (s1.upd u4 (fun e=>(h7 _ e).2.2 rfl) (Nat.le_refl _)).upd u5 (fun e=>n5 e.symm) (by rw [List.length_append];simp)
 · rw [List.mem_cons,h4,List.mem_append,List.mem_singleton]
   exact ⟨fun q=>q.symm,fun q=>q.symm⟩
 · rw [List.length_append];exact s5
 · have q:=ownsRow_upd o4 u5 fun g hg e=>by
    subst e
    rcases hnew _ hg with z | z
    · exact z.2.1 rfl
    · have:=heap_lt k5;omega
   rw [List.length_append,List.map_append]
   exact q
 · intro g hg
   rw [List.length_append] at hg
   refine ⟨.inr hg,?_⟩
   rcases hnew g hg with z | z
   · exact z.2
   · have h1:=heap_lt k5
     have h2:=l1 _ n4
     have h3:=u1.size
     exact ⟨fun e=>by omega,fun e=>by omega⟩
 · rintro (q | q)
   · exact n1 q
   · rcases hnew _ q with z | z
     · exact n1 z.1
     · have:=heap_lt h1;have:=u1.size;omega
 · rintro (q | q)
   · exact n2 q
   · rcases hnew _ q with z | z
     · exact n2 z.1
     · have:=heap_lt h2;have:=u1.size;omega
 · rcases hk with q | q
   · exact Nat.lt_of_lt_of_le (l1 k q) u05.size
   · exact Nat.lt_of_lt_of_le (hlt k q).2 u5.size
 · rcases hk with q | q
   · exact .inl q
   · rcases hnew k q with z | z
     · exact .inl z.1
     · exact .inr (by have:=u1.size;omega)
theorem put_any {O Or AM D:Nat->Prop} {b r B hc dc oc mb:Nat} {hs:Hs} {R:Rg} {w:World} {am:Option Addr} {cm:Nat} {ms out:List Int} (h:HPre w O Or b r hs R) (hq:SqAt w B hc dc oc mb b D out)
 (hm:kInts.rep AM w [.slice am ms.length cm] ms) (hl:out.length<=500) :
 Calls Tryz.prog 114 #[.slice am ms.length cm,.pointer (some ⟨hc,0,none⟩),.pointer (some ⟨dc,0,none⟩),.pointer (some ⟨oc,0,none⟩)] w
  fun e w'=>e=.returned (.tuple #[])/\∃ D',SqAt w' B hc dc oc mb b D' (putF hs out ms)/\(∀ k,D' k->D k\/w.heap.size<=k)/\Upd D w w':=by
 have HH:=hid h;have HQ:=hid hq;have HM:=hid hm;have HL:=hid hl
 obtain ⟨th,h1⟩:=hq.h
 have SL:=hid (show (sortedF hs ms).length<=60 from Nat.le_trans (nodup_sub_len (sorted_nodup h.plain ms) fun x hx=>(mem_marksF hs x).2 ((sorted_ok h.plain ms).2 x |>.1 hx).2) (by rw [marksF_len];exact Nat.le_trans h.plain.len h.few))
 have SW:=hid (show ∀ x∈sortedF hs ms,(Lit.int .i64 x).wf=true from fun x hx=>by have:=marks_small h.plain ((mem_marksF hs x).2 ((sorted_ok h.plain ms).2 x |>.1 hx).2);have:=h.few;exact iwf (by omega))
 have c1:=cells1 h1
 clear h hq hm hl h1
 go_enter Tryz.func114,Tryz.ntmps114
 go_wp2_with fail
 refine (hsorted_any HH.out.his HH.out.plain HH.out.few _ _ ms HM.out).mono ?_
 rintro en x1 ⟨vs,rfl,ho,u⟩
 obtain ⟨T,hT⟩:∃ T,sortedF hs ms=T:=⟨_,rfl⟩
 have HT:=hid hT
 have PIN:=hid (show ∀ k (hk:k<T.length),T[k]∈putTo hs out ms k->putTo hs out ms (k+1)=putTo hs out ms k from by subst hT;exact fun k hk=>putTo_in HH.out.plain hk)
 have PNEW:=hid (show ∀ k (hk:k<T.length),T[k]∉putTo hs out ms k->putTo hs out ms (k+1)=putTo hs out ms k++[T[k]] from by subst hT;exact fun k hk=>putTo_new hk)
 have PALL:=hid (show ∀ k,T.length<=k->putTo hs out ms k=putF hs out ms from by subst hT;exact fun k hk=>putTo_all hk)
 rw [hT] at ho SL SW
 have OW:=hid ho
 obtain ⟨aT,cs,rfl,hs1,hs2⟩:=own_slice ho
 have hs2:cs<=9223372036854775807:=hs2
 have START:=hid (HQ.out.keep u)
 have DLT:=hid (show ∀ k,D k->k<w.heap.size from HQ.out.lt.1)
 have U1:=hid u
 obtain ⟨n,hn⟩:∃ n,T.length=n:=⟨_,rfl⟩
 have HN:=hid hn
 have LO:=hid (show ∀ k,(putTo hs out ms k).length<=560 from fun k=>by
  unfold putTo
  rw [List.length_append,HT.out]
  have h1:=List.length_filter_le (fun m=>decide (m∉out)) (T.take k)
  rw [List.length_take] at h1
  have:=HL.out;have:=SL.out;omega)
 rw [hn] at hs1 SL ⊢
 have hn60:=SL.out
 clear ho u hT hn c1 HQ HM
 go_wp2_with fail
 go_loopg [11] n (fun gg s11 wr=>∃ k:Nat,k<=n/\gg=n-k/\s11=.int .i64 k/\∃ D',SqAt wr B hc dc oc mb b D' (putTo hs out ms k)/\(∀ j,D' j->D j\/x1.heap.size<=j)/\Upd D x1 wr)
 case atStart=>exact ⟨0,Nat.zero_le _,rfl,rfl,D,by rw [putTo_zero];exact START.out,fun j hj=>.inl hj,Upd.refl _ _⟩
 case round =>
  obtain ⟨k,hk,hg,rfl,D',hsq,hd,u⟩:=hrel
  have HG:=hid hg;have SQ:=hid hsq;have HD:=hid hd;have UP:=hid u
  clear hg hsq hd u START
  by_cases hlt:k<n
  case neg =>
   have hlti:¬(k:Int)<n:=by omega
   have HE:=hid (PALL.out k (by rw [HN.out];omega))
   go_wp2_with fail
   go_end0
   refine ⟨rfl,D',by rw [<-HE.out];exact SQ.out,fun j hj=>(HD.out j hj).imp id fun q=>Nat.le_trans U1.out.size q,(U1.out.mono fun _ q=>q.elim).trans UP.out⟩
  have hlti:(k:Int)<n:=by omega
  have hk1:(k:Int)+1<=100000:=by omega
  have hkl:k<T.length:=by rw [HN.out];exact hlt
  obtain ⟨g,o,rfl,hcell⟩:∃ g o,aT=some ⟨g,o,none⟩/\wr.cell? ⟨g,o+k,none⟩=some (.int .i64 T[k]):=by
   obtain ⟨a,c,e,_,_,h3⟩:=IntRow.of_own (ownsRow_upd OW.out UP.out fun g hg e=>by have h1:=(own_lt OW.out g hg).1;have h2:=DLT.out g e;omega)
   obtain ⟨g,o,ea,hel⟩:=h3 (by omega)
   injection e with e1 _ _
   exact ⟨g,o,by rw [e1,ea],hel k hkl⟩
  have PI:=hid (PIN.out k hkl);have PN:=hid (PNEW.out k hkl)
  have MW:=hid (SW.out _ (List.getElem_mem hkl))
  obtain ⟨m,hm⟩:∃ m,T[k]=m:=⟨_,rfl⟩
  rw [hm] at hcell PI PN MW
  obtain ⟨out1,hout1⟩:∃ l,putTo hs out ms k=l:=⟨_,rfl⟩
  have LO1:=hid (LO.out k)
  rw [hout1] at SQ PI PN LO1
  have mw:=MW.out
  clear hm hout1
  obtain ⟨td,h2⟩:=SQ.out.d
  have c2:=cells1 h2
  obtain ⟨S,hS1,hS2⟩:=SQ.out.done
  by_cases hin:m∈out1
  case pos =>
   as_aux_lemma =>
   have hlk:=hS1.yes MW.out ((hS2 m).2 hin)
   have E1:=hid (PI.out hin)
   clear hS1 hS2 h2
   go_wp2_with fail
   go_roundg (n-(k+1))
   case measure=>have:=HG.out;omega
   case rel=>exact ⟨k+1,by omega,rfl,by go_num,D',by rw [E1.out];exact SQ.out,HD.out,UP.out⟩
  as_aux_lemma =>
  have hlk:=hS1.no MW.out (fun q=>hin ((hS2 m).1 q))
  have E1:=hid (PN.out hin)
  obtain ⟨w1,r1,u1,t3,a3,cc3,k3,a',c',w4,w5,r4,r5,D2,sq2,hd2,u5⟩:=SQ.out.more MW.out (Nat.le_trans LO1.out (by decide))
  have R4:=hid r4;have R5:=hid r5;have SQ2:=hid sq2;have HD2:=hid hd2;have U5:=hid u5
  have c3:=cells1 k3
  have UW:=hid UP.out.size
  clear hS1 hS2 h2 k3 r4 r5 sq2 hd2 u5 hin u1
  go_upto_region 5 with (fail)
  refine wp_region_lit ?_
  refine op_load rfl _ _ rfl rfl (isl_load c3) ?_
  (try go_frame)
  refine op_move rfl _ rfl rfl ?_
  (try go_frame)
  refine op_buildSlice rfl _ _ _ rfl (vs:=[(0,.int .i64 m)]) rfl (int_slice m _) ?_
  (try go_frame)
  refine wpList_append_run rfl _ _ _ _ rfl rfl rfl R4.out ?_
  (try go_frame)
  refine op_store rfl _ _ _ rfl rfl rfl R5.out ?_
  refine wpList_nil ?_
  go_frame
  go_wp2_with fail
  go_roundg (n-(k+1))
  case measure=>have:=HG.out;omega
  case rel =>
   refine ⟨k+1,by omega,rfl,by go_num,D2,by rw [E1.out];exact SQ2.out,fun j hj=>?_,UP.out.comp U5.out fun i hi e=>(HD.out i e).resolve_right (by omega)⟩
   rcases HD2.out j hj with q | q
   · exact HD.out j q
   · exact .inr (Nat.le_trans UW.out q)
def SeqPost (s:Stp) (hs:Hs) (w:World) (e:Ending) (w':World):Prop:=∃ v1 v2 days,e=.returned (.tuple #[v1,v2])/\DaysOf s hs days/\(days.length<=60/\∀ d∈days,(Lit.int .i64 d.1).wf=true)/\w'.ownsRow w.heap.size 3 1 v1 (seqF hs days).length ((seqF hs days).map fun x=>.int .i64 x) ∧
 w'.ownsRow w.heap.size 3 1 v2 (endsF hs days).length ((endsF hs days).map fun x=>.int .i64 x)/\Upd (fun _=>False) w w'
theorem seqTo_len {R:Rg} {hs:Hs} (H:His rdF R hs) (hR:R.length<=60) (days:List (Int×Int)) {k:Nat} (hk:k<=days.length):(seqTo hs days k).length<=60:=by
 refine Nat.le_trans (nodup_sub_len (seqTo_nodup H days k hk) fun x hx=>?_) (Nat.le_trans (by rw [marksF_len];exact H.len) hR)
 obtain ⟨d,_,hd⟩:=(mem_seqTo H days k hk x).1 hx
 exact (mem_marksF hs x).2 (past_has H hd)
theorem sequence_any {O Or A:Nat->Prop} {b r:Nat} {hs:Hs} {R:Rg} {s:Stp} {ak:Option Addr} {ck:Nat} {w:World} (h:HPre w O Or b r hs R) (hst:StpAt w A s ak ck) (hA:∀ g,A g->g<w.heap.size) (hk:s.keys.length<=1000):Calls Tryz.prog 46 #[.pointer (some ⟨b,0,none⟩),stpV s ak ck] w (SeqPost s hs w):=by
 obtain ⟨W1,hW1⟩:∃ W1,W1=w.alloc (.cells #[.pointer (some ⟨b,0,none⟩)] 26 (0,0)):=⟨_,rfl⟩
 obtain ⟨W2,hW2⟩:∃ W2,W2=W1.alloc (.cells #[.slice ak s.keys.length ck,.int .i64 s.liars,.int .i64 s.seed] 60 (0,0)):=⟨_,rfl⟩
 obtain ⟨W3,hW3⟩:∃ W3,W3=W2.alloc (.cells #[.slice none 0 0] 30 (0,0)):=⟨_,rfl⟩
 obtain ⟨W4,hW4⟩:∃ W4,W4=W3.alloc (.map #[] 0):=⟨_,rfl⟩
 obtain ⟨W5,hW5⟩:∃ W5,W5=W4.alloc (.cells #[.map (some W3.heap.size)] 164 (0,0)):=⟨_,rfl⟩
 have u1:Upd (fun _=>False) w W1:=by rw [hW1];exact (Upd.refl _ _).alloc _
 have u2:Upd (fun _=>False) W1 W2:=by rw [hW2];exact (Upd.refl _ _).alloc _
 have u3:Upd (fun _=>False) W2 W3:=by rw [hW3];exact (Upd.refl _ _).alloc _
 have u4:Upd (fun _=>False) W3 W4:=by rw [hW4];exact (Upd.refl _ _).alloc _
 have u5:Upd (fun _=>False) W4 W5:=by rw [hW5];exact (Upd.refl _ _).alloc _
 have b1:W5.heap[w.heap.size]? = some (.cells #[.pointer (some ⟨b,0,none⟩)] 26 (0,0)):=by
  have q:W1.heap[w.heap.size]? = some (.cells #[.pointer (some ⟨b,0,none⟩)] 26 (0,0)):=by rw [hW1];exact heap_alloc_new
  exact ((((u2.trans u3).trans u4).trans u5).block _ (heap_lt q) id).trans q
 have b2:W5.heap[W1.heap.size]? = some (.cells #[.slice ak s.keys.length ck,.int .i64 s.liars,.int .i64 s.seed] 60 (0,0)):=by
  have q:W2.heap[W1.heap.size]? = some (.cells #[.slice ak s.keys.length ck,.int .i64 s.liars,.int .i64 s.seed] 60 (0,0)):=by rw [hW2];exact heap_alloc_new
  exact (((u3.trans u4).trans u5).block _ (heap_lt q) id).trans q
 have b3:W5.heap[W2.heap.size]? = some (.cells #[.slice none 0 0] 30 (0,0)):=by
  have q:W3.heap[W2.heap.size]? = some (.cells #[.slice none 0 0] 30 (0,0)):=by rw [hW3];exact heap_alloc_new
  exact ((u4.trans u5).block _ (heap_lt q) id).trans q
 have b4:MapIs Tryz.prog 3 W5 W3.heap.size []:=by
  have q:MapIs Tryz.prog 3 W4 W3.heap.size []:=by rw [hW4];exact MapIs.made W3
  exact q.upd u5 id
 have b5:W5.heap[W4.heap.size]? = some (.cells #[.map (some W3.heap.size)] 164 (0,0)):=by rw [hW5];exact heap_alloc_new
 have s1:W1.heap.size=w.heap.size+1:=by rw [hW1];simp
 have s2:W2.heap.size=w.heap.size+2:=by rw [hW2];simp;omega
 have s3:W3.heap.size=w.heap.size+3:=by rw [hW3];simp;omega
 have s4:W4.heap.size=w.heap.size+4:=by rw [hW4];simp;omega
 have s5:W5.heap.size=w.heap.size+5:=by rw [hW5];simp;omega
 have u05:=(((u1.trans u2).trans u3).trans u4).trans u5
 have START:=hid (show SqAt W5 w.heap.size w.heap.size W4.heap.size W2.heap.size W3.heap.size b (fun k=>k=W2.heap.size\/k=W3.heap.size) [] from
  ⟨⟨_,b1⟩,⟨_,b5⟩,⟨[],⟨[],b4,fun m=>by simp,Nat.le_refl _⟩,fun x=>Iff.rfl⟩,⟨_,none,0,b3,World.ownsRow_nil _ _ _ _,fun g hg=>(nomatch hg)⟩,⟨by omega,by omega,.inl rfl,.inr rfl,by omega⟩,fun k hk=>by omega,by omega⟩)
 have HH:=hid (h.keep u05);have HS:=hid (hst.keep u05);have U:=hid u05
 have HA:=hid (fun (y:World) (u:Upd (fun _=>False) W5 y) g (q:A g)=>(show g<y.heap.size from Nat.lt_of_lt_of_le (hA g q) (Nat.le_trans u05.size u.size)))
 have HK:=hid hk
 have HO:=hid (show ∀ k,O k->k<w.heap.size from fun k hk=>(h.his.lt k hk).2)
 have HB1:=hid b1;have HB2:=hid b2
 have ML:=hid (show (marksF hs).length<=60 by rw [marksF_len];exact Nat.le_trans h.plain.len h.few)
 have MI:=hid (show ∀ x∈marksF hs,I64 x from mark_i64 h.plain h.few)
 have PW:=hid (fun m=>past_i64 h.plain h.few m)
 have HP:=hid h.plain;have HF:=hid h.few
 have SIX:=hid h.gnd.six
 have RLT:=hid (show ∀ k,Or k->k<w.heap.size from fun k hk=>(h.gnd.ring.lt k hk).2)
 obtain ⟨hc,hhc⟩:∃ x,w.heap.size=x:=⟨_,rfl⟩
 have hpc:W1.heap.size=hc+1:=by omega
 obtain ⟨oc,hoc⟩:∃ x,W2.heap.size=x:=⟨_,rfl⟩
 obtain ⟨mb,hmb⟩:∃ x,W3.heap.size=x:=⟨_,rfl⟩
 have hdc:W4.heap.size=mb+1:=by omega
 have SZ:=hid (show hc=w.heap.size/\oc=hc+2/\mb=hc+3/\W5.heap.size=hc+5 by omega)
 rw [hoc,hmb,hdc,hhc] at START
 rw [hhc] at HB1 HO RLT
 rw [hpc] at HB2
 have E1:=hid hW1;have E2:=hid hW2;have E3:=hid hW3;have E4:=hid hW4;have E5:=hid (show W5=W4.alloc (.cells #[.map (some mb)] 164 (0,0)) from by rw [<-hmb];exact hW5)
 have N1:=hid hhc;have N2:=hid hpc;have N3:=hid hoc;have N4:=hid hmb;have N5:=hid hdc
 clear h hst hA hk u1 u2 u3 u4 u5 b1 b2 b3 b4 b5 s1 s2 s3 s4 s5 u05 hW1 hW2 hW3 hW4 hW5 hhc hpc hoc hmb hdc
 have hmk:∀ w,(Instr.makeMap 164 none).run Tryz.prog w=.ok (.map (some w.heap.size)) (w.alloc (.map #[] 0)):=fun w=>run_makeMap _ w
 have hmf:∀ (fn:Fn) (first cap:Array Value) (w:World),(Instr.makeFunc fn first cap).run Tryz.prog w=.ok (.func fn first cap) w:=fun _ _ _ _=>rfl
 unfold stpV
 go_enter Tryz.func46,Tryz.ntmps46
 go_upto_region 1 with (fail)
 rw [<-E1.out]
 try rw [N1.out]
 rw [<-E2.out]
 try rw [N2.out]
 go_upto_region 2 with (fail)
 rw [<-E3.out]
 try rw [N3.out]
 go_upto_region 3 with (fail)
 rw [<-E4.out]
 try rw [N4.out]
 rw [<-E5.out]
 try rw [N5.out]
 clear hmk E1 E2 E3 E4 E5 N1 N2 N3 N4 N5
 have c1:=cells1 HB1.out
 obtain ⟨m0,m1,m2⟩:=cells3s HB2.out
 go_wp2_with fail
 refine (days_any HH.out HS.out (HA.out _ (Upd.refl _ _)) HK.out).mono ?_
 rintro en x1 ⟨vd,days,rfl,hd,hdl,hrow,u⟩
 have HD:=hid hd;have HDL:=hid hdl;have ROW:=hid hrow
 obtain ⟨ad,cd,rfl,hd1,hd2⟩:=own_slice hrow
 have hd2:cd<=9223372036854775807:=hd2
 have U5:=hid (show W5.heap.size<=x1.heap.size from u.size)
 have SQ1:=hid (START.out.keep u)
 have HH1:=hid (HH.out.keep u)
 have HC1:=hid ((u.block _ (heap_lt HB1.out) id).trans HB1.out)
 have U1:=hid (U.out.trans u)
 obtain ⟨n,hn⟩:∃ n,days.length=n:=⟨_,rfl⟩
 have HN:=hid hn
 have hn60:n<=60:=by rw [<-hn];exact hdl.1
 rw [hn] at hd1 ⊢
 clear hd hdl hrow u hn c1 m0 m1 m2 START HH HB1 HB2
 go_wp2_with fail
 go_loopg [7,18] n (fun gg s7 s18 wr=>∃ k:Nat,k<=n/\gg=n-k/\s18=.int .i64 k/\∃ D',SqAt wr hc hc (mb+1) oc mb b D' (seqTo hs days k)/\(∀ j,D' j->(j=oc\/j=mb)\/x1.heap.size<=j)/\wr.ownsRow x1.heap.size 3 1 s7 (endsTo hs days k).length ((endsTo hs days k).map fun x=>.int .i64 x)/\(∀ g,s7.ownBlock=some g->¬D' g)/\Upd (fun j=>j=oc\/j=mb) x1 wr)
 case atStart=>exact ⟨0,Nat.zero_le _,rfl,rfl,_,SQ1.out,fun j hj=>.inl hj,World.ownsRow_nil _ _ _ _,fun g hg=>(nomatch hg),Upd.refl _ _⟩
 case round =>
  obtain ⟨k,hk,hg,rfl,D',hsq,hD,hrow,hap,u⟩:=hrel
  have HG:=hid hg;have SQ:=hid hsq;have HDD:=hid hD;have RE:=hid hrow;have AP:=hid hap;have UP:=hid u
  have UC:=hid (show Upd (fun _=>False) w wr from U1.out.comp u fun i hi e=>by have:=SZ.out;omega)
  have HHR:=hid (HH1.out.upd u (fun j hj e=>by have:=HO.out j hj;have:=SZ.out;omega) (fun j hj e=>by have:=(HH1.out.gnd.ring.lt j hj).2;have h0:=RLT.out j hj;have:=SZ.out;omega) fun j e=>by have:=SIX.out;have:=SZ.out;omega)
  have HCR:=hid ((u.block _ (heap_lt HC1.out) (by have:=SZ.out;omega)).trans HC1.out)
  obtain ⟨ae,ce,rfl,he1,he2⟩:=own_slice hrow
  have he2:ce<=9223372036854775807:=he2
  have EL:=hid (endsTo_len hs days k)
  have SL:=hid (seqTo_len HP.out HF.out days (k:=k) (by rw [HN.out];exact hk))
  have c1:=cells1 HCR.out
  clear hg hsq hD hrow hap u SQ1
  by_cases hlt:k<n
  case neg =>
   as_aux_lemma =>
   have hlti:¬(k:Int)<n:=by omega
   have hkn:k=n:=by omega
   subst hkn
   go_wp2_with fail
   refine (hmarks_any HHR.out.his).mono ?_
   rintro en y1 ⟨vm,rfl,ho,u⟩
   have RM:=hid (ints_rep ho MI.out)
   obtain ⟨am,cm,rfl,_,_⟩:=own_slice ho
   have Y1:=hid u
   clear ho u c1
   go_wp2_with fail
   refine (put_any (HHR.out.keep Y1.out) (SQ.out.keep Y1.out) RM.out (Nat.le_trans SL.out (by decide))).mono ?_
   rintro en y2 ⟨rfl,D2,sq2,hd2,u2⟩
   obtain ⟨tO,ao,co,ho,hr,_⟩:=sq2.o
   have c3:=cells1 ho
   have HR:=hid hr
   have U2:=hid u2
   have RE2:=hid (ownsRow_upd (ownsRow_upd RE.out Y1.out fun _ _=>id) u2 fun g hg=>AP.out g hg)
   clear sq2 hd2 ho hr u2
   go_wp2_with fail
   go_ret2
   have eS:seqF hs days=putF hs (seqTo hs days k) (marksF hs):=by unfold seqF;rw [HN.out]
   have eE:endsF hs days=endsTo hs days k:=by unfold endsF;rw [HN.out]
   refine ⟨_,_,days,rfl,HD.out,HDL.out,?_,?_,?_⟩
   · rw [eS];exact (SZ.out.1 ▸ HR.out)
   · rw [eE];exact ownsRow_base RE2.out U1.out.size
   · exact (UC.out.trans Y1.out).comp U2.out fun i hi e=>by have:=HDD.out i e;have:=SZ.out;have:=U1.out.size;omega
  as_aux_lemma =>
  have hlti:(k:Int)<n:=by omega
  have hk1:(k:Int)+1<=100000:=by omega
  have hkl:k<days.length:=by rw [HN.out];exact hlt
  obtain ⟨g,rfl,d0,d1⟩:∃ g,ad=some ⟨g,0,none⟩/\wr.cell? ⟨g,k*2,none⟩=some (.int .i64 days[k].1)/\wr.cell? ⟨g,k*2+1,none⟩=some (.int .i64 days[k].2):=by
   have row:=ownsRow_upd ROW.out UP.out fun g hg e=>by have h1:=(rowlt ROW.out g hg).1;have:=SZ.out;omega
   obtain ⟨g,c,e,_,_,_,_,h3⟩:=DysAt.get row (by omega)
   injection e with e1 _ _
   exact ⟨g,e1,h3 k hkl⟩
  have DW:=hid (HDL.out.2 _ (List.getElem_mem hkl))
  have NEXT:=hid (seqTo_succ (h:=hs) hkl)
  have ENEXT:=hid (endsTo_succ hs days k)
  obtain ⟨x,y,hxy⟩:∃ x y,days[k]=(x,y):=⟨_,_,rfl⟩
  rw [hxy] at d0 d1 DW NEXT
  obtain ⟨y0,hy0⟩:∃ y0,y0=wr.alloc (.cells #[.int .i64 x,.int .i64 y] 89 (0,0)):=⟨_,rfl⟩
  have u0:Upd (fun _=>False) wr y0:=by rw [hy0];exact (Upd.refl _ _).alloc _
  have hb0:y0.heap[wr.heap.size]? = some (.cells #[.int .i64 x,.int .i64 y] 89 (0,0)):=by rw [hy0];exact heap_alloc_new
  have E0:=hid hy0;have U0:=hid u0;have HB0:=hid hb0
  clear hxy hy0 hb0
  go_upto_region 7 with (fail)
  rw [<-E0.out]
  clear E0 d0 d1 c1
  obtain ⟨z0,z1⟩:=cellsD HB0.out
  have c1:=cells1 ((u0.block _ (heap_lt HCR.out) id).trans HCR.out)
  clear u0
  go_wp2_with fail
  refine (hpast_any (HHR.out.keep U0.out).his x DW.out).mono ?_
  rintro en y1 ⟨vm,rfl,ho,u⟩
  have RM:=hid (ints_rep ho (PW.out x))
  obtain ⟨am,cm,rfl,_,_⟩:=own_slice ho
  have Y1:=hid (U0.out.trans u)
  clear ho u c1 z0 z1
  go_wp2_with fail
  refine (put_any (HHR.out.keep Y1.out) (SQ.out.keep Y1.out) RM.out (Nat.le_trans SL.out (by decide))).mono ?_
  rintro en y2 ⟨rfl,D2,sq2,hd2,u2⟩
  rw [<-NEXT.out] at sq2
  obtain ⟨tO,ao,co,ho,hr,_⟩:=sq2.o
  have c3:=cells1 ho
  have SQ2:=hid sq2
  have HD2:=hid (show ∀ j,D2 j->D' j\/wr.heap.size<=j from fun j hj=>(hd2 j hj).imp id fun q=>Nat.le_trans Y1.out.size q)
  have HD3:=hid hd2
  have U2:=hid u2
  have RE1:=hid (ownsRow_upd RE.out Y1.out fun _ _=>id)
  have RE2:=hid (ownsRow_upd RE1.out u2 fun g hg=>AP.out g hg)
  have LN:=hid (seqTo_len HP.out HF.out days (k:=k+1) (by omega))
  obtain ⟨ln,hln⟩:∃ ln,(seqTo hs days (k+1)).length=ln:=⟨_,rfl⟩
  rw [hln] at c3 LN ENEXT
  have hln60:=LN.out
  obtain ⟨v',w4,r4,o4,u4,nb⟩:=append_one elemI RE2.out #[.int .i64 ln] rfl (by simp [Value.oneCell']) (by have:=EL.out;unfold maxLen;omega) (by have:=EL.out;omega) (Nat.le_trans UP.out.size (Nat.le_trans Y1.out.size u2.size)) 30 (0,0)
  have O4:=hid o4;have R4:=hid r4;have U4:=hid u4;have NB:=hid nb
  have ROW2:=hid (own_lt RE1.out)
  have SZW:=hid (show x1.heap.size<=wr.heap.size/\wr.heap.size<=y1.heap.size/\y1.heap.size<=y2.heap.size from ⟨UP.out.size,Y1.out.size,u2.size⟩)
  clear sq2 hd2 ho hr u2 hln o4 r4 u4 nb
  go_wp2_with (at_builtin;refine wpList_append_run rfl _ _ _ _ rfl rfl rfl R4.out ?_)
  go_roundg (n-(k+1))
  case measure=>have:=HG.out;omega
  case rel =>
   have far:∀ g,(Value.slice ae (endsTo hs days k).length ce).ownBlock=some g->¬D2 g/\x1.heap.size<=g/\g<y1.heap.size:=fun g hg=>by
    have h1:=ROW2.out g hg
    refine ⟨fun q=>?_,h1.1,h1.2⟩
    rcases HD3.out g q with z | z
    · exact AP.out g hg z
    · omega
   refine ⟨k+1,by omega,rfl,by go_num,D2,SQ2.out.upd U4.out (fun j hj e=>(far j e).1 hj) (fun e=>by have:=(far _ e).2.1;have:=SZ.out;have:=U5.out;omega) (fun e=>by have:=(far _ e).2.1;have:=SZ.out;have:=U5.out;omega),fun j hj=>?_,?_,fun g hg hj=>?_,(UP.out.trans (Y1.out.mono fun _ q=>q.elim)).comp (U2.out) (fun i hi e=>(HDD.out i e).resolve_right (by omega)) |>.comp U4.out fun i hi e=>by have:=(far i e).2.1;omega⟩
   · rcases HD2.out j hj with q | q
     · exact HDD.out j q
     · exact .inr (by have:=SZW.out;omega)
   · rw [ENEXT.out,List.length_append,List.map_append]
     exact O4.out
   · rcases NB.out with e | ⟨g',e,hlt'⟩
     · rw [e] at hg;exact (far g hg).1 hj
     · rw [e] at hg
       cases hg
       have:=SQ2.out.lt.1 _ hj
       omega
end Go.Proofs.YtjkmalddfoemhaaGreatDoor
