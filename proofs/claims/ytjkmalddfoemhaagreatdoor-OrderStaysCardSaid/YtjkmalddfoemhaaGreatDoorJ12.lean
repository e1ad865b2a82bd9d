/- Walks: Add. -/
import Derived.Test.YtjkmalddfoemhaaGreatDoorJ11
set_option maxRecDepth 100000
set_option maxHeartbeats 16000000
namespace Go.Proofs.YtjkmalddfoemhaaGreatDoor
open Go.RowKit Go.Deep
theorem add_seal {O Or:Nat->Prop} {b r:Nat} {hs:Hs} {R:Rg} {w:World} {s:Sg} (h:AddPre w O Or b r hs R s) (hn:¬ValidP R s):Calls Tryz.prog 56 #[.pointer (some ⟨b,0,none⟩),.agg #[.int .i64 s.key,.string ⟨s.text.toArray⟩,.int .i64 s.mark]] w (AddPost R O b r hs s w):=by
 have HP:=hid h
 obtain ⟨D,v,mb,l,L,H,hL⟩:=h.his
 have hkw:(Lit.int .i64 s.key).wf=true:=iwf h.key
 have hmw:(Lit.int .i64 s.mark).wf=true:=iwf h.mark
 obtain ⟨W0,hW0⟩:∃ W0,W0=w.alloc (.cells #[.int .i64 s.key,.string ⟨s.text.toArray⟩,.int .i64 s.mark] 49 (0,0)):=⟨_,rfl⟩
 have u0:Upd (fun _=>False) w W0:=by rw [hW0];exact (Upd.refl _ _).alloc _
 have hb0:W0.heap[w.heap.size]? = some (.cells #[.int .i64 s.key,.string ⟨s.text.toArray⟩,.int .i64 s.mark] 49 (0,0)):=by rw [hW0];exact heap_alloc_new
 obtain ⟨b0,b1,b2,bf⟩:=cells3 hb0
 have H0:=H.upd u0 fun _ _=>id
 obtain ⟨c0,d1,d2,cf⟩:=cells3 H0.head
 have HW:=hid H
 have HW0:=hid hW0;have U0:=hid u0;have HH:=hid H0;have HB0:=hid hb0;have HL:=hid hL
 have hv:=fun p:UW W0=>valid_ring (h.gnd.ring.upd (u0.trans p.u) fun _ _=>id) s hkw h.text
 clear hW0 u0 hb0 H0 H hL h
 have hn:=decide_eq_false hn
 rw [hn] at hv
 have FIN:=hid (show addF rdF R hs s=(hs,17) from if_pos (of_decide_eq_false hn))
 clear hn
 go_enter Tryz.func56,Tryz.ntmps56
 go_upto_region 1 with (fail)
 rw [<-HW0.out]
 have e0:=fun p:UW W0=>p.cell c0;have f0:=fun p:UW W0=>p.cell b0;have f1:=fun p:UW W0=>p.cell b1;have f2:=fun p:UW W0=>p.cell b2
 refine region_upd (by kernel_rfl) (by kernel_rfl) ?_
 repeat (go_big_quiet_step ((go_at_call 33;exact Calls.upd_of (hv _))))
 refine wpQuiet_nil ?_
 intro _ hw1
 refine uw_out hw1 ?_
 rintro w1 u1 e
 obtain rfl:=e.symm
 clear e hw1
 have U1:=hid (U0.out.trans u1)
 have hb1:=(u1.block _ (heap_lt HB0.out) id).trans HB0.out
 obtain ⟨k0,k1,k2,kf⟩:=cells3 hb1
 have HB1:=hid hb1
 clear e0 f0 f1 f2 hv b0 b1 b2 bf c0 d1 d2 cf hb1 u1
 go_wp2_with fail
 go_ret
 exact add_no HP.out.his FIN.out U1.out
theorem add_form {O Or:Nat->Prop} {b r:Nat} {hs:Hs} {R:Rg} {w:World} {s:Sg} (h:AddPre w O Or b r hs R s) (hok:ValidP R s) {x:En} {y:Int} (hx:rdF s.text=(x,y)) (hn:y≠0\/x.author≠s.key):Calls Tryz.prog 56 #[.pointer (some ⟨b,0,none⟩),.agg #[.int .i64 s.key,.string ⟨s.text.toArray⟩,.int .i64 s.mark]] w (AddPost R O b r hs s w):=by
 have HP:=hid h
 obtain ⟨D,v,mb,l,L,H,hL⟩:=h.his
 have hkw:(Lit.int .i64 s.key).wf=true:=iwf h.key
 have hmw:(Lit.int .i64 s.mark).wf=true:=iwf h.mark
 obtain ⟨W0,hW0⟩:∃ W0,W0=w.alloc (.cells #[.int .i64 s.key,.string ⟨s.text.toArray⟩,.int .i64 s.mark] 49 (0,0)):=⟨_,rfl⟩
 have u0:Upd (fun _=>False) w W0:=by rw [hW0];exact (Upd.refl _ _).alloc _
 have hb0:W0.heap[w.heap.size]? = some (.cells #[.int .i64 s.key,.string ⟨s.text.toArray⟩,.int .i64 s.mark] 49 (0,0)):=by rw [hW0];exact heap_alloc_new
 obtain ⟨b0,b1,b2,bf⟩:=cells3 hb0
 have H0:=H.upd u0 fun _ _=>id
 obtain ⟨c0,d1,d2,cf⟩:=cells3 H0.head
 have HW:=hid H
 have HW0:=hid hW0;have U0:=hid u0;have HH:=hid H0;have HB0:=hid hb0;have HL:=hid hL
 have hv:=fun p:UW W0=>valid_ring (h.gnd.ring.upd (u0.trans p.u) fun _ _=>id) s hkw h.text
 clear hW0 u0 hb0 H0 H hL h
 rw [decide_eq_true hok] at hv
 have FIN:=hid (show addF rdF R hs s=(hs,2) by unfold addF;rw [if_neg (fun q=>q hok),hx,if_pos hn])
 rcases Decidable.em (y=0) with rfl | hy
 · have t1:(x.author != s.key)=true:=bne_iff_ne.2 (hn.resolve_left fun q=>q rfl)
   clear hn hok
   go_enter Tryz.func56,Tryz.ntmps56
   go_upto_region 1 with (fail)
   rw [<-HW0.out]
   have e0:=fun p:UW W0=>p.cell c0;have f0:=fun p:UW W0=>p.cell b0;have f1:=fun p:UW W0=>p.cell b1;have f2:=fun p:UW W0=>p.cell b2
   refine region_upd (by kernel_rfl) (by kernel_rfl) ?_
   repeat (go_big_quiet_step ((go_at_call 33;exact Calls.upd_of (hv _))))
   refine wpQuiet_nil ?_
   intro _ hw1
   refine uw_out hw1 ?_
   rintro w1 u1 e
   obtain rfl:=e.symm
   clear e hw1
   have U1:=hid (U0.out.trans u1)
   have hb1:=(u1.block _ (heap_lt HB0.out) id).trans HB0.out
   obtain ⟨k0,k1,k2,kf⟩:=cells3 hb1
   have HB1:=hid hb1
   clear e0 f0 f1 f2 hv b0 b1 b2 bf c0 d1 d2 cf hb1 u1
   go_wp2_with fail
   have G1:=HP.out.gnd.keep U1.out
   refine (read_x G1.env G1.uses G1.six (Nat.le_trans HP.out.text (by decide)) hx).mono ?_
   rintro en x2 ⟨a1,a2,a3,c1,c2,c3,rfl,hrep,u⟩
   obtain ⟨W3,hW3⟩:∃ W3,W3=x2.alloc (.cells #[.int .i64 x.author,.int .i64 x.seq,.int .i64 x.day,.slice a1 x.knows.length c1,.int .i64 x.kind,.int .i64 x.circle,.int .i64 x.who,.int .i64 x.n,.int .i64 x.m,.int .i64 x.ref,.slice a2 x.keys.length c2,.slice a3 x.spans.length c3,.string ⟨x.text.toArray⟩] 72 (0,0)):=⟨_,rfl⟩
   have u3:Upd (fun _=>False) x2 W3:=by rw [hW3];exact (Upd.refl _ _).alloc _
   have hb3:W3.heap[x2.heap.size]? = some (.cells (en13 x a1 a2 a3 c1 c2 c3) 72 (0,0)):=by rw [hW3];exact heap_alloc_new
   have U3:=hid (U1.out.trans (u.trans u3))
   have REP:=hid (hrep.keep u3)
   have HS2:=hid (show w1.heap.size<=x2.heap.size from u.size)
   have HBS:=hid (((u.trans u3).block _ (heap_lt HB1.out) id).trans HB1.out)
   have HBE:=hid hb3;have HW3:=hid hW3
   obtain ⟨k0,k1,k2,kf⟩:=cells3 HBS.out
   obtain ⟨e0,e1,e2,e3,e4,e5,e6,e7,e8,e9,e10,e11,e12⟩:=cells13 hb3
   have hx2l:=heap_lt hb3
   clear HB1 hW3 hb3 u u3 hrep G1
   go_upto_region 4 with (fail)
   rw [<-HW3.out]
   clear HW3
   go_wp2_with fail
   go_ret
   exact add_no HP.out.his FIN.out U3.out
 · have t1:(y != 0)=true:=bne_iff_ne.2 hy
   clear hn hok hy
   go_enter Tryz.func56,Tryz.ntmps56
   go_upto_region 1 with (fail)
   rw [<-HW0.out]
   have e0:=fun p:UW W0=>p.cell c0;have f0:=fun p:UW W0=>p.cell b0;have f1:=fun p:UW W0=>p.cell b1;have f2:=fun p:UW W0=>p.cell b2
   refine region_upd (by kernel_rfl) (by kernel_rfl) ?_
   repeat (go_big_quiet_step ((go_at_call 33;exact Calls.upd_of (hv _))))
   refine wpQuiet_nil ?_
   intro _ hw1
   refine uw_out hw1 ?_
   rintro w1 u1 e
   obtain rfl:=e.symm
   clear e hw1
   have U1:=hid (U0.out.trans u1)
   have hb1:=(u1.block _ (heap_lt HB0.out) id).trans HB0.out
   obtain ⟨k0,k1,k2,kf⟩:=cells3 hb1
   have HB1:=hid hb1
   clear e0 f0 f1 f2 hv b0 b1 b2 bf c0 d1 d2 cf hb1 u1
   go_wp2_with fail
   have G1:=HP.out.gnd.keep U1.out
   refine (read_x G1.env G1.uses G1.six (Nat.le_trans HP.out.text (by decide)) hx).mono ?_
   rintro en x2 ⟨a1,a2,a3,c1,c2,c3,rfl,hrep,u⟩
   obtain ⟨W3,hW3⟩:∃ W3,W3=x2.alloc (.cells #[.int .i64 x.author,.int .i64 x.seq,.int .i64 x.day,.slice a1 x.knows.length c1,.int .i64 x.kind,.int .i64 x.circle,.int .i64 x.who,.int .i64 x.n,.int .i64 x.m,.int .i64 x.ref,.slice a2 x.keys.length c2,.slice a3 x.spans.length c3,.string ⟨x.text.toArray⟩] 72 (0,0)):=⟨_,rfl⟩
   have u3:Upd (fun _=>False) x2 W3:=by rw [hW3];exact (Upd.refl _ _).alloc _
   have hb3:W3.heap[x2.heap.size]? = some (.cells (en13 x a1 a2 a3 c1 c2 c3) 72 (0,0)):=by rw [hW3];exact heap_alloc_new
   have U3:=hid (U1.out.trans (u.trans u3))
   have REP:=hid (hrep.keep u3)
   have HS2:=hid (show w1.heap.size<=x2.heap.size from u.size)
   have HBS:=hid (((u.trans u3).block _ (heap_lt HB1.out) id).trans HB1.out)
   have HBE:=hid hb3;have HW3:=hid hW3
   obtain ⟨k0,k1,k2,kf⟩:=cells3 HBS.out
   obtain ⟨e0,e1,e2,e3,e4,e5,e6,e7,e8,e9,e10,e11,e12⟩:=cells13 hb3
   have hx2l:=heap_lt hb3
   clear HB1 hW3 hb3 u u3 hrep G1
   go_upto_region 4 with (fail)
   rw [<-HW3.out]
   clear HW3
   go_wp2_with fail
   go_ret
   exact add_no HP.out.his FIN.out U3.out
theorem add_has {O Or:Nat->Prop} {b r:Nat} {hs:Hs} {R:Rg} {w:World} {s:Sg} (h:AddPre w O Or b r hs R s) (hok:ValidP R s) {x:En} (hx:rdF s.text=(x,0)) (ha:x.author=s.key) (hi:(idxF hs s.mark).isSome=true):Calls Tryz.prog 56 #[.pointer (some ⟨b,0,none⟩),.agg #[.int .i64 s.key,.string ⟨s.text.toArray⟩,.int .i64 s.mark]] w (AddPost R O b r hs s w):=by
 have HP:=hid h
 obtain ⟨D,v,mb,l,L,H,hL⟩:=h.his
 have hkw:(Lit.int .i64 s.key).wf=true:=iwf h.key
 have hmw:(Lit.int .i64 s.mark).wf=true:=iwf h.mark
 obtain ⟨W0,hW0⟩:∃ W0,W0=w.alloc (.cells #[.int .i64 s.key,.string ⟨s.text.toArray⟩,.int .i64 s.mark] 49 (0,0)):=⟨_,rfl⟩
 have u0:Upd (fun _=>False) w W0:=by rw [hW0];exact (Upd.refl _ _).alloc _
 have hb0:W0.heap[w.heap.size]? = some (.cells #[.int .i64 s.key,.string ⟨s.text.toArray⟩,.int .i64 s.mark] 49 (0,0)):=by rw [hW0];exact heap_alloc_new
 obtain ⟨b0,b1,b2,bf⟩:=cells3 hb0
 have H0:=H.upd u0 fun _ _=>id
 obtain ⟨c0,d1,d2,cf⟩:=cells3 H0.head
 have HW:=hid H
 have HW0:=hid hW0;have U0:=hid u0;have HH:=hid H0;have HB0:=hid hb0;have HL:=hid hL
 have hv:=fun p:UW W0=>valid_ring (h.gnd.ring.upd (u0.trans p.u) fun _ _=>id) s hkw h.text
 clear hW0 u0 hb0 H0 H hL h
 rw [decide_eq_true hok] at hv
 have FIN:=hid (show addF rdF R hs s=(hs,0) by unfold addF;rw [if_neg (fun q=>q hok),hx];dsimp only;rw [if_neg (by rintro (c | c);exact c rfl;exact c ha),if_pos hi])
 have HI:=hid hi
 have t1:(x.author != s.key)=false:=bne_eq_false_iff_eq.2 ha
 clear hok ha hi
 go_enter Tryz.func56,Tryz.ntmps56
 go_upto_region 1 with (fail)
 rw [<-HW0.out]
 have e0:=fun p:UW W0=>p.cell c0;have f0:=fun p:UW W0=>p.cell b0;have f1:=fun p:UW W0=>p.cell b1;have f2:=fun p:UW W0=>p.cell b2
 refine region_upd (by kernel_rfl) (by kernel_rfl) ?_
 repeat (go_big_quiet_step ((go_at_call 33;exact Calls.upd_of (hv _))))
 refine wpQuiet_nil ?_
 intro _ hw1
 refine uw_out hw1 ?_
 rintro w1 u1 e
 obtain rfl:=e.symm
 clear e hw1
 have U1:=hid (U0.out.trans u1)
 have hb1:=(u1.block _ (heap_lt HB0.out) id).trans HB0.out
 obtain ⟨k0,k1,k2,kf⟩:=cells3 hb1
 have HB1:=hid hb1
 clear e0 f0 f1 f2 hv b0 b1 b2 bf c0 d1 d2 cf hb1 u1
 go_wp2_with fail
 have G1:=HP.out.gnd.keep U1.out
 refine (read_x G1.env G1.uses G1.six (Nat.le_trans HP.out.text (by decide)) hx).mono ?_
 rintro en x2 ⟨a1,a2,a3,c1,c2,c3,rfl,hrep,u⟩
 obtain ⟨W3,hW3⟩:∃ W3,W3=x2.alloc (.cells #[.int .i64 x.author,.int .i64 x.seq,.int .i64 x.day,.slice a1 x.knows.length c1,.int .i64 x.kind,.int .i64 x.circle,.int .i64 x.who,.int .i64 x.n,.int .i64 x.m,.int .i64 x.ref,.slice a2 x.keys.length c2,.slice a3 x.spans.length c3,.string ⟨x.text.toArray⟩] 72 (0,0)):=⟨_,rfl⟩
 have u3:Upd (fun _=>False) x2 W3:=by rw [hW3];exact (Upd.refl _ _).alloc _
 have hb3:W3.heap[x2.heap.size]? = some (.cells (en13 x a1 a2 a3 c1 c2 c3) 72 (0,0)):=by rw [hW3];exact heap_alloc_new
 have U3:=hid (U1.out.trans (u.trans u3))
 have REP:=hid (hrep.keep u3)
 have HS2:=hid (show w1.heap.size<=x2.heap.size from u.size)
 have HBS:=hid (((u.trans u3).block _ (heap_lt HB1.out) id).trans HB1.out)
 have HBE:=hid hb3;have HW3:=hid hW3
 obtain ⟨k0,k1,k2,kf⟩:=cells3 HBS.out
 obtain ⟨e0,e1,e2,e3,e4,e5,e6,e7,e8,e9,e10,e11,e12⟩:=cells13 hb3
 have hx2l:=heap_lt hb3
 clear HB1 hW3 hb3 u u3 hrep G1
 go_upto_region 4 with (fail)
 rw [<-HW3.out]
 clear HW3
 go_wp2_with fail
 refine (hhas_any (HP.out.his.keep U3.out) s.mark hmw).mono ?_
 rintro e w' ⟨rfl,rfl⟩
 rw [HI.out]
 go_wp2_with fail
 go_ret
 exact add_no HP.out.his FIN.out U3.out
theorem add_miss {O Or:Nat->Prop} {b r:Nat} {hs:Hs} {R:Rg} {w:World} {s:Sg} (h:AddPre w O Or b r hs R s) (hok:ValidP R s) {x:En} (hx:rdF s.text=(x,0)) (ha:x.author=s.key) (hi:(idxF hs s.mark).isSome=false) (hall:(downF hs x.knows).2=false):Calls Tryz.prog 56 #[.pointer (some ⟨b,0,none⟩),.agg #[.int .i64 s.key,.string ⟨s.text.toArray⟩,.int .i64 s.mark]] w (AddPost R O b r hs s w):=by
 have HP:=hid h
 obtain ⟨D,v,mb,l,L,H,hL⟩:=h.his
 have hkw:(Lit.int .i64 s.key).wf=true:=iwf h.key
 have hmw:(Lit.int .i64 s.mark).wf=true:=iwf h.mark
 obtain ⟨W0,hW0⟩:∃ W0,W0=w.alloc (.cells #[.int .i64 s.key,.string ⟨s.text.toArray⟩,.int .i64 s.mark] 49 (0,0)):=⟨_,rfl⟩
 have u0:Upd (fun _=>False) w W0:=by rw [hW0];exact (Upd.refl _ _).alloc _
 have hb0:W0.heap[w.heap.size]? = some (.cells #[.int .i64 s.key,.string ⟨s.text.toArray⟩,.int .i64 s.mark] 49 (0,0)):=by rw [hW0];exact heap_alloc_new
 obtain ⟨b0,b1,b2,bf⟩:=cells3 hb0
 have H0:=H.upd u0 fun _ _=>id
 obtain ⟨c0,d1,d2,cf⟩:=cells3 H0.head
 have HW:=hid H
 have HW0:=hid hW0;have U0:=hid u0;have HH:=hid H0;have HB0:=hid hb0;have HL:=hid hL
 have hv:=fun p:UW W0=>valid_ring (h.gnd.ring.upd (u0.trans p.u) fun _ _=>id) s hkw h.text
 clear hW0 u0 hb0 H0 H hL h
 rw [decide_eq_true hok] at hv
 have FIN:=hid (show addF rdF R hs s=(hs,19) by unfold addF;rw [if_neg (fun q=>q hok),hx];dsimp only;rw [if_neg (by rintro (c | c);exact c rfl;exact c ha),if_neg (by rw [hi];decide),if_pos hall])
 have HI:=hid hi;have HALL:=hid hall
 have t1:(x.author != s.key)=false:=bne_eq_false_iff_eq.2 ha
 clear hok ha hi hall
 go_enter Tryz.func56,Tryz.ntmps56
 go_upto_region 1 with (fail)
 rw [<-HW0.out]
 have e0:=fun p:UW W0=>p.cell c0;have f0:=fun p:UW W0=>p.cell b0;have f1:=fun p:UW W0=>p.cell b1;have f2:=fun p:UW W0=>p.cell b2
 refine region_upd (by kernel_rfl) (by kernel_rfl) ?_
 repeat (go_big_quiet_step ((go_at_call 33;exact Calls.upd_of (hv _))))
 refine wpQuiet_nil ?_
 intro _ hw1
 refine uw_out hw1 ?_
 rintro w1 u1 e
 obtain rfl:=e.symm
 clear e hw1
 have U1:=hid (U0.out.trans u1)
 have hb1:=(u1.block _ (heap_lt HB0.out) id).trans HB0.out
 obtain ⟨k0,k1,k2,kf⟩:=cells3 hb1
 have HB1:=hid hb1
 clear e0 f0 f1 f2 hv b0 b1 b2 bf c0 d1 d2 cf hb1 u1
 go_wp2_with fail
 have G1:=HP.out.gnd.keep U1.out
 refine (read_x G1.env G1.uses G1.six (Nat.le_trans HP.out.text (by decide)) hx).mono ?_
 rintro en x2 ⟨a1,a2,a3,c1,c2,c3,rfl,hrep,u⟩
 obtain ⟨W3,hW3⟩:∃ W3,W3=x2.alloc (.cells #[.int .i64 x.author,.int .i64 x.seq,.int .i64 x.day,.slice a1 x.knows.length c1,.int .i64 x.kind,.int .i64 x.circle,.int .i64 x.who,.int .i64 x.n,.int .i64 x.m,.int .i64 x.ref,.slice a2 x.keys.length c2,.slice a3 x.spans.length c3,.string ⟨x.text.toArray⟩] 72 (0,0)):=⟨_,rfl⟩
 have u3:Upd (fun _=>False) x2 W3:=by rw [hW3];exact (Upd.refl _ _).alloc _
 have hb3:W3.heap[x2.heap.size]? = some (.cells (en13 x a1 a2 a3 c1 c2 c3) 72 (0,0)):=by rw [hW3];exact heap_alloc_new
 have U3:=hid (U1.out.trans (u.trans u3))
 have REP:=hid (hrep.keep u3)
 have HS2:=hid (show w1.heap.size<=x2.heap.size from u.size)
 have HBS:=hid (((u.trans u3).block _ (heap_lt HB1.out) id).trans HB1.out)
 have HBE:=hid hb3;have HW3:=hid hW3
 obtain ⟨k0,k1,k2,kf⟩:=cells3 HBS.out
 obtain ⟨e0,e1,e2,e3,e4,e5,e6,e7,e8,e9,e10,e11,e12⟩:=cells13 hb3
 have hx2l:=heap_lt hb3
 clear HB1 hW3 hb3 u u3 hrep G1
 go_upto_region 4 with (fail)
 rw [<-HW3.out]
 clear HW3
 go_wp2_with fail
 refine (hhas_any (HP.out.his.keep U3.out) s.mark hmw).mono ?_
 rintro e w' ⟨rfl,rfl⟩
 rw [HI.out]
 go_wp2_with fail
 refine (down_any (HP.out.his.keep U3.out) _ _ x.knows REP.out.knows).mono ?_
 rintro e x4 ⟨pv,rfl,nb,u4⟩
 rw [HALL.out]
 have NB:=hid nb
 have U4:=hid (U3.out.trans u4);have UD:=hid u4
 have HBS4:=hid ((u4.block _ (heap_lt HBS.out) id).trans HBS.out)
 have HBE4:=hid ((u4.block _ (heap_lt HBE.out) id).trans HBE.out)
 clear k0 k1 k2 kf e0 e1 e2 e3 e4 e5 e6 e7 e8 e9 e10 e11 e12 nb u4
 obtain ⟨k0,k1,k2,kf⟩:=cells3 HBS4.out
 obtain ⟨e0,e1,e2,e3,e4,e5,e6,e7,e8,e9,e10,e11,e12⟩:=cells13 HBE4.out
 go_wp2_with fail
 go_ret
 exact add_no HP.out.his FIN.out U4.out
theorem add_ref1 {O Or:Nat->Prop} {b r:Nat} {hs:Hs} {R:Rg} {w:World} {s:Sg} (h:AddPre w O Or b r hs R s) (hok:ValidP R s) {x:En} (hx:rdF s.text=(x,0)) (ha:x.author=s.key) (hi:(idxF hs s.mark).isSome=false) (hall:(downF hs x.knows).2=true) (hr:x.ref≠-1) (hk:x.kind≠8) (hir:idxF hs x.ref=none):Calls Tryz.prog 56 #[.pointer (some ⟨b,0,none⟩),.agg #[.int .i64 s.key,.string ⟨s.text.toArray⟩,.int .i64 s.mark]] w (AddPost R O b r hs s w):=by
 have HP:=hid h
 obtain ⟨D,v,mb,l,L,H,hL⟩:=h.his
 have hkw:(Lit.int .i64 s.key).wf=true:=iwf h.key
 have hmw:(Lit.int .i64 s.mark).wf=true:=iwf h.mark
 obtain ⟨W0,hW0⟩:∃ W0,W0=w.alloc (.cells #[.int .i64 s.key,.string ⟨s.text.toArray⟩,.int .i64 s.mark] 49 (0,0)):=⟨_,rfl⟩
 have u0:Upd (fun _=>False) w W0:=by rw [hW0];exact (Upd.refl _ _).alloc _
 have hb0:W0.heap[w.heap.size]? = some (.cells #[.int .i64 s.key,.string ⟨s.text.toArray⟩,.int .i64 s.mark] 49 (0,0)):=by rw [hW0];exact heap_alloc_new
 obtain ⟨b0,b1,b2,bf⟩:=cells3 hb0
 have H0:=H.upd u0 fun _ _=>id
 obtain ⟨c0,d1,d2,cf⟩:=cells3 H0.head
 have HW:=hid H
 have HW0:=hid hW0;have U0:=hid u0;have HH:=hid H0;have HB0:=hid hb0;have HL:=hid hL
 have hv:=fun p:UW W0=>valid_ring (h.gnd.ring.upd (u0.trans p.u) fun _ _=>id) s hkw h.text
 clear hW0 u0 hb0 H0 H hL h
 rw [decide_eq_true hok] at hv
 have hwf:EnWf x:=by have:=rd_wf (s:=s.text) (Nat.le_trans HP.out.text (by decide));rw [hx] at this;exact this
 have hrw:(Lit.int .i64 x.ref).wf=true:=iwf hwf.ref
 have t2:(x.ref != -1)=true:=bne_iff_ne.2 hr
 have t3:(x.kind != 8)=true:=bne_iff_ne.2 hk
 have FIN:=hid (show addF rdF R hs s=(hs,19) by
  unfold addF;rw [if_neg (fun q=>q hok),hx];dsimp only;rw [if_neg (by rintro (c | c);exact c rfl;exact c ha),if_neg (by rw [hi];decide),if_neg (by rw [hall];decide),if_pos]
  unfold refB;rw [hir,beq_eq_false_iff_ne.2 hr,beq_eq_false_iff_ne.2 hk];rfl)
 have HI:=hid hi;have HALL:=hid hall;have HIR:=hid (show idxF (L.map NdC.n) x.ref=none by rw [HL.out];exact hir)
 have t1:(x.author != s.key)=false:=bne_eq_false_iff_eq.2 ha
 clear hok ha hi hall hr hk hir hwf
 go_enter Tryz.func56,Tryz.ntmps56
 go_upto_region 1 with (fail)
 rw [<-HW0.out]
 have e0:=fun p:UW W0=>p.cell c0;have f0:=fun p:UW W0=>p.cell b0;have f1:=fun p:UW W0=>p.cell b1;have f2:=fun p:UW W0=>p.cell b2
 refine region_upd (by kernel_rfl) (by kernel_rfl) ?_
 repeat (go_big_quiet_step ((go_at_call 33;exact Calls.upd_of (hv _))))
 refine wpQuiet_nil ?_
 intro _ hw1
 refine uw_out hw1 ?_
 rintro w1 u1 e
 obtain rfl:=e.symm
 clear e hw1
 have U1:=hid (U0.out.trans u1)
 have hb1:=(u1.block _ (heap_lt HB0.out) id).trans HB0.out
 obtain ⟨k0,k1,k2,kf⟩:=cells3 hb1
 have HB1:=hid hb1
 clear e0 f0 f1 f2 hv b0 b1 b2 bf c0 d1 d2 cf hb1 u1
 go_wp2_with fail
 have G1:=HP.out.gnd.keep U1.out
 refine (read_x G1.env G1.uses G1.six (Nat.le_trans HP.out.text (by decide)) hx).mono ?_
 rintro en x2 ⟨a1,a2,a3,c1,c2,c3,rfl,hrep,u⟩
 obtain ⟨W3,hW3⟩:∃ W3,W3=x2.alloc (.cells #[.int .i64 x.author,.int .i64 x.seq,.int .i64 x.day,.slice a1 x.knows.length c1,.int .i64 x.kind,.int .i64 x.circle,.int .i64 x.who,.int .i64 x.n,.int .i64 x.m,.int .i64 x.ref,.slice a2 x.keys.length c2,.slice a3 x.spans.length c3,.string ⟨x.text.toArray⟩] 72 (0,0)):=⟨_,rfl⟩
 have u3:Upd (fun _=>False) x2 W3:=by rw [hW3];exact (Upd.refl _ _).alloc _
 have hb3:W3.heap[x2.heap.size]? = some (.cells (en13 x a1 a2 a3 c1 c2 c3) 72 (0,0)):=by rw [hW3];exact heap_alloc_new
 have U3:=hid (U1.out.trans (u.trans u3))
 have REP:=hid (hrep.keep u3)
 have HS2:=hid (show w1.heap.size<=x2.heap.size from u.size)
 have HBS:=hid (((u.trans u3).block _ (heap_lt HB1.out) id).trans HB1.out)
 have HBE:=hid hb3;have HW3:=hid hW3
 obtain ⟨k0,k1,k2,kf⟩:=cells3 HBS.out
 obtain ⟨e0,e1,e2,e3,e4,e5,e6,e7,e8,e9,e10,e11,e12⟩:=cells13 hb3
 have hx2l:=heap_lt hb3
 clear HB1 hW3 hb3 u u3 hrep G1
 go_upto_region 4 with (fail)
 rw [<-HW3.out]
 clear HW3
 go_wp2_with fail
 refine (hhas_any (HP.out.his.keep U3.out) s.mark hmw).mono ?_
 rintro e w' ⟨rfl,rfl⟩
 rw [HI.out]
 go_wp2_with fail
 refine (down_any (HP.out.his.keep U3.out) _ _ x.knows REP.out.knows).mono ?_
 rintro e x4 ⟨pv,rfl,nb,u4⟩
 rw [HALL.out]
 have NB:=hid nb
 have U4:=hid (U3.out.trans u4);have UD:=hid u4
 have HBS4:=hid ((u4.block _ (heap_lt HBS.out) id).trans HBS.out)
 have HBE4:=hid ((u4.block _ (heap_lt HBE.out) id).trans HBE.out)
 clear k0 k1 k2 kf e0 e1 e2 e3 e4 e5 e6 e7 e8 e9 e10 e11 e12 nb u4
 obtain ⟨k0,k1,k2,kf⟩:=cells3 HBS4.out
 obtain ⟨e0,e1,e2,e3,e4,e5,e6,e7,e8,e9,e10,e11,e12⟩:=cells13 HBE4.out
 have H4:=HW.out.upd U4.out fun _ _=>id
 obtain ⟨c0,d1,d2,cf⟩:=cells3 H4.head
 have HH4:=hid H4
 clear H4
 go_upto_region 12 with (fail)
 have f0:=fun p:UW x4=>p.cell d2;have f1:=fun p:UW x4=>p.cell e9
 have q:=fun p:UW x4=>(HH4.out.upd p.u fun _ _=>id).look_no hrw HIR.out
 refine region_upd (by kernel_rfl) (by kernel_rfl) ?_
 repeat (go_big_quiet_step (fail))
 refine wpQuiet_nil ?_
 intro _ hw1
 refine uw_out hw1 ?_
 rintro w5 u1 e
 obtain rfl:=e.symm
 clear e hw1
 have U5:=hid (U4.out.trans u1);have UE:=hid u1
 clear f0 f1 q c0 d1 d2 cf k0 k1 k2 kf e0 e1 e2 e3 e4 e5 e6 e7 e8 e9 e10 e11 e12 u1
 go_wp2_with fail
 go_ret
 exact add_no HP.out.his FIN.out U5.out
theorem add_ref2 {O Or:Nat->Prop} {b r:Nat} {hs:Hs} {R:Rg} {w:World} {s:Sg} (h:AddPre w O Or b r hs R s) (hok:ValidP R s) {x:En} (hx:rdF s.text=(x,0)) (ha:x.author=s.key) (hi:(idxF hs s.mark).isSome=false) (hall:(downF hs x.knows).2=true) (hr:x.ref≠-1) (hk:x.kind≠8) {i:Nat} (hir:idxF hs x.ref=some i) (hpi:(downF hs x.knows).1 i=false):Calls Tryz.prog 56 #[.pointer (some ⟨b,0,none⟩),.agg #[.int .i64 s.key,.string ⟨s.text.toArray⟩,.int .i64 s.mark]] w (AddPost R O b r hs s w):=by
 have HP:=hid h
 obtain ⟨D,v,mb,l,L,H,hL⟩:=h.his
 have hkw:(Lit.int .i64 s.key).wf=true:=iwf h.key
 have hmw:(Lit.int .i64 s.mark).wf=true:=iwf h.mark
 obtain ⟨W0,hW0⟩:∃ W0,W0=w.alloc (.cells #[.int .i64 s.key,.string ⟨s.text.toArray⟩,.int .i64 s.mark] 49 (0,0)):=⟨_,rfl⟩
 have u0:Upd (fun _=>False) w W0:=by rw [hW0];exact (Upd.refl _ _).alloc _
 have hb0:W0.heap[w.heap.size]? = some (.cells #[.int .i64 s.key,.string ⟨s.text.toArray⟩,.int .i64 s.mark] 49 (0,0)):=by rw [hW0];exact heap_alloc_new
 obtain ⟨b0,b1,b2,bf⟩:=cells3 hb0
 have H0:=H.upd u0 fun _ _=>id
 obtain ⟨c0,d1,d2,cf⟩:=cells3 H0.head
 have HW:=hid H
 have HW0:=hid hW0;have U0:=hid u0;have HH:=hid H0;have HB0:=hid hb0;have HL:=hid hL
 have hv:=fun p:UW W0=>valid_ring (h.gnd.ring.upd (u0.trans p.u) fun _ _=>id) s hkw h.text
 clear hW0 u0 hb0 H0 H hL h
 rw [decide_eq_true hok] at hv
 have hwf:EnWf x:=by have:=rd_wf (s:=s.text) (Nat.le_trans HP.out.text (by decide));rw [hx] at this;exact this
 have hrw:(Lit.int .i64 x.ref).wf=true:=iwf hwf.ref
 have t2:(x.ref != -1)=true:=bne_iff_ne.2 hr
 have t3:(x.kind != 8)=true:=bne_iff_ne.2 hk
 have FIN:=hid (show addF rdF R hs s=(hs,19) by
  unfold addF;rw [if_neg (fun q=>q hok),hx];dsimp only;rw [if_neg (by rintro (c | c);exact c rfl;exact c ha),if_neg (by rw [hi];decide),if_neg (by rw [hall];decide),if_pos]
  unfold refB;rw [hir,beq_eq_false_iff_ne.2 hr,beq_eq_false_iff_ne.2 hk];exact hpi)
 have HI:=hid hi;have HALL:=hid hall;have HIR:=hid (show idxF (L.map NdC.n) x.ref=some i by rw [HL.out];exact hir)
 have HPI:=hid hpi
 have h64:=(HW.out.idx HIR.out).2
 have t1:(x.author != s.key)=false:=bne_eq_false_iff_eq.2 ha
 clear hok ha hi hall hr hk hir hwf hpi
 go_enter Tryz.func56,Tryz.ntmps56
 go_upto_region 1 with (fail)
 rw [<-HW0.out]
 have e0:=fun p:UW W0=>p.cell c0;have f0:=fun p:UW W0=>p.cell b0;have f1:=fun p:UW W0=>p.cell b1;have f2:=fun p:UW W0=>p.cell b2
 refine region_upd (by kernel_rfl) (by kernel_rfl) ?_
 repeat (go_big_quiet_step ((go_at_call 33;exact Calls.upd_of (hv _))))
 refine wpQuiet_nil ?_
 intro _ hw1
 refine uw_out hw1 ?_
 rintro w1 u1 e
 obtain rfl:=e.symm
 clear e hw1
 have U1:=hid (U0.out.trans u1)
 have hb1:=(u1.block _ (heap_lt HB0.out) id).trans HB0.out
 obtain ⟨k0,k1,k2,kf⟩:=cells3 hb1
 have HB1:=hid hb1
 clear e0 f0 f1 f2 hv b0 b1 b2 bf c0 d1 d2 cf hb1 u1
 go_wp2_with fail
 have G1:=HP.out.gnd.keep U1.out
 refine (read_x G1.env G1.uses G1.six (Nat.le_trans HP.out.text (by decide)) hx).mono ?_
 rintro en x2 ⟨a1,a2,a3,c1,c2,c3,rfl,hrep,u⟩
 obtain ⟨W3,hW3⟩:∃ W3,W3=x2.alloc (.cells #[.int .i64 x.author,.int .i64 x.seq,.int .i64 x.day,.slice a1 x.knows.length c1,.int .i64 x.kind,.int .i64 x.circle,.int .i64 x.who,.int .i64 x.n,.int .i64 x.m,.int .i64 x.ref,.slice a2 x.keys.length c2,.slice a3 x.spans.length c3,.string ⟨x.text.toArray⟩] 72 (0,0)):=⟨_,rfl⟩
 have u3:Upd (fun _=>False) x2 W3:=by rw [hW3];exact (Upd.refl _ _).alloc _
 have hb3:W3.heap[x2.heap.size]? = some (.cells (en13 x a1 a2 a3 c1 c2 c3) 72 (0,0)):=by rw [hW3];exact heap_alloc_new
 have U3:=hid (U1.out.trans (u.trans u3))
 have REP:=hid (hrep.keep u3)
 have HS2:=hid (show w1.heap.size<=x2.heap.size from u.size)
 have HBS:=hid (((u.trans u3).block _ (heap_lt HB1.out) id).trans HB1.out)
 have HBE:=hid hb3;have HW3:=hid hW3
 obtain ⟨k0,k1,k2,kf⟩:=cells3 HBS.out
 obtain ⟨e0,e1,e2,e3,e4,e5,e6,e7,e8,e9,e10,e11,e12⟩:=cells13 hb3
 have hx2l:=heap_lt hb3
 clear HB1 hW3 hb3 u u3 hrep G1
 go_upto_region 4 with (fail)
 rw [<-HW3.out]
 clear HW3
 go_wp2_with fail
 refine (hhas_any (HP.out.his.keep U3.out) s.mark hmw).mono ?_
 rintro e w' ⟨rfl,rfl⟩
 rw [HI.out]
 go_wp2_with fail
 refine (down_any (HP.out.his.keep U3.out) _ _ x.knows REP.out.knows).mono ?_
 rintro e x4 ⟨pv,rfl,nb,u4⟩
 rw [HALL.out]
 have NB:=hid nb
 have U4:=hid (U3.out.trans u4);have UD:=hid u4
 have HBS4:=hid ((u4.block _ (heap_lt HBS.out) id).trans HBS.out)
 have HBE4:=hid ((u4.block _ (heap_lt HBE.out) id).trans HBE.out)
 clear k0 k1 k2 kf e0 e1 e2 e3 e4 e5 e6 e7 e8 e9 e10 e11 e12 nb u4
 obtain ⟨k0,k1,k2,kf⟩:=cells3 HBS4.out
 obtain ⟨e0,e1,e2,e3,e4,e5,e6,e7,e8,e9,e10,e11,e12⟩:=cells13 HBE4.out
 have H4:=HW.out.upd U4.out fun _ _=>id
 obtain ⟨c0,d1,d2,cf⟩:=cells3 H4.head
 have HH4:=hid H4
 clear H4
 go_upto_region 12 with (fail)
 have f0:=fun p:UW x4=>p.cell d2;have f1:=fun p:UW x4=>p.cell e9
 have q:=fun p:UW x4=>(HH4.out.upd p.u fun _ _=>id).look_yes hrw HIR.out
 refine region_upd (by kernel_rfl) (by kernel_rfl) ?_
 repeat (go_big_quiet_step (fail))
 refine wpQuiet_nil ?_
 intro _ hw1
 refine uw_out hw1 ?_
 rintro w5 u1 e
 obtain rfl:=e.symm
 clear e hw1
 have U5:=hid (U4.out.trans u1);have UE:=hid u1
 clear f0 f1 q c0 d1 d2 cf k0 k1 k2 kf e0 e1 e2 e3 e4 e5 e6 e7 e8 e9 e10 e11 e12 u1
 obtain ⟨z,hz,hzp⟩:=NB.out.bits
 have HT:=hid (test_any pv z i w5 (hz.upd UE.out fun _ _=>id) h64)
 have HTI:=hid ((hzp i).trans HPI.out)
 clear hz hzp
 go_wp2_with fail
 refine HT.out.mono ?_
 rintro e w' ⟨rfl,rfl⟩
 rw [HTI.out]
 go_wp2_with fail
 go_ret
 exact add_no HP.out.his FIN.out U5.out
end Go.Proofs.YtjkmalddfoemhaaGreatDoor
namespace Go.Proofs.YtjkmalddfoemhaaGreatDoor
open Go.RowKit Go.Deep
theorem add_full {O Or:Nat->Prop} {b r:Nat} {hs:Hs} {R:Rg} {w:World} {s:Sg} (h:AddPre w O Or b r hs R s) (hok:ValidP R s) {x:En} (hx:rdF s.text=(x,0)) (ha:x.author=s.key) (hi:(idxF hs s.mark).isSome=false) (hall:(downF hs x.knows).2=true) (href:refB hs x (downF hs x.knows).1=true):Calls Tryz.prog 56 #[.pointer (some ⟨b,0,none⟩),.agg #[.int .i64 s.key,.string ⟨s.text.toArray⟩,.int .i64 s.mark]] w (AddPost R O b r hs s w):=by
 have HP:=hid h
 obtain ⟨D,v,mb,l,L,H,hL⟩:=h.his
 have hkw:(Lit.int .i64 s.key).wf=true:=iwf h.key
 have hmw:(Lit.int .i64 s.mark).wf=true:=iwf h.mark
 obtain ⟨W0,hW0⟩:∃ W0,W0=w.alloc (.cells #[.int .i64 s.key,.string ⟨s.text.toArray⟩,.int .i64 s.mark] 49 (0,0)):=⟨_,rfl⟩
 have u0:Upd (fun _=>False) w W0:=by rw [hW0];exact (Upd.refl _ _).alloc _
 have hb0:W0.heap[w.heap.size]? = some (.cells #[.int .i64 s.key,.string ⟨s.text.toArray⟩,.int .i64 s.mark] 49 (0,0)):=by rw [hW0];exact heap_alloc_new
 obtain ⟨b0,b1,b2,bf⟩:=cells3 hb0
 have H0:=H.upd u0 fun _ _=>id
 obtain ⟨c0,d1,d2,cf⟩:=cells3 H0.head
 have HW:=hid H
 have HW0:=hid hW0;have U0:=hid u0;have HH:=hid H0;have HB0:=hid hb0;have HL:=hid hL
 have hv:=fun p:UW W0=>valid_ring (h.gnd.ring.upd (u0.trans p.u) fun _ _=>id) s hkw h.text
 clear hW0 u0 hb0 H0 H hL h
 rw [decide_eq_true hok] at hv
 have hwf:EnWf x:=by have:=rd_wf (s:=s.text) (Nat.le_trans HP.out.text (by decide));rw [hx] at this;exact this
 have hrw:(Lit.int .i64 x.ref).wf=true:=iwf hwf.ref
 have hlen:¬4000<=hs.length:=by have:=HP.out.room;omega
 have FIN:=hid (show addF rdF R hs s=(hs++[⟨s,x,levelF hs x.knows,(downF hs x.knows).1⟩],0) by
  unfold addF;rw [if_neg (fun q=>q hok),hx];dsimp only;rw [if_neg (by rintro (c | c);exact c rfl;exact c ha),if_neg (by rw [hi];decide),if_neg (by rw [hall];decide),if_neg (by rw [href];decide),if_neg hlen])
 have HI:=hid hi;have HALL:=hid hall;have HREF:=hid href;have WF:=hid hwf
 have t1:(x.author != s.key)=false:=bne_eq_false_iff_eq.2 ha
 have HOK:=hid hok
 clear hok ha hi hall hwf hlen href
 go_enter Tryz.func56,Tryz.ntmps56
 go_upto_region 1 with (fail)
 rw [<-HW0.out]
 have e0:=fun p:UW W0=>p.cell c0;have f0:=fun p:UW W0=>p.cell b0;have f1:=fun p:UW W0=>p.cell b1;have f2:=fun p:UW W0=>p.cell b2
 refine region_upd (by kernel_rfl) (by kernel_rfl) ?_
 repeat (go_big_quiet_step ((go_at_call 33;exact Calls.upd_of (hv _))))
 refine wpQuiet_nil ?_
 intro _ hw1
 refine uw_out hw1 ?_
 rintro w1 u1 e
 obtain rfl:=e.symm
 clear e hw1
 have U1:=hid (U0.out.trans u1)
 have hb1:=(u1.block _ (heap_lt HB0.out) id).trans HB0.out
 obtain ⟨k0,k1,k2,kf⟩:=cells3 hb1
 have HB1:=hid hb1
 clear e0 f0 f1 f2 hv b0 b1 b2 bf c0 d1 d2 cf hb1 u1
 go_wp2_with fail
 have G1:=HP.out.gnd.keep U1.out
 refine (read_x G1.env G1.uses G1.six (Nat.le_trans HP.out.text (by decide)) hx).mono ?_
 rintro en x2 ⟨a1,a2,a3,c1,c2,c3,rfl,hrep,u⟩
 obtain ⟨W3,hW3⟩:∃ W3,W3=x2.alloc (.cells #[.int .i64 x.author,.int .i64 x.seq,.int .i64 x.day,.slice a1 x.knows.length c1,.int .i64 x.kind,.int .i64 x.circle,.int .i64 x.who,.int .i64 x.n,.int .i64 x.m,.int .i64 x.ref,.slice a2 x.keys.length c2,.slice a3 x.spans.length c3,.string ⟨x.text.toArray⟩] 72 (0,0)):=⟨_,rfl⟩
 have u3:Upd (fun _=>False) x2 W3:=by rw [hW3];exact (Upd.refl _ _).alloc _
 have hb3:W3.heap[x2.heap.size]? = some (.cells (en13 x a1 a2 a3 c1 c2 c3) 72 (0,0)):=by rw [hW3];exact heap_alloc_new
 have U3:=hid (U1.out.trans (u.trans u3))
 have REP:=hid (hrep.keep u3)
 have HS2:=hid (show w1.heap.size<=x2.heap.size from u.size)
 have HBS:=hid (((u.trans u3).block _ (heap_lt HB1.out) id).trans HB1.out)
 have HBE:=hid hb3;have HW3:=hid hW3
 obtain ⟨k0,k1,k2,kf⟩:=cells3 HBS.out
 obtain ⟨e0,e1,e2,e3,e4,e5,e6,e7,e8,e9,e10,e11,e12⟩:=cells13 hb3
 have hx2l:=heap_lt hb3
 clear HB1 hW3 hb3 u u3 hrep G1
 go_upto_region 4 with (fail)
 rw [<-HW3.out]
 clear HW3
 go_wp2_with fail
 refine (hhas_any (HP.out.his.keep U3.out) s.mark hmw).mono ?_
 rintro e w' ⟨rfl,rfl⟩
 rw [HI.out]
 go_wp2_with fail
 refine (down_any (HP.out.his.keep U3.out) _ _ x.knows REP.out.knows).mono ?_
 rintro e x4 ⟨pv,rfl,nb,u4⟩
 rw [HALL.out]
 have NB:=hid nb
 have U4:=hid (U3.out.trans u4);have UD:=hid u4
 have HBS4:=hid ((u4.block _ (heap_lt HBS.out) id).trans HBS.out)
 have HBE4:=hid ((u4.block _ (heap_lt HBE.out) id).trans HBE.out)
 clear k0 k1 k2 kf e0 e1 e2 e3 e4 e5 e6 e7 e8 e9 e10 e11 e12 nb u4
 obtain ⟨k0,k1,k2,kf⟩:=cells3 HBS4.out
 obtain ⟨e0,e1,e2,e3,e4,e5,e6,e7,e8,e9,e10,e11,e12⟩:=cells13 HBE4.out
 have H4:=HW.out.upd U4.out fun _ _=>id
 have HH4:=hid H4
 clear H4
 obtain ⟨bb,hbb⟩:∃ bb,((x.ref != -1) && (x.kind != 8))=bb:=⟨_,rfl⟩
 have HBB:=hid hbb
 clear hbb
 go_upto_region 11 with (fail)
 go_cut [56] (fun s56 wx=>s56=.bool bb/\x4=wx)
 case first =>
  as_aux_lemma =>
  by_cases h1:x.ref=-1
  · have t2:(x.ref != -1)=false:=bne_eq_false_iff_eq.2 h1
    obtain rfl:bb=false:=by rw [<-HBB.out,t2];rfl
    clear h1
    go_wp2_with fail
    go_meet
    case rel=>exact ⟨rfl,rfl⟩
  have t2:(x.ref != -1)=true:=bne_iff_ne.2 h1
  by_cases h2:x.kind=8
  · have t3:(x.kind != 8)=false:=bne_eq_false_iff_eq.2 h2
    obtain rfl:bb=false:=by rw [<-HBB.out,t3,Bool.and_false]
    clear h1 h2
    go_wp2_with fail
    go_meet
    case rel=>exact ⟨rfl,rfl⟩
  have t3:(x.kind != 8)=true:=bne_iff_ne.2 h2
  obtain rfl:bb=true:=by rw [<-HBB.out,t2,t3];rfl
  clear h1 h2
  go_wp2_with fail
  go_meet
  case rel=>exact ⟨rfl,rfl⟩
 case rest =>
 obtain ⟨rfl,rfl⟩:=hcut
 go_upto_if 56 with (fail)
 go_cut [] (fun wx=>Upd (fun _=>False) x4 wx)
 case first =>
  as_aux_lemma =>
  cases bb with
  | false =>
    go_wp2_with fail
    go_meet
    case rel=>exact Upd.refl _ _
  | true =>
  have h12:=HBB.out
  rw [Bool.and_eq_true] at h12
  have h1:=bne_iff_ne.1 h12.1
  have h2:=bne_iff_ne.1 h12.2
  clear h12
  have hr:=HREF.out
  unfold refB at hr
  rw [beq_eq_false_iff_ne.2 h1,beq_eq_false_iff_ne.2 h2,Bool.false_or,Bool.false_or] at hr
  cases hir:idxF hs x.ref with
  | none=>rw [hir] at hr;cases hr
  | some i =>
    rw [hir] at hr
    have HPI:=hid (show (downF hs x.knows).1 i=true from hr)
    have HIR:=hid (show idxF (L.map NdC.n) x.ref=some i by rw [HL.out];exact hir)
    have h64:=(HW.out.idx HIR.out).2
    clear hr hir h1 h2
    obtain ⟨c0,d1,d2,cf⟩:=cells3 HH4.out.head
    go_upto_region 12 with (fail)
    have f0:=fun p:UW x4=>p.cell d2;have f1:=fun p:UW x4=>p.cell e9
    have q:=fun p:UW x4=>(HH4.out.upd p.u fun _ _=>id).look_yes hrw HIR.out
    refine region_upd (by kernel_rfl) (by kernel_rfl) ?_
    repeat (go_big_quiet_step (fail))
    refine wpQuiet_nil ?_
    intro _ hw1
    refine uw_out hw1 ?_
    rintro w5 u1 e
    obtain rfl:=e.symm
    clear e hw1
    have U5:=hid (U4.out.trans u1);have UE:=hid u1
    clear f0 f1 q c0 d1 d2 cf k0 k1 k2 kf e0 e1 e2 e3 e4 e5 e6 e7 e8 e9 e10 e11 e12 u1
    obtain ⟨z,hz,hzp⟩:=NB.out.bits
    have HT:=hid (test_any pv z i w5 (hz.upd UE.out fun _ _=>id) h64)
    have HTI:=hid ((hzp i).trans HPI.out)
    clear hz hzp
    go_wp2_with fail
    refine HT.out.mono ?_
    rintro e w' ⟨rfl,rfl⟩
    rw [HTI.out]
    go_wp2_with fail
    go_meet
    case rel=>exact UE.out
 case rest =>
  as_aux_lemma =>
  have U5:=hid (U4.out.trans hcut)
  have H5:=HH4.out.upd hcut fun _ _=>id
  have hbs5:=(hcut.block _ (heap_lt HBS4.out) id).trans HBS4.out
  have hbe5:=(hcut.block _ (heap_lt HBE4.out) id).trans HBE4.out
  have REP5:=hid ((REP.out.keep UD.out).keep hcut)
  have HR:=hid H5.row
  obtain ⟨nb,ncap,rfl,hn1,hn2⟩:=own_slice H5.row
  have hn2:ncap<=9223372036854775807:=hn2
  obtain ⟨z,hz,hzp⟩:=NB.out.bits
  obtain ⟨pa,pn,pc,rfl⟩:=bits_slice hz
  have HZ:=hid (hz.upd hcut fun _ _=>id);have HZP:=hid hzp
  have hLl:=HP.out.room
  rw [<-HL.out,List.length_map] at hLl
  have r0:decide ((4000:Int)<=(L.length:Int))=false:=decide_eq_false (by omega)
  have r1:decide (4000<=L.length)=false:=decide_eq_false (by omega)
  have HH5:=hid H5;have HBS5:=hid hbs5;have HBE5:=hid hbe5;have HC:=hid hcut;have HLL:=hid hLl
  obtain ⟨c0,d1,d2,cf⟩:=cells3 H5.head
  obtain ⟨k0,k1,k2,kf⟩:=cells3 hbs5
  have hbl:=heap_lt H5.head
  obtain ⟨P5,hP5⟩:∃ n,n=wc.heap.size:=⟨_,rfl⟩
  obtain ⟨cz,hcz⟩:∃ cz:Nat->NdC,cz=fun lv=>⟨⟨s,x,lv,(downF hs x.knows).1⟩,a1,a2,a3,c1,c2,c3,pa,pn,pc,z⟩:=⟨_,rfl⟩
  obtain ⟨W5,hW5⟩:∃ W5,W5=wc.alloc (.cells (cz 0).cells.toArray 136 (0,0)):=⟨_,rfl⟩
  have hbn:W5.heap[wc.heap.size]? = some (.cells (cz 0).cells.toArray 136 (0,0)):=by rw [hW5];exact heap_alloc_new
  have u6:Upd (fun _=>False) wc W5:=by rw [hW5];exact (Upd.refl _ _).alloc _
  have HW5:=hid hW5;have HBN:=hid hbn;have U6:=hid u6;have HCZ:=hid hcz;have HP5:=hid hP5
  have hbuild:=node_build ⟨s,x,0,(downF hs x.knows).1⟩ rfl a1 a2 a3 c1 c2 c3 pa pn pc z wc
  rw [show (⟨⟨s,x,0,(downF hs x.knows).1⟩,a1,a2,a3,c1,c2,c3,pa,pn,pc,z⟩:NdC)=cz 0 by rw [hcz]] at hbuild
  have HBLD:=hid hbuild
  clear e0 e1 e2 e3 e4 e5 e6 e7 e8 e9 e10 e11 e12 hcut H5 hbs5 hbe5 hz hzp hLl hW5 hbn u6 hcz hP5 hbuild
  go_upto_region 17 with (fail)
  refine wp_region_lit ?_
  refine op_load rfl _ _ rfl rfl (sg_load k0 k1 k2) ?_
  (try go_frame)
  refine op_load rfl _ _ rfl rfl (en_load HBE5.out) ?_
  (try go_frame)
  refine op_move rfl _ rfl rfl ?_
  (try go_frame)
  refine op_build rfl _ _ rfl rfl HBLD.out ?_
  (try go_frame)
  refine op_alloc rfl _ rfl (node_alloc _) ?_
  (try go_frame)
  refine op_store rfl _ _ _ rfl rfl rfl (node_store _ _) ?_
  (try go_frame)
  rw [<-HW5.out]
  refine wpList_nil ?_
  (try go_frame)
  have w0:=HBE5.out
  obtain ⟨e0,e1,e2,e3,e4,e5,e6,e7,e8,e9,e10,e11,e12⟩:=cells13 ((U6.out.block _ (heap_lt w0) id).trans w0)
  obtain ⟨al,acap,q1,q2,q3,q4⟩:=slice_open REP5.out.knows
  cases q1
  have q3:c1<=9223372036854775807:=q3
  have Q4:=hid q4
  clear w0 q4 c0 d1 d2 cf k0 k1 k2 kf e0 e1 e2 e4 e5 e6 e7 e8 e9 e10 e11 e12
  go_upto_region 19 with (fail)
  clear e3
  have hwcl:wc.heap.size<W5.heap.size:=heap_lt HBN.out
  go_loopg [88] x.knows.length (fun gg s88 wr=>∃ k:Nat,k<=x.knows.length/\gg=x.knows.length-k/\s88=.int .i64 k/\wr.heap[wc.heap.size]? = some (.cells (cz (levelTo hs x.knows k)).cells.toArray 136 (0,0))/\Upd (fun _=>False) wc wr)
  case atStart=>exact ⟨0,Nat.zero_le _,rfl,rfl,HBN.out,U6.out⟩
  case round =>
   obtain ⟨k,hk,hg,rfl,hnb,u⟩:=hrel
   have UU:=hid u;have HG:=hid hg;have HNB:=hid hnb
   have HHr:=HH5.out.upd u fun _ _=>id
   have HHD:=hid HHr
   obtain ⟨c0,d1,d2,cf⟩:=cells3 HHr.head
   by_cases hlt:k<x.knows.length
   case neg =>
    as_aux_lemma =>
    have hke:k=x.knows.length:=by omega
    have hlti:¬(k:Int)<x.knows.length:=by omega
    rw [hke,levelTo_all] at hnb
    obtain ⟨c,hc⟩:∃ c,cz (levelF hs x.knows)=c:=⟨_,rfl⟩
    rw [hc] at hnb
    have hcn:c.n=⟨s,x,levelF hs x.knows,(downF hs x.knows).1⟩:=by rw [<-hc,HCZ.out]
    have hcx:c.x=z/\c.pv=.slice pa pn pc/\c.a1=a1/\c.a2=a2/\c.a3=a3/\c.c1=c1/\c.c2=c2/\c.c3=c3:=by rw [<-hc,HCZ.out];exact ⟨rfl,rfl,rfl,rfl,rfl,rfl,rfl,rfl⟩
    have hLL:=HLL.out
    have hlen:=map_few HHr
    have hbs:=(u.block _ (heap_lt HBS5.out) id).trans HBS5.out
    obtain ⟨w6,r6,m6,u6⟩:=(HHr.map.upd (Upd.refl (fun _=>False) wr).drew id).put Tryz.underlying3 Tryz.underlying129 (by unfold maxLen;omega) hmw (.int .i64 L.length)
    have hap:=HHr.apart.1
    have hne:=HHr.ne
    have hd6:=(u6.block b (heap_lt HHr.head) hne).trans HHr.head
    have hbn6:=(u6.block _ (heap_lt hnb) (fun e=>by have h1:=(HW.out.lt mb HW.out.own.2.1).2;have h2:=U5.out.size;omega)).trans hnb
    have hr6:=ownsRow_upd HHr.row.drew u6 fun g hg=>(hap g hg).2.1
    obtain ⟨v',w8,r8,o8,u8,n8⟩:=append_one elemNode (w:=w6.drew) hr6.drew c.cells.toArray (by simp [NdC.len]) (cells_one c) (by unfold maxLen;omega) (by omega) (Nat.zero_le _) 128 (0,0)
    obtain ⟨n1,hn1⟩:∃ n1,L.length+1=n1:=⟨_,rfl⟩
    rw [hn1] at o8
    obtain ⟨a',c',rfl,hc1',hc2'⟩:=own_slice o8
    have hc2':c'<=9223372036854775807:=hc2'
    have hd8:=(u8.block b (heap_lt hd6) fun q=>(hap b q).1 rfl).trans hd6
    have HNV:=hid (show ¬Value.ownBlock (.slice nb L.length ncap)=some wc.heap.size from fun e=>by have h1:=(HW.out.lt _ (HW.out.own.2.2.1 _ e)).2;have h2:=U5.out.size;omega)
    have o9:w8.ownsRow 0 136 18 (.slice a' n1 c') (L.length+1) (ndFlat L++c.cells):=by rw [hn1];exact o8
    have hs1:=U3.out.size;have hs2:=UD.out.size;have hs3:=HC.out.size;have hs4:=u.size;have hs5:=U1.out.size;have hs6:=HS2.out
    have hnd:NdOk wr (fun k=>w.heap.size<=k/\k<wr.heap.size) c:=by
     rw [<-hc,HCZ.out]
     exact add_node HP.out HOK.out hx HALL.out ((REP5.out.keep u).wide fun g hg=>⟨by omega,by omega⟩) (HZ.out.upd u fun _ _=>id) HZP.out fun g hg=>⟨by have:=NB.out.new g hg;omega,by have:=NB.out.lt g hg;omega⟩
    have u68:=(Upd.refl (· = mb) wr).drew.trans u6
    have u80:=(Upd.refl _ w6).drew.trans u8
    have m9:MapIs Tryz.prog 3 w6 mb (putM l c.n.sg.mark (.int .i64 L.length)):=by rw [hcn];exact m6
    have hnw:idxF hs c.n.mark=none:=by rw [hcn];exact Option.not_isSome_iff_eq_none.1 (by rw [show (⟨s,x,levelF hs x.knows,(downF hs x.knows).1⟩:Nd).mark=s.mark from rfl,HI.out];decide)
    have n9:=n8.imp id fun ⟨g,e,q⟩=>(⟨g,e,Nat.le_of_lt q⟩:∃ g,Value.ownBlock (.slice a' n1 c')=some g/\w6.heap.size<=g)
    have FIN2:=hid (show ∀ wz:World,wz.heap[b]? = some (.cells #[.pointer (some ⟨r,0,none⟩),.slice a' n1 c',.map (some mb)] 131 (0,0))->Upd (· = b) w8 wz->AddPost R O b r hs s w (.returned (.int .i64 0)) wz from fun wz hz uz=>add_done FIN.out (by
     have q:=add_fin HW.out HL.out (U5.out.trans u) hnd hnw HLL.out u68 m9 o9 u80 n9 hz uz
     rw [hcn] at q
     exact q))
    have HZ9:=hid (show (w8.setCell ⟨b,1,none⟩ (.slice a' n1 c')).heap[b]? = some (.cells #[.pointer (some ⟨r,0,none⟩),.slice a' n1 c',.map (some mb)] 131 (0,0)) from heap_setCell_same (p:=⟨b,1,none⟩) rfl hd8)
    have UZ9:=hid (show Upd (· = b) w8 (w8.setCell ⟨b,1,none⟩ (.slice a' n1 c')) from (Upd.refl _ _).setCell _ _ (.inl rfl))
    clear o9 hs1 hs2 hs3 hs4 hs5 hs6 hnd u68 u80 m9 hnw n9
    obtain ⟨t0,t1',t2',tf⟩:=cells3 hbs
    obtain ⟨x0,x1,x2',xf⟩:=cells3 hd6
    obtain ⟨y0,y1,y2,yf⟩:=cells3 hd8
    have hbl6:=heap_lt hd6
    have hnl6:=heap_lt hbn6
    have HNA:=hid (node_at hbn6)
    have HN8:=hid (NodeAt.keep (w:=w6.drew) (S:=fun k=>Value.ownBlock (.slice nb L.length ncap)=some k) ((node_at hbn6).keep ((Upd.refl (fun _=>False) w6).drew) id) u8 HNV.out)
    have HN1:=hid hn1
    clear hnb hc hcn hcx hlen hbs m6 u6 hap hne hd6 hbn6 hr6 o8 u8 n8 hd8 hn1 hke HHr u hg hwcl hLL
    go_upto_region 23 with (fail)
    refine wp_region_g (fun w'=>w'.cell? ⟨b,1,none⟩=some (.slice nb L.length ncap)/\w'.cell? ⟨b,2,none⟩=some (.map (some mb))/\w'.cell? ⟨w.heap.size,2,none⟩=some (.int .i64 s.mark)) 11 (by kernel_rfl) ?_
    obtain ⟨wd,hwd⟩:∃ wd,wr.drew=wd:=⟨_,rfl⟩
    have hS:wd.cell? ⟨b,1,none⟩=some (.slice nb L.length ncap)/\wd.cell? ⟨b,2,none⟩=some (.map (some mb))/\wd.cell? ⟨w.heap.size,2,none⟩=some (.int .i64 s.mark):=by rw [<-hwd];exact ⟨d1,d2,t2'⟩
    rw [hwd] at r6 ⊢
    clear hwd c0 d1 d2 cf t0 t1' t2' tf
    refine g_take0 (i:=0) rfl (by kernel_rfl) (by kernel_rfl) (by kernel_rfl) (by decide) (fun _ _ _ h=>h) (yields_move (by kernel_rfl) _ rfl rfl) (fun _=>hS) ?_
    (try simp only [List.getElem_toArray,List.getElem_cons_zero])
    (try go_frame)
    refine g_take0 (i:=1) rfl (by kernel_rfl) (by kernel_rfl) (by kernel_rfl) (by decide) (fun _ _ _ h=>h) (yields_nilp (by kernel_rfl) _ rfl rfl) (fun _=>hS) ?_
    (try simp only [List.getElem_toArray,List.getElem_cons_zero,List.getElem_cons_succ])
    (try go_frame)
    refine g_take0 (i:=2) rfl (by kernel_rfl) (by kernel_rfl) (by kernel_rfl) (by decide) (fun _ _ _ h=>h) (yields_field (by kernel_rfl) _ _ _ rfl rfl (fun w _=>his_field2 _ w)) (fun _=>hS) ?_
    (try simp only [List.getElem_toArray,List.getElem_cons_zero,List.getElem_cons_succ])
    (try go_frame)
    refine g_take (i:=3) rfl (by kernel_rfl) (by kernel_rfl) (by kernel_rfl) (by kernel_rfl) (fun _ _ _ h=>h) (yields_load (by kernel_rfl) _ _ rfl rfl (fun w hw=>map_load hw.2.1)) hS ?_
    (try simp only [List.getElem_toArray,List.getElem_cons_zero,List.getElem_cons_succ])
    (try go_frame)
    refine g_take0 (i:=4) rfl (by kernel_rfl) (by kernel_rfl) (by kernel_rfl) (by decide) (fun _ _ _ h=>h) (yields_field (by kernel_rfl) _ _ _ rfl rfl (fun w _=>sg_field2 _ w)) (fun _=>hS) ?_
    (try simp only [List.getElem_toArray,List.getElem_cons_zero,List.getElem_cons_succ])
    (try go_frame)
    refine g_take (i:=5) rfl (by kernel_rfl) (by kernel_rfl) (by kernel_rfl) (by kernel_rfl) (fun _ _ _ h=>h) (yields_load (by kernel_rfl) _ _ rfl rfl (fun w hw=>intl_load hw.2.2)) hS ?_
    (try simp only [List.getElem_toArray,List.getElem_cons_zero,List.getElem_cons_succ])
    (try go_frame)
    refine g_take0 (i:=6) rfl (by kernel_rfl) (by kernel_rfl) (by kernel_rfl) (by decide) (fun _ _ _ h=>h) (yields_move (by kernel_rfl) _ rfl rfl) (fun _=>hS) ?_
    (try simp only [List.getElem_toArray,List.getElem_cons_zero,List.getElem_cons_succ])
    (try go_frame)
    refine g_take0 (i:=7) rfl (by kernel_rfl) (by kernel_rfl) (by kernel_rfl) (by decide) (fun _ _ _ h=>h) (yields_nilp (by kernel_rfl) _ rfl rfl) (fun _=>hS) ?_
    (try simp only [List.getElem_toArray,List.getElem_cons_zero,List.getElem_cons_succ])
    (try go_frame)
    refine g_take0 (i:=8) rfl (by kernel_rfl) (by kernel_rfl) (by kernel_rfl) (by decide) (fun _ _ _ h=>h) (yields_field (by kernel_rfl) _ _ _ rfl rfl (fun w _=>his_field1 _ w)) (fun _=>hS) ?_
    (try simp only [List.getElem_toArray,List.getElem_cons_zero,List.getElem_cons_succ])
    (try go_frame)
    refine g_take (i:=9) rfl (by kernel_rfl) (by kernel_rfl) (by kernel_rfl) (by kernel_rfl) (fun _ _ _ h=>h) (yields_load (by kernel_rfl) _ _ rfl rfl (fun w hw=>nodes_load hw.1)) hS ?_
    (try simp only [List.getElem_toArray,List.getElem_cons_zero,List.getElem_cons_succ])
    (try go_frame)
    refine g_op (i:=10) (by kernel_rfl) rfl ?_
    go_wp2_with fail
    try with_reducible refine And.intro (fun _=>hS) ?_
    refine g_op (i:=11) (by kernel_rfl) rfl ?_
    go_wp2_with fail
    try with_reducible refine And.intro (fun h=>absurd h (by simp)) ?_
    refine g_done (by kernel_rfl) ?_
    clear hS r6
    go_upto_region 24 with (fail)
    refine wp_region_g (fun w'=>w'.cell? ⟨b,1,none⟩=some (.slice nb L.length ncap)/\NodeAt w' wc.heap.size 0 c) 10 (by kernel_rfl) ?_
    have hS:w6.drew.cell? ⟨b,1,none⟩=some (.slice nb L.length ncap)/\NodeAt w6.drew wc.heap.size 0 c:=⟨x1,HNA.out.keep ((Upd.refl (fun _=>False) w6).drew) id⟩
    clear x0 x1 x2' xf
    refine g_take0 (i:=0) rfl (by kernel_rfl) (by kernel_rfl) (by kernel_rfl) (by decide) (fun _ _ _ h=>h) (yields_move (by kernel_rfl) _ rfl rfl) (fun _=>hS) ?_
    (try simp only [List.getElem_toArray,List.getElem_cons_zero])
    (try go_frame)
    refine g_take0 (i:=1) rfl (by kernel_rfl) (by kernel_rfl) (by kernel_rfl) (by decide) (fun _ _ _ h=>h) (yields_move (by kernel_rfl) _ rfl rfl) (fun _=>hS) ?_
    (try simp only [List.getElem_toArray,List.getElem_cons_zero,List.getElem_cons_succ])
    (try go_frame)
    refine g_take0 (i:=2) rfl (by kernel_rfl) (by kernel_rfl) (by kernel_rfl) (by decide) (fun _ _ _ h=>h) (yields_nilp (by kernel_rfl) _ rfl rfl) (fun _=>hS) ?_
    (try simp only [List.getElem_toArray,List.getElem_cons_zero,List.getElem_cons_succ])
    (try go_frame)
    refine g_take0 (i:=3) rfl (by kernel_rfl) (by kernel_rfl) (by kernel_rfl) (by decide) (fun _ _ _ h=>h) (yields_field (by kernel_rfl) _ _ _ rfl rfl (fun w _=>his_field1 _ w)) (fun _=>hS) ?_
    (try simp only [List.getElem_toArray,List.getElem_cons_zero,List.getElem_cons_succ])
    (try go_frame)
    refine g_take (i:=4) rfl (by kernel_rfl) (by kernel_rfl) (by kernel_rfl) (by kernel_rfl) (fun _ _ _ h=>h) (yields_load (by kernel_rfl) _ _ rfl rfl (fun w hw=>nodes_load hw.1)) hS ?_
    (try simp only [List.getElem_toArray,List.getElem_cons_zero,List.getElem_cons_succ])
    (try go_frame)
    refine g_take (i:=5) rfl (by kernel_rfl) (by kernel_rfl) (by kernel_rfl) (by kernel_rfl) (fun _ _ _ h=>h) (yields_load (by kernel_rfl) _ _ rfl rfl (fun w hw=>node_load hw.2)) hS ?_
    (try simp only [List.getElem_toArray,List.getElem_cons_zero,List.getElem_cons_succ])
    (try go_frame)
    have hSA:(w6.drew.alloc (.cells c.cells.toArray 136 (0,0))).cell? ⟨b,1,none⟩=some (.slice nb L.length ncap)/\NodeAt (w6.drew.alloc (.cells c.cells.toArray 136 (0,0))) wc.heap.size 0 c:=⟨cell_kept hS.1 (heap_alloc_old hbl6),HNA.out.keep (((Upd.refl (fun _=>False) w6).drew).alloc _) id⟩
    refine g_op (i:=6) (by kernel_rfl) rfl ?_
    refine op_buildSlice rfl _ _ _ rfl (vs:=[(0,.agg c.cells.toArray)]) rfl (node_slice c _) ?_
    refine then_nil ⟨fun _=>hSA,?_⟩
    (try simp only [List.getElem_toArray,List.getElem_cons_zero,List.getElem_cons_succ])
    (try go_frame)
    refine g_op (i:=7) (by kernel_rfl) rfl ?_
    refine wpList_append_run rfl _ _ _ _ rfl rfl rfl r8 ?_
    refine then_nil ⟨fun _=>⟨y1,HN8.out⟩,?_⟩
    (try simp only [List.getElem_toArray,List.getElem_cons_zero,List.getElem_cons_succ])
    (try go_frame)
    refine g_op (i:=8) (by kernel_rfl) rfl ?_
    refine op_nilp rfl _ rfl rfl ?_
    refine then_nil ⟨fun _=>⟨y1,HN8.out⟩,?_⟩
    (try simp only [List.getElem_toArray,List.getElem_cons_zero,List.getElem_cons_succ])
    (try go_frame)
    refine g_op (i:=9) (by kernel_rfl) rfl ?_
    refine op_field rfl _ _ _ rfl rfl (his_field1 _ _) ?_
    refine then_nil ⟨fun _=>⟨y1,HN8.out⟩,?_⟩
    (try simp only [List.getElem_toArray,List.getElem_cons_zero,List.getElem_cons_succ])
    (try go_frame)
    refine g_op (i:=10) (by kernel_rfl) rfl ?_
    refine op_store rfl _ _ _ rfl rfl rfl (nodes_store y1 (yf 1)) ?_
    refine then_nil ⟨fun h=>absurd h (by simp),?_⟩
    (try simp only [List.getElem_toArray,List.getElem_cons_zero,List.getElem_cons_succ])
    (try go_frame)
    refine g_done (by kernel_rfl) ?_
    go_wp2_with fail
    go_ret
    refine FIN2.out _ ?_ ?_
    · with_reducible exact HZ9.out
    · first | with_reducible exact UZ9.out | with_reducible exact UZ9.out.drew
   as_aux_lemma =>
   have hlti:(k:Int)<x.knows.length:=by omega
   obtain ⟨kb,ko,rfl,hkb,hel⟩:=Q4.out (by omega)
   have m0:=int_cells hel hlt
   have hkl:=World.block_lt_of_cell? _ _ m0
   have m0:=cell_kept m0 (u.block kb hkl id)
   have hkl2:kb<wr.heap.size:=Nat.lt_of_lt_of_le hkl u.size
   have hmw2:(Lit.int .i64 x.knows[k]).wf=true:=iwf (WF.out.knows.2 _ (List.getElem_mem hlt))
   obtain ⟨i,hi⟩:=Option.isSome_iff_exists.1 ((downF_all hs x.knows).1 HALL.out _ (List.getElem_mem hlt))
   have hi2:idxF (L.map NdC.n) x.knows[k]=some i:=by rw [HL.out];exact hi
   obtain ⟨hil,h64⟩:=HHr.idx hi2
   obtain ⟨c,hc⟩:∃ c,L[i]? = some c:=⟨_,List.getElem?_eq_getElem hil⟩
   obtain ⟨g,cap,e1,g1,g2,hgl,hn⟩:=HHr.node (Nat.lt_of_le_of_lt (Nat.zero_le _) hil)
   cases e1
   obtain ⟨n0,n1,n2,n3,n4,n5,n6,n7,n8,n9,n10,n11,n12,n13,n14,n15,n16,n17⟩:=hn i c hc
   have hget:=(HHr.upd (Upd.refl (fun _=>False) wr).drew fun _ _=>id).map.get Tryz.underlying3 Tryz.underlying129 (zeroI _) hmw2
   rw [HHr.look,hi2] at hget
   dsimp only [Option.map_some,Option.getD_some] at hget
   have hlv:levelAt hs i=c.n.level:=by rw [<-HL.out];unfold levelAt;rw [HHr.nd hc]
   have HS:=hid (levelTo_succ hlt hi)
   have HLV:=hid hlv
   have hb16:c.n.level<=100:=(HHr.nodes c (List.mem_of_getElem? hc)).level
   have hlb:levelTo hs x.knows k<=64:=Nat.le_trans (levelTo_le ((downF_all hs x.knows).1 HALL.out) k) (Nat.le_trans (levelF_bound HP.out.plain x.knows ((downF_all hs x.knows).1 HALL.out)) (Nat.le_of_lt HP.out.room))
   obtain ⟨lv,hlvd⟩:∃ lv,levelTo hs x.knows k=lv:=⟨_,rfl⟩
   rw [hlvd] at hnb hlb
   have p16:wr.cell? ⟨wc.heap.size,16,none⟩=some (.int .i64 lv):=by rw [cell_of_block hnb,HCZ.out];rfl
   have pf:∀ o,wr.frozen? ⟨wc.heap.size,o,none⟩=false:=fun _=>frozen_of_block hnb
   have hpl:=heap_lt hnb
   have HLVD:=hid hlvd
   have HNB2:=hid hnb
   obtain ⟨m,hme⟩:∃ m,x.knows[k]=m:=⟨_,rfl⟩
   rw [hme] at m0 hget
   have lb1:(c.n.level:Int)+1<=200:=by omega
   clear n0 n1 n2 n3 n4 n5 n6 n7 n8 n9 n10 n11 n12 n13 n14 n15 n17 hn hc hi hi2 hlv hlvd hnb HHr u hg hme hmw2 hel hkb hkl hwcl
   go_upto_region 21 with (fail)
   go_region
   all_goals
    go_wp2_with fail
    go_roundg (x.knows.length-(k+1))
    case measure=>have:=HG.out;omega
    case rel =>
     refine ⟨k+1,by omega,rfl,by go_num,?_,(UU.out.setCell _ _ (.inr (Nat.le_refl _))).drew⟩
     have h1:=heap_setCell_same (p:=⟨wc.heap.size,16,none⟩) (u:=.int .i64 (max (lv:Int) (c.n.level+1))) rfl HNB2.out
     show (wr.setCell ⟨wc.heap.size,16,none⟩ (.int .i64 (max (lv:Int) (c.n.level+1)))).heap[wc.heap.size]? = _
     rw [h1,HS.out,HLV.out,HLVD.out,HCZ.out,show (max (lv:Int) (c.n.level+1))=((max lv (c.n.level+1):Nat):Int) by omega,level_set]
end Go.Proofs.YtjkmalddfoemhaaGreatDoor
namespace Go.Proofs.YtjkmalddfoemhaaGreatDoor
open Go.RowKit Go.Deep
theorem add_any {O Or:Nat->Prop} {b r:Nat} {hs:Hs} {R:Rg} {w:World} {s:Sg} (h:AddPre w O Or b r hs R s):Calls Tryz.prog 56 #[.pointer (some ⟨b,0,none⟩),.agg #[.int .i64 s.key,.string ⟨s.text.toArray⟩,.int .i64 s.mark]] w (AddPost R O b r hs s w):=by
 by_cases hok:ValidP R s
 case neg=>exact add_seal h hok
 rcases hx:rdF s.text with ⟨x,y⟩
 by_cases hy:y≠0\/x.author≠s.key
 · exact add_form h hok hx hy
 obtain rfl:y=0:=Decidable.byContradiction fun q=>hy (.inl q)
 have ha:x.author=s.key:=Decidable.byContradiction fun q=>hy (.inr q)
 cases hi:(idxF hs s.mark).isSome with
 | true=>exact add_has h hok hx ha hi
 | false =>
   cases hall:(downF hs x.knows).2 with
   | false=>exact add_miss h hok hx ha hi hall
   | true =>
     cases href:refB hs x (downF hs x.knows).1 with
     | true=>exact add_full h hok hx ha hi hall href
     | false =>
       have h1:x.ref≠-1:=fun e=>by unfold refB at href;rw [e] at href;simp at href
       have h2:x.kind≠8:=fun e=>by unfold refB at href;rw [e] at href;simp at href
       cases hir:idxF hs x.ref with
       | none=>exact add_ref1 h hok hx ha hi hall h1 h2 hir
       | some i =>
         refine add_ref2 h hok hx ha hi hall h1 h2 hir ?_
         unfold refB at href
         rw [hir,beq_eq_false_iff_ne.2 h1,beq_eq_false_iff_ne.2 h2] at href
         exact href
end Go.Proofs.YtjkmalddfoemhaaGreatDoor
