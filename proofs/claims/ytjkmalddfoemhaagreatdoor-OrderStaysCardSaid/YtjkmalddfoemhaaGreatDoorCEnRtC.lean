/- Walks: the reference's Right. -/
import Derived.Test.YtjkmalddfoemhaaGreatDoorJ16
import Derived.Test.YtjkmalddfoemhaaGreatDoorJ5
set_option maxRecDepth 100000
set_option maxHeartbeats 40000000
namespace Go.Proofs.YtjkmalddfoemhaaGreatDoor
open Go.RowKit Go.Deep
theorem rright_any (e:En) (a1 a2 a3:Option Addr) (c1 c2 c3:Nat) (A:Nat->Prop) (w:World) (hr:EnRep A w e a1 a2 a3 c1 c2 c3) :
 Calls Tryz.prog 174 #[enV e a1 a2 a3 c1 c2 c3] w fun en w'=>en=.returned (.bool (decide (RightE e)))/\Upd (fun _=>False) w w':=by
 have HR:=hid hr
 obtain ⟨W0,hW0⟩:∃ W0,W0=w.alloc (.cells (en13 e a1 a2 a3 c1 c2 c3) 72 (0,0)):=⟨_,rfl⟩
 have hb:W0.heap[w.heap.size]? = some (.cells (en13 e a1 a2 a3 c1 c2 c3) 72 (0,0)):=by rw [hW0];exact heap_alloc_new
 have u0:Upd (fun _=>False) w W0:=by rw [hW0];exact (Upd.refl _ _).alloc _
 obtain ⟨d0,d1,d2,d3,d4,d5,d6,d7,d8,d9,d10,d11,d12⟩:=cells13 hb
 obtain ⟨q1,q2⟩:=slice_caps hr.knows
 obtain ⟨q3,q4⟩:=slice_caps hr.keys
 obtain ⟨q5,q6⟩:=slice_caps hr.spans
 have HB:=hid hb;have U:=hid u0;have HW0:=hid hW0
 clear hr hW0 hb u0
 by_cases h_author:toP e.author 199
 case neg =>
  as_aux_lemma =>
  have NO:=hid (show ¬RightE e from fun h0=>h_author (show toP e.author 199 from ((fun h:RightR e=>h.author) ((rightR_iff e).2 h0))))
  have G_author:=hid h_author
  clear h_author
  unfold enV
  go_enter Tryz.func174,Tryz.ntmps174
  go_wp2_with fail
  have hW:=HW0.out
  unfold en13 at hW
  rw [<-hW]
  clear hW
  go_wp2_with (first | (go_at_call 230;with_reducible refine (to_any e.author 199 _).mono ?_;rintro ex wx ⟨rfl,rfl⟩;rw [decide_eq_false G_author.out]))
  go_ret
  exact ⟨ret_f NO.out,U.out⟩
 have G_author:=hid h_author
 clear h_author
 by_cases h_seq:toP e.seq 1048575
 case neg =>
  as_aux_lemma =>
  have NO:=hid (show ¬RightE e from fun h0=>h_seq (show toP e.seq 1048575 from ((fun h:RightR e=>h.seq) ((rightR_iff e).2 h0))))
  have G_seq:=hid h_seq
  clear h_seq
  unfold enV
  go_enter Tryz.func174,Tryz.ntmps174
  go_wp2_with fail
  have hW:=HW0.out
  unfold en13 at hW
  rw [<-hW]
  clear hW
  go_wp2_with (first | (go_at_call 230;with_reducible refine (to_any e.author 199 _).mono ?_;rintro ex wx ⟨rfl,rfl⟩;rw [decide_eq_true G_author.out]) | (go_at_call 230;with_reducible refine (to_any e.seq 1048575 _).mono ?_;rintro ex wx ⟨rfl,rfl⟩;rw [decide_eq_false G_seq.out]))
  go_ret
  exact ⟨ret_f NO.out,U.out⟩
 have G_seq:=hid h_seq
 clear h_seq
 by_cases h_day:toP e.day 1048576
 case neg =>
  as_aux_lemma =>
  have NO:=hid (show ¬RightE e from fun h0=>h_day (show toP e.day 1048576 from ((fun h:RightR e=>h.day) ((rightR_iff e).2 h0))))
  have G_day:=hid h_day
  clear h_day
  unfold enV
  go_enter Tryz.func174,Tryz.ntmps174
  go_wp2_with fail
  have hW:=HW0.out
  unfold en13 at hW
  rw [<-hW]
  clear hW
  go_wp2_with (first | (go_at_call 230;with_reducible refine (to_any e.author 199 _).mono ?_;rintro ex wx ⟨rfl,rfl⟩;rw [decide_eq_true G_author.out]) | (go_at_call 230;with_reducible refine (to_any e.seq 1048575 _).mono ?_;rintro ex wx ⟨rfl,rfl⟩;rw [decide_eq_true G_seq.out]) | (go_at_call 230;with_reducible refine (to_any e.day 1048576 _).mono ?_;rintro ex wx ⟨rfl,rfl⟩;rw [decide_eq_false G_day.out]))
  go_ret
  exact ⟨ret_f NO.out,U.out⟩
 have G_day:=hid h_day
 clear h_day
 by_cases h_kind:toP e.kind 20
 case neg =>
  as_aux_lemma =>
  have NO:=hid (show ¬RightE e from fun h0=>h_kind (show toP e.kind 20 from ((fun h:RightR e=>h.kind) ((rightR_iff e).2 h0))))
  have G_kind:=hid h_kind
  clear h_kind
  unfold enV
  go_enter Tryz.func174,Tryz.ntmps174
  go_wp2_with fail
  have hW:=HW0.out
  unfold en13 at hW
  rw [<-hW]
  clear hW
  go_wp2_with (first | (go_at_call 230;with_reducible refine (to_any e.author 199 _).mono ?_;rintro ex wx ⟨rfl,rfl⟩;rw [decide_eq_true G_author.out]) | (go_at_call 230;with_reducible refine (to_any e.seq 1048575 _).mono ?_;rintro ex wx ⟨rfl,rfl⟩;rw [decide_eq_true G_seq.out]) | (go_at_call 230;with_reducible refine (to_any e.day 1048576 _).mono ?_;rintro ex wx ⟨rfl,rfl⟩;rw [decide_eq_true G_day.out]) | (go_at_call 230;with_reducible refine (to_any e.kind 20 _).mono ?_;rintro ex wx ⟨rfl,rfl⟩;rw [decide_eq_false G_kind.out]))
  go_ret
  exact ⟨ret_f NO.out,U.out⟩
 have G_kind:=hid h_kind
 clear h_kind
 have HK:=hid (show 0<=e.kind/\e.kind<21 by have:=G_kind.out;unfold toP at this;omega)
 by_cases h_plain:plainP e
 case neg =>
  as_aux_lemma =>
  have NO:=hid (show ¬RightE e from fun h0=>h_plain (show plainP e from ((fun h:RightR e=>h.plain) ((rightR_iff e).2 h0))))
  have G_plain:=hid h_plain
  clear h_plain
  unfold enV
  go_enter Tryz.func174,Tryz.ntmps174
  go_wp2_with fail
  have hW:=HW0.out
  unfold en13 at hW
  rw [<-hW]
  clear hW
  go_wp2_with (first | (go_at_call 230;with_reducible refine (to_any e.author 199 _).mono ?_;rintro ex wx ⟨rfl,rfl⟩;rw [decide_eq_true G_author.out]) | (go_at_call 230;with_reducible refine (to_any e.seq 1048575 _).mono ?_;rintro ex wx ⟨rfl,rfl⟩;rw [decide_eq_true G_seq.out]) | (go_at_call 230;with_reducible refine (to_any e.day 1048576 _).mono ?_;rintro ex wx ⟨rfl,rfl⟩;rw [decide_eq_true G_day.out]) | (go_at_call 230;with_reducible refine (to_any e.kind 20 _).mono ?_;rintro ex wx ⟨rfl,rfl⟩;rw [decide_eq_true G_kind.out]) | (go_at_call 231;refine (rspare_any e HK.out a1 a2 a3 c1 c2 c3 _).mono ?_;rintro ex wx ⟨rfl,u⟩;rw [decide_eq_false G_plain.out];have U:=hid (U.out.trans u);have hb:=(u.block _ (heap_lt HB.out) id).trans HB.out;have HB:=hid hb;clear d0 d1 d2 d3 d4 d5 d6 d7 d8 d9 d10 d11 d12;obtain ⟨d0,d1,d2,d3,d4,d5,d6,d7,d8,d9,d10,d11,d12⟩:=cells13 hb;have hz:=heap_lt hb;clear hb;clear u))
  go_ret
  exact ⟨ret_f NO.out,U.out⟩
 have G_plain:=hid h_plain
 clear h_plain
 by_cases h_kl:e.knows.length<=40
 case neg =>
  as_aux_lemma =>
  have NO:=hid (show ¬RightE e from fun h0=>h_kl (show e.knows.length<=40 from ((fun h:RightR e=>h.knows.1) ((rightR_iff e).2 h0))))
  have h_kl:=Nat.lt_of_not_le h_kl
  unfold enV
  go_enter Tryz.func174,Tryz.ntmps174
  go_wp2_with fail
  have hW:=HW0.out
  unfold en13 at hW
  rw [<-hW]
  clear hW
  go_wp2_with (first | (go_at_call 230;with_reducible refine (to_any e.author 199 _).mono ?_;rintro ex wx ⟨rfl,rfl⟩;rw [decide_eq_true G_author.out]) | (go_at_call 230;with_reducible refine (to_any e.seq 1048575 _).mono ?_;rintro ex wx ⟨rfl,rfl⟩;rw [decide_eq_true G_seq.out]) | (go_at_call 230;with_reducible refine (to_any e.day 1048576 _).mono ?_;rintro ex wx ⟨rfl,rfl⟩;rw [decide_eq_true G_day.out]) | (go_at_call 230;with_reducible refine (to_any e.kind 20 _).mono ?_;rintro ex wx ⟨rfl,rfl⟩;rw [decide_eq_true G_kind.out]) | (go_at_call 231;refine (rspare_any e HK.out a1 a2 a3 c1 c2 c3 _).mono ?_;rintro ex wx ⟨rfl,u⟩;rw [decide_eq_true G_plain.out];have U:=hid (U.out.trans u);have hb:=(u.block _ (heap_lt HB.out) id).trans HB.out;have HB:=hid hb;clear d0 d1 d2 d3 d4 d5 d6 d7 d8 d9 d10 d11 d12;obtain ⟨d0,d1,d2,d3,d4,d5,d6,d7,d8,d9,d10,d11,d12⟩:=cells13 hb;have hz:=heap_lt hb;clear hb;clear u))
  go_ret
  exact ⟨ret_f NO.out,U.out⟩
 by_cases h_asc:ascTo e.knows 1073741824
 case neg =>
  as_aux_lemma =>
  have NO:=hid (show ¬RightE e from fun h0=>h_asc (show ascTo e.knows 1073741824 from ((fun h:RightR e=>h.knows.2) ((rightR_iff e).2 h0))))
  have G_asc:=hid h_asc
  clear h_asc
  unfold enV
  go_enter Tryz.func174,Tryz.ntmps174
  go_wp2_with fail
  have hW:=HW0.out
  unfold en13 at hW
  rw [<-hW]
  clear hW
  go_wp2_with (first | (go_at_call 230;with_reducible refine (to_any e.author 199 _).mono ?_;rintro ex wx ⟨rfl,rfl⟩;rw [decide_eq_true G_author.out]) | (go_at_call 230;with_reducible refine (to_any e.seq 1048575 _).mono ?_;rintro ex wx ⟨rfl,rfl⟩;rw [decide_eq_true G_seq.out]) | (go_at_call 230;with_reducible refine (to_any e.day 1048576 _).mono ?_;rintro ex wx ⟨rfl,rfl⟩;rw [decide_eq_true G_day.out]) | (go_at_call 230;with_reducible refine (to_any e.kind 20 _).mono ?_;rintro ex wx ⟨rfl,rfl⟩;rw [decide_eq_true G_kind.out]) | (go_at_call 231;refine (rspare_any e HK.out a1 a2 a3 c1 c2 c3 _).mono ?_;rintro ex wx ⟨rfl,u⟩;rw [decide_eq_true G_plain.out];have U:=hid (U.out.trans u);have hb:=(u.block _ (heap_lt HB.out) id).trans HB.out;have HB:=hid hb;clear d0 d1 d2 d3 d4 d5 d6 d7 d8 d9 d10 d11 d12;obtain ⟨d0,d1,d2,d3,d4,d5,d6,d7,d8,d9,d10,d11,d12⟩:=cells13 hb;have hz:=heap_lt hb;clear hb;clear u) | (go_at_call 232;with_reducible refine (rasc_any A _ e.knows 1073741824 _ (HR.out.keep U.out).knows).mono ?_;rintro ex wx ⟨rfl,u⟩;rw [decide_eq_false G_asc.out];have U:=hid (U.out.trans u);have hb:=(u.block _ (heap_lt HB.out) id).trans HB.out;have HB:=hid hb;clear d0 d1 d2 d3 d4 d5 d6 d7 d8 d9 d10 d11 d12;obtain ⟨d0,d1,d2,d3,d4,d5,d6,d7,d8,d9,d10,d11,d12⟩:=cells13 hb;have hz:=heap_lt hb;clear hb;clear u))
  go_ret
  exact ⟨ret_f NO.out,U.out⟩
 have G_asc:=hid h_asc
 clear h_asc
 by_cases h_circle:toP e.circle 1073741824
 case neg =>
  as_aux_lemma =>
  have NO:=hid (show ¬RightE e from fun h0=>h_circle (show toP e.circle 1073741824 from ((fun h:RightR e=>h.circle) ((rightR_iff e).2 h0))))
  have G_circle:=hid h_circle
  clear h_circle
  unfold enV
  go_enter Tryz.func174,Tryz.ntmps174
  go_wp2_with fail
  have hW:=HW0.out
  unfold en13 at hW
  rw [<-hW]
  clear hW
  go_wp2_with (first | (go_at_call 230;with_reducible refine (to_any e.author 199 _).mono ?_;rintro ex wx ⟨rfl,rfl⟩;rw [decide_eq_true G_author.out]) | (go_at_call 230;with_reducible refine (to_any e.seq 1048575 _).mono ?_;rintro ex wx ⟨rfl,rfl⟩;rw [decide_eq_true G_seq.out]) | (go_at_call 230;with_reducible refine (to_any e.day 1048576 _).mono ?_;rintro ex wx ⟨rfl,rfl⟩;rw [decide_eq_true G_day.out]) | (go_at_call 230;with_reducible refine (to_any e.kind 20 _).mono ?_;rintro ex wx ⟨rfl,rfl⟩;rw [decide_eq_true G_kind.out]) | (go_at_call 231;refine (rspare_any e HK.out a1 a2 a3 c1 c2 c3 _).mono ?_;rintro ex wx ⟨rfl,u⟩;rw [decide_eq_true G_plain.out];have U:=hid (U.out.trans u);have hb:=(u.block _ (heap_lt HB.out) id).trans HB.out;have HB:=hid hb;clear d0 d1 d2 d3 d4 d5 d6 d7 d8 d9 d10 d11 d12;obtain ⟨d0,d1,d2,d3,d4,d5,d6,d7,d8,d9,d10,d11,d12⟩:=cells13 hb;have hz:=heap_lt hb;clear hb;clear u) | (go_at_call 232;with_reducible refine (rasc_any A _ e.knows 1073741824 _ (HR.out.keep U.out).knows).mono ?_;rintro ex wx ⟨rfl,u⟩;rw [decide_eq_true G_asc.out];have U:=hid (U.out.trans u);have hb:=(u.block _ (heap_lt HB.out) id).trans HB.out;have HB:=hid hb;clear d0 d1 d2 d3 d4 d5 d6 d7 d8 d9 d10 d11 d12;obtain ⟨d0,d1,d2,d3,d4,d5,d6,d7,d8,d9,d10,d11,d12⟩:=cells13 hb;have hz:=heap_lt hb;clear hb;clear u) | (go_at_call 230;with_reducible refine (to_any e.circle 1073741824 _).mono ?_;rintro ex wx ⟨rfl,rfl⟩;rw [decide_eq_false G_circle.out]))
  go_ret
  exact ⟨ret_f NO.out,U.out⟩
 have G_circle:=hid h_circle
 clear h_circle
 by_cases h_who:toP e.who 199
 case neg =>
  as_aux_lemma =>
  have NO:=hid (show ¬RightE e from fun h0=>h_who (show toP e.who 199 from ((fun h:RightR e=>h.who) ((rightR_iff e).2 h0))))
  have G_who:=hid h_who
  clear h_who
  unfold enV
  go_enter Tryz.func174,Tryz.ntmps174
  go_wp2_with fail
  have hW:=HW0.out
  unfold en13 at hW
  rw [<-hW]
  clear hW
  go_wp2_with (first | (go_at_call 230;with_reducible refine (to_any e.author 199 _).mono ?_;rintro ex wx ⟨rfl,rfl⟩;rw [decide_eq_true G_author.out]) | (go_at_call 230;with_reducible refine (to_any e.seq 1048575 _).mono ?_;rintro ex wx ⟨rfl,rfl⟩;rw [decide_eq_true G_seq.out]) | (go_at_call 230;with_reducible refine (to_any e.day 1048576 _).mono ?_;rintro ex wx ⟨rfl,rfl⟩;rw [decide_eq_true G_day.out]) | (go_at_call 230;with_reducible refine (to_any e.kind 20 _).mono ?_;rintro ex wx ⟨rfl,rfl⟩;rw [decide_eq_true G_kind.out]) | (go_at_call 231;refine (rspare_any e HK.out a1 a2 a3 c1 c2 c3 _).mono ?_;rintro ex wx ⟨rfl,u⟩;rw [decide_eq_true G_plain.out];have U:=hid (U.out.trans u);have hb:=(u.block _ (heap_lt HB.out) id).trans HB.out;have HB:=hid hb;clear d0 d1 d2 d3 d4 d5 d6 d7 d8 d9 d10 d11 d12;obtain ⟨d0,d1,d2,d3,d4,d5,d6,d7,d8,d9,d10,d11,d12⟩:=cells13 hb;have hz:=heap_lt hb;clear hb;clear u) | (go_at_call 232;with_reducible refine (rasc_any A _ e.knows 1073741824 _ (HR.out.keep U.out).knows).mono ?_;rintro ex wx ⟨rfl,u⟩;rw [decide_eq_true G_asc.out];have U:=hid (U.out.trans u);have hb:=(u.block _ (heap_lt HB.out) id).trans HB.out;have HB:=hid hb;clear d0 d1 d2 d3 d4 d5 d6 d7 d8 d9 d10 d11 d12;obtain ⟨d0,d1,d2,d3,d4,d5,d6,d7,d8,d9,d10,d11,d12⟩:=cells13 hb;have hz:=heap_lt hb;clear hb;clear u) | (go_at_call 230;with_reducible refine (to_any e.circle 1073741824 _).mono ?_;rintro ex wx ⟨rfl,rfl⟩;rw [decide_eq_true G_circle.out]) | (go_at_call 230;with_reducible refine (to_any e.who 199 _).mono ?_;rintro ex wx ⟨rfl,rfl⟩;rw [decide_eq_false G_who.out]))
  go_ret
  exact ⟨ret_f NO.out,U.out⟩
 have G_who:=hid h_who
 clear h_who
 by_cases h_text:e.text.length<=2000
 case neg =>
  as_aux_lemma =>
  have NO:=hid (show ¬RightE e from fun h0=>h_text (show e.text.length<=2000 from ((fun h:RightR e=>h.text) ((rightR_iff e).2 h0))))
  have h_text:=Nat.lt_of_not_le h_text
  unfold enV
  go_enter Tryz.func174,Tryz.ntmps174
  go_wp2_with fail
  have hW:=HW0.out
  unfold en13 at hW
  rw [<-hW]
  clear hW
  go_wp2_with (first | (go_at_call 230;with_reducible refine (to_any e.author 199 _).mono ?_;rintro ex wx ⟨rfl,rfl⟩;rw [decide_eq_true G_author.out]) | (go_at_call 230;with_reducible refine (to_any e.seq 1048575 _).mono ?_;rintro ex wx ⟨rfl,rfl⟩;rw [decide_eq_true G_seq.out]) | (go_at_call 230;with_reducible refine (to_any e.day 1048576 _).mono ?_;rintro ex wx ⟨rfl,rfl⟩;rw [decide_eq_true G_day.out]) | (go_at_call 230;with_reducible refine (to_any e.kind 20 _).mono ?_;rintro ex wx ⟨rfl,rfl⟩;rw [decide_eq_true G_kind.out]) | (go_at_call 231;refine (rspare_any e HK.out a1 a2 a3 c1 c2 c3 _).mono ?_;rintro ex wx ⟨rfl,u⟩;rw [decide_eq_true G_plain.out];have U:=hid (U.out.trans u);have hb:=(u.block _ (heap_lt HB.out) id).trans HB.out;have HB:=hid hb;clear d0 d1 d2 d3 d4 d5 d6 d7 d8 d9 d10 d11 d12;obtain ⟨d0,d1,d2,d3,d4,d5,d6,d7,d8,d9,d10,d11,d12⟩:=cells13 hb;have hz:=heap_lt hb;clear hb;clear u) | (go_at_call 232;with_reducible refine (rasc_any A _ e.knows 1073741824 _ (HR.out.keep U.out).knows).mono ?_;rintro ex wx ⟨rfl,u⟩;rw [decide_eq_true G_asc.out];have U:=hid (U.out.trans u);have hb:=(u.block _ (heap_lt HB.out) id).trans HB.out;have HB:=hid hb;clear d0 d1 d2 d3 d4 d5 d6 d7 d8 d9 d10 d11 d12;obtain ⟨d0,d1,d2,d3,d4,d5,d6,d7,d8,d9,d10,d11,d12⟩:=cells13 hb;have hz:=heap_lt hb;clear hb;clear u) | (go_at_call 230;with_reducible refine (to_any e.circle 1073741824 _).mono ?_;rintro ex wx ⟨rfl,rfl⟩;rw [decide_eq_true G_circle.out]) | (go_at_call 230;with_reducible refine (to_any e.who 199 _).mono ?_;rintro ex wx ⟨rfl,rfl⟩;rw [decide_eq_true G_who.out]))
  go_ret
  exact ⟨ret_f NO.out,U.out⟩
 by_cases h_ku:107∈useF e.kind
 case pos =>
  have HKU:=hid h_ku
  clear h_ku
  by_cases h_k1:1<=e.keys.length
  case neg =>
   as_aux_lemma =>
   have NO:=hid (show ¬RightE e from fun h0=>h_k1 (show 1<=e.keys.length from ((fun h:RightR e=>(h.keys HKU.out).1) ((rightR_iff e).2 h0))))
   have h_k1:=Nat.lt_of_not_le h_k1
   unfold enV
   go_enter Tryz.func174,Tryz.ntmps174
   go_wp2_with fail
   have hW:=HW0.out
   unfold en13 at hW
   rw [<-hW]
   clear hW
   go_wp2_with (first | (go_at_call 230;with_reducible refine (to_any e.author 199 _).mono ?_;rintro ex wx ⟨rfl,rfl⟩;rw [decide_eq_true G_author.out]) | (go_at_call 230;with_reducible refine (to_any e.seq 1048575 _).mono ?_;rintro ex wx ⟨rfl,rfl⟩;rw [decide_eq_true G_seq.out]) | (go_at_call 230;with_reducible refine (to_any e.day 1048576 _).mono ?_;rintro ex wx ⟨rfl,rfl⟩;rw [decide_eq_true G_day.out]) | (go_at_call 230;with_reducible refine (to_any e.kind 20 _).mono ?_;rintro ex wx ⟨rfl,rfl⟩;rw [decide_eq_true G_kind.out]) | (go_at_call 231;refine (rspare_any e HK.out a1 a2 a3 c1 c2 c3 _).mono ?_;rintro ex wx ⟨rfl,u⟩;rw [decide_eq_true G_plain.out];have U:=hid (U.out.trans u);have hb:=(u.block _ (heap_lt HB.out) id).trans HB.out;have HB:=hid hb;clear d0 d1 d2 d3 d4 d5 d6 d7 d8 d9 d10 d11 d12;obtain ⟨d0,d1,d2,d3,d4,d5,d6,d7,d8,d9,d10,d11,d12⟩:=cells13 hb;have hz:=heap_lt hb;clear hb;clear u) | (go_at_call 232;with_reducible refine (rasc_any A _ e.knows 1073741824 _ (HR.out.keep U.out).knows).mono ?_;rintro ex wx ⟨rfl,u⟩;rw [decide_eq_true G_asc.out];have U:=hid (U.out.trans u);have hb:=(u.block _ (heap_lt HB.out) id).trans HB.out;have HB:=hid hb;clear d0 d1 d2 d3 d4 d5 d6 d7 d8 d9 d10 d11 d12;obtain ⟨d0,d1,d2,d3,d4,d5,d6,d7,d8,d9,d10,d11,d12⟩:=cells13 hb;have hz:=heap_lt hb;clear hb;clear u) | (go_at_call 230;with_reducible refine (to_any e.circle 1073741824 _).mono ?_;rintro ex wx ⟨rfl,rfl⟩;rw [decide_eq_true G_circle.out]) | (go_at_call 230;with_reducible refine (to_any e.who 199 _).mono ?_;rintro ex wx ⟨rfl,rfl⟩;rw [decide_eq_true G_who.out]) | (go_at_call 233;with_reducible refine (ruses_any e.kind HK.out _).mono ?_;rintro ex wx ⟨rfl,rfl⟩) | (go_at_call 234;with_reducible refine (rin_any (useF e.kind) 107 107 rfl (use_len _) _).mono ?_;rintro ex wx ⟨rfl,rfl⟩;rw [decide_eq_true HKU.out]))
   go_ret
   exact ⟨ret_f NO.out,U.out⟩
  by_cases h_k2:e.keys.length<=60
  case neg =>
   as_aux_lemma =>
   have NO:=hid (show ¬RightE e from fun h0=>h_k2 (show e.keys.length<=60 from ((fun h:RightR e=>(h.keys HKU.out).2.1) ((rightR_iff e).2 h0))))
   have h_k2:=Nat.lt_of_not_le h_k2
   unfold enV
   go_enter Tryz.func174,Tryz.ntmps174
   go_wp2_with fail
   have hW:=HW0.out
   unfold en13 at hW
   rw [<-hW]
   clear hW
   go_wp2_with (first | (go_at_call 230;with_reducible refine (to_any e.author 199 _).mono ?_;rintro ex wx ⟨rfl,rfl⟩;rw [decide_eq_true G_author.out]) | (go_at_call 230;with_reducible refine (to_any e.seq 1048575 _).mono ?_;rintro ex wx ⟨rfl,rfl⟩;rw [decide_eq_true G_seq.out]) | (go_at_call 230;with_reducible refine (to_any e.day 1048576 _).mono ?_;rintro ex wx ⟨rfl,rfl⟩;rw [decide_eq_true G_day.out]) | (go_at_call 230;with_reducible refine (to_any e.kind 20 _).mono ?_;rintro ex wx ⟨rfl,rfl⟩;rw [decide_eq_true G_kind.out]) | (go_at_call 231;refine (rspare_any e HK.out a1 a2 a3 c1 c2 c3 _).mono ?_;rintro ex wx ⟨rfl,u⟩;rw [decide_eq_true G_plain.out];have U:=hid (U.out.trans u);have hb:=(u.block _ (heap_lt HB.out) id).trans HB.out;have HB:=hid hb;clear d0 d1 d2 d3 d4 d5 d6 d7 d8 d9 d10 d11 d12;obtain ⟨d0,d1,d2,d3,d4,d5,d6,d7,d8,d9,d10,d11,d12⟩:=cells13 hb;have hz:=heap_lt hb;clear hb;clear u) | (go_at_call 232;with_reducible refine (rasc_any A _ e.knows 1073741824 _ (HR.out.keep U.out).knows).mono ?_;rintro ex wx ⟨rfl,u⟩;rw [decide_eq_true G_asc.out];have U:=hid (U.out.trans u);have hb:=(u.block _ (heap_lt HB.out) id).trans HB.out;have HB:=hid hb;clear d0 d1 d2 d3 d4 d5 d6 d7 d8 d9 d10 d11 d12;obtain ⟨d0,d1,d2,d3,d4,d5,d6,d7,d8,d9,d10,d11,d12⟩:=cells13 hb;have hz:=heap_lt hb;clear hb;clear u) | (go_at_call 230;with_reducible refine (to_any e.circle 1073741824 _).mono ?_;rintro ex wx ⟨rfl,rfl⟩;rw [decide_eq_true G_circle.out]) | (go_at_call 230;with_reducible refine (to_any e.who 199 _).mono ?_;rintro ex wx ⟨rfl,rfl⟩;rw [decide_eq_true G_who.out]) | (go_at_call 233;with_reducible refine (ruses_any e.kind HK.out _).mono ?_;rintro ex wx ⟨rfl,rfl⟩) | (go_at_call 234;with_reducible refine (rin_any (useF e.kind) 107 107 rfl (use_len _) _).mono ?_;rintro ex wx ⟨rfl,rfl⟩;rw [decide_eq_true HKU.out]))
   go_ret
   exact ⟨ret_f NO.out,U.out⟩
  by_cases h_k3:ascTo e.keys 199
  case neg =>
   as_aux_lemma =>
   have NO:=hid (show ¬RightE e from fun h0=>h_k3 (show ascTo e.keys 199 from ((fun h:RightR e=>(h.keys HKU.out).2.2) ((rightR_iff e).2 h0))))
   have G_k3:=hid h_k3
   clear h_k3
   unfold enV
   go_enter Tryz.func174,Tryz.ntmps174
   go_wp2_with fail
   have hW:=HW0.out
   unfold en13 at hW
   rw [<-hW]
   clear hW
   go_wp2_with (first | (go_at_call 230;with_reducible refine (to_any e.author 199 _).mono ?_;rintro ex wx ⟨rfl,rfl⟩;rw [decide_eq_true G_author.out]) | (go_at_call 230;with_reducible refine (to_any e.seq 1048575 _).mono ?_;rintro ex wx ⟨rfl,rfl⟩;rw [decide_eq_true G_seq.out]) | (go_at_call 230;with_reducible refine (to_any e.day 1048576 _).mono ?_;rintro ex wx ⟨rfl,rfl⟩;rw [decide_eq_true G_day.out]) | (go_at_call 230;with_reducible refine (to_any e.kind 20 _).mono ?_;rintro ex wx ⟨rfl,rfl⟩;rw [decide_eq_true G_kind.out]) | (go_at_call 231;refine (rspare_any e HK.out a1 a2 a3 c1 c2 c3 _).mono ?_;rintro ex wx ⟨rfl,u⟩;rw [decide_eq_true G_plain.out];have U:=hid (U.out.trans u);have hb:=(u.block _ (heap_lt HB.out) id).trans HB.out;have HB:=hid hb;clear d0 d1 d2 d3 d4 d5 d6 d7 d8 d9 d10 d11 d12;obtain ⟨d0,d1,d2,d3,d4,d5,d6,d7,d8,d9,d10,d11,d12⟩:=cells13 hb;have hz:=heap_lt hb;clear hb;clear u) | (go_at_call 232;with_reducible refine (rasc_any A _ e.knows 1073741824 _ (HR.out.keep U.out).knows).mono ?_;rintro ex wx ⟨rfl,u⟩;rw [decide_eq_true G_asc.out];have U:=hid (U.out.trans u);have hb:=(u.block _ (heap_lt HB.out) id).trans HB.out;have HB:=hid hb;clear d0 d1 d2 d3 d4 d5 d6 d7 d8 d9 d10 d11 d12;obtain ⟨d0,d1,d2,d3,d4,d5,d6,d7,d8,d9,d10,d11,d12⟩:=cells13 hb;have hz:=heap_lt hb;clear hb;clear u) | (go_at_call 230;with_reducible refine (to_any e.circle 1073741824 _).mono ?_;rintro ex wx ⟨rfl,rfl⟩;rw [decide_eq_true G_circle.out]) | (go_at_call 230;with_reducible refine (to_any e.who 199 _).mono ?_;rintro ex wx ⟨rfl,rfl⟩;rw [decide_eq_true G_who.out]) | (go_at_call 233;with_reducible refine (ruses_any e.kind HK.out _).mono ?_;rintro ex wx ⟨rfl,rfl⟩) | (go_at_call 234;with_reducible refine (rin_any (useF e.kind) 107 107 rfl (use_len _) _).mono ?_;rintro ex wx ⟨rfl,rfl⟩;rw [decide_eq_true HKU.out]) | (go_at_call 232;with_reducible refine (rasc_any A _ e.keys 199 _ (HR.out.keep U.out).keys).mono ?_;rintro ex wx ⟨rfl,u⟩;rw [decide_eq_false G_k3.out];have U:=hid (U.out.trans u);have hb:=(u.block _ (heap_lt HB.out) id).trans HB.out;have HB:=hid hb;clear d0 d1 d2 d3 d4 d5 d6 d7 d8 d9 d10 d11 d12;obtain ⟨d0,d1,d2,d3,d4,d5,d6,d7,d8,d9,d10,d11,d12⟩:=cells13 hb;have hz:=heap_lt hb;clear hb;clear u))
   go_ret
   exact ⟨ret_f NO.out,U.out⟩
  have G_k3:=hid h_k3
  clear h_k3
  have HSU:=hid (show 115∉useF e.kind from fun h=>by have:=(key_use HK.out).1 HKU.out;have:=(span_use HK.out).1 h;omega)
  by_cases h_ref:refR e
  case neg =>
   as_aux_lemma =>
   have NO:=hid (show ¬RightE e from fun h0=>h_ref (show refR e from ((fun h:RightR e=>h.ref) ((rightR_iff e).2 h0))))
   have G_ref:=hid h_ref
   clear h_ref
   unfold enV
   go_enter Tryz.func174,Tryz.ntmps174
   go_wp2_with fail
   have hW:=HW0.out
   unfold en13 at hW
   rw [<-hW]
   clear hW
   go_wp2_with (first | (go_at_call 230;with_reducible refine (to_any e.author 199 _).mono ?_;rintro ex wx ⟨rfl,rfl⟩;rw [decide_eq_true G_author.out]) | (go_at_call 230;with_reducible refine (to_any e.seq 1048575 _).mono ?_;rintro ex wx ⟨rfl,rfl⟩;rw [decide_eq_true G_seq.out]) | (go_at_call 230;with_reducible refine (to_any e.day 1048576 _).mono ?_;rintro ex wx ⟨rfl,rfl⟩;rw [decide_eq_true G_day.out]) | (go_at_call 230;with_reducible refine (to_any e.kind 20 _).mono ?_;rintro ex wx ⟨rfl,rfl⟩;rw [decide_eq_true G_kind.out]) | (go_at_call 231;refine (rspare_any e HK.out a1 a2 a3 c1 c2 c3 _).mono ?_;rintro ex wx ⟨rfl,u⟩;rw [decide_eq_true G_plain.out];have U:=hid (U.out.trans u);have hb:=(u.block _ (heap_lt HB.out) id).trans HB.out;have HB:=hid hb;clear d0 d1 d2 d3 d4 d5 d6 d7 d8 d9 d10 d11 d12;obtain ⟨d0,d1,d2,d3,d4,d5,d6,d7,d8,d9,d10,d11,d12⟩:=cells13 hb;have hz:=heap_lt hb;clear hb;clear u) | (go_at_call 232;with_reducible refine (rasc_any A _ e.knows 1073741824 _ (HR.out.keep U.out).knows).mono ?_;rintro ex wx ⟨rfl,u⟩;rw [decide_eq_true G_asc.out];have U:=hid (U.out.trans u);have hb:=(u.block _ (heap_lt HB.out) id).trans HB.out;have HB:=hid hb;clear d0 d1 d2 d3 d4 d5 d6 d7 d8 d9 d10 d11 d12;obtain ⟨d0,d1,d2,d3,d4,d5,d6,d7,d8,d9,d10,d11,d12⟩:=cells13 hb;have hz:=heap_lt hb;clear hb;clear u) | (go_at_call 230;with_reducible refine (to_any e.circle 1073741824 _).mono ?_;rintro ex wx ⟨rfl,rfl⟩;rw [decide_eq_true G_circle.out]) | (go_at_call 230;with_reducible refine (to_any e.who 199 _).mono ?_;rintro ex wx ⟨rfl,rfl⟩;rw [decide_eq_true G_who.out]) | (go_at_call 233;with_reducible refine (ruses_any e.kind HK.out _).mono ?_;rintro ex wx ⟨rfl,rfl⟩) | (go_at_call 234;with_reducible refine (rin_any (useF e.kind) 107 107 rfl (use_len _) _).mono ?_;rintro ex wx ⟨rfl,rfl⟩;rw [decide_eq_true HKU.out]) | (go_at_call 232;with_reducible refine (rasc_any A _ e.keys 199 _ (HR.out.keep U.out).keys).mono ?_;rintro ex wx ⟨rfl,u⟩;rw [decide_eq_true G_k3.out];have U:=hid (U.out.trans u);have hb:=(u.block _ (heap_lt HB.out) id).trans HB.out;have HB:=hid hb;clear d0 d1 d2 d3 d4 d5 d6 d7 d8 d9 d10 d11 d12;obtain ⟨d0,d1,d2,d3,d4,d5,d6,d7,d8,d9,d10,d11,d12⟩:=cells13 hb;have hz:=heap_lt hb;clear hb;clear u) | (go_at_call 234;with_reducible refine (rin_any (useF e.kind) 115 115 rfl (use_len _) _).mono ?_;rintro ex wx ⟨rfl,rfl⟩;rw [decide_eq_false HSU.out]) | (go_at_call 236;refine (rref_any e HK.out a1 a2 a3 c1 c2 c3 _).mono ?_;rintro ex wx ⟨rfl,u⟩;rw [decide_eq_false G_ref.out];have U:=hid (U.out.trans u);have hb:=(u.block _ (heap_lt HB.out) id).trans HB.out;have HB:=hid hb;clear d0 d1 d2 d3 d4 d5 d6 d7 d8 d9 d10 d11 d12;obtain ⟨d0,d1,d2,d3,d4,d5,d6,d7,d8,d9,d10,d11,d12⟩:=cells13 hb;have hz:=heap_lt hb;clear hb;clear u))
   go_ret
   exact ⟨ret_f NO.out,U.out⟩
  have G_ref:=hid h_ref
  clear h_ref
  by_cases h_nn:nR e
  case neg =>
   as_aux_lemma =>
   have NO:=hid (show ¬RightE e from fun h0=>h_nn (show nR e from ((fun h:RightR e=>h.n) ((rightR_iff e).2 h0))))
   have G_nn:=hid h_nn
   clear h_nn
   unfold enV
   go_enter Tryz.func174,Tryz.ntmps174
   go_wp2_with fail
   have hW:=HW0.out
   unfold en13 at hW
   rw [<-hW]
   clear hW
   go_wp2_with (first | (go_at_call 230;with_reducible refine (to_any e.author 199 _).mono ?_;rintro ex wx ⟨rfl,rfl⟩;rw [decide_eq_true G_author.out]) | (go_at_call 230;with_reducible refine (to_any e.seq 1048575 _).mono ?_;rintro ex wx ⟨rfl,rfl⟩;rw [decide_eq_true G_seq.out]) | (go_at_call 230;with_reducible refine (to_any e.day 1048576 _).mono ?_;rintro ex wx ⟨rfl,rfl⟩;rw [decide_eq_true G_day.out]) | (go_at_call 230;with_reducible refine (to_any e.kind 20 _).mono ?_;rintro ex wx ⟨rfl,rfl⟩;rw [decide_eq_true G_kind.out]) | (go_at_call 231;refine (rspare_any e HK.out a1 a2 a3 c1 c2 c3 _).mono ?_;rintro ex wx ⟨rfl,u⟩;rw [decide_eq_true G_plain.out];have U:=hid (U.out.trans u);have hb:=(u.block _ (heap_lt HB.out) id).trans HB.out;have HB:=hid hb;clear d0 d1 d2 d3 d4 d5 d6 d7 d8 d9 d10 d11 d12;obtain ⟨d0,d1,d2,d3,d4,d5,d6,d7,d8,d9,d10,d11,d12⟩:=cells13 hb;have hz:=heap_lt hb;clear hb;clear u) | (go_at_call 232;with_reducible refine (rasc_any A _ e.knows 1073741824 _ (HR.out.keep U.out).knows).mono ?_;rintro ex wx ⟨rfl,u⟩;rw [decide_eq_true G_asc.out];have U:=hid (U.out.trans u);have hb:=(u.block _ (heap_lt HB.out) id).trans HB.out;have HB:=hid hb;clear d0 d1 d2 d3 d4 d5 d6 d7 d8 d9 d10 d11 d12;obtain ⟨d0,d1,d2,d3,d4,d5,d6,d7,d8,d9,d10,d11,d12⟩:=cells13 hb;have hz:=heap_lt hb;clear hb;clear u) | (go_at_call 230;with_reducible refine (to_any e.circle 1073741824 _).mono ?_;rintro ex wx ⟨rfl,rfl⟩;rw [decide_eq_true G_circle.out]) | (go_at_call 230;with_reducible refine (to_any e.who 199 _).mono ?_;rintro ex wx ⟨rfl,rfl⟩;rw [decide_eq_true G_who.out]) | (go_at_call 233;with_reducible refine (ruses_any e.kind HK.out _).mono ?_;rintro ex wx ⟨rfl,rfl⟩) | (go_at_call 234;with_reducible refine (rin_any (useF e.kind) 107 107 rfl (use_len _) _).mono ?_;rintro ex wx ⟨rfl,rfl⟩;rw [decide_eq_true HKU.out]) | (go_at_call 232;with_reducible refine (rasc_any A _ e.keys 199 _ (HR.out.keep U.out).keys).mono ?_;rintro ex wx ⟨rfl,u⟩;rw [decide_eq_true G_k3.out];have U:=hid (U.out.trans u);have hb:=(u.block _ (heap_lt HB.out) id).trans HB.out;have HB:=hid hb;clear d0 d1 d2 d3 d4 d5 d6 d7 d8 d9 d10 d11 d12;obtain ⟨d0,d1,d2,d3,d4,d5,d6,d7,d8,d9,d10,d11,d12⟩:=cells13 hb;have hz:=heap_lt hb;clear hb;clear u) | (go_at_call 234;with_reducible refine (rin_any (useF e.kind) 115 115 rfl (use_len _) _).mono ?_;rintro ex wx ⟨rfl,rfl⟩;rw [decide_eq_false HSU.out]) | (go_at_call 236;refine (rref_any e HK.out a1 a2 a3 c1 c2 c3 _).mono ?_;rintro ex wx ⟨rfl,u⟩;rw [decide_eq_true G_ref.out];have U:=hid (U.out.trans u);have hb:=(u.block _ (heap_lt HB.out) id).trans HB.out;have HB:=hid hb;clear d0 d1 d2 d3 d4 d5 d6 d7 d8 d9 d10 d11 d12;obtain ⟨d0,d1,d2,d3,d4,d5,d6,d7,d8,d9,d10,d11,d12⟩:=cells13 hb;have hz:=heap_lt hb;clear hb;clear u) | (go_at_call 237;refine (rn_any e HK.out a1 a2 a3 c1 c2 c3 _).mono ?_;rintro ex wx ⟨rfl,u⟩;rw [decide_eq_false G_nn.out];have U:=hid (U.out.trans u);have hb:=(u.block _ (heap_lt HB.out) id).trans HB.out;have HB:=hid hb;clear d0 d1 d2 d3 d4 d5 d6 d7 d8 d9 d10 d11 d12;obtain ⟨d0,d1,d2,d3,d4,d5,d6,d7,d8,d9,d10,d11,d12⟩:=cells13 hb;have hz:=heap_lt hb;clear hb;clear u))
   go_ret
   exact ⟨ret_f NO.out,U.out⟩
  have G_nn:=hid h_nn
  clear h_nn
  by_cases h_mm:mR e
  case neg =>
   as_aux_lemma =>
   have NO:=hid (show ¬RightE e from fun h0=>h_mm (show mR e from ((fun h:RightR e=>h.m) ((rightR_iff e).2 h0))))
   have G_mm:=hid h_mm
   clear h_mm
   unfold enV
   go_enter Tryz.func174,Tryz.ntmps174
   go_wp2_with fail
   have hW:=HW0.out
   unfold en13 at hW
   rw [<-hW]
   clear hW
   go_wp2_with (first | (go_at_call 230;with_reducible refine (to_any e.author 199 _).mono ?_;rintro ex wx ⟨rfl,rfl⟩;rw [decide_eq_true G_author.out]) | (go_at_call 230;with_reducible refine (to_any e.seq 1048575 _).mono ?_;rintro ex wx ⟨rfl,rfl⟩;rw [decide_eq_true G_seq.out]) | (go_at_call 230;with_reducible refine (to_any e.day 1048576 _).mono ?_;rintro ex wx ⟨rfl,rfl⟩;rw [decide_eq_true G_day.out]) | (go_at_call 230;with_reducible refine (to_any e.kind 20 _).mono ?_;rintro ex wx ⟨rfl,rfl⟩;rw [decide_eq_true G_kind.out]) | (go_at_call 231;refine (rspare_any e HK.out a1 a2 a3 c1 c2 c3 _).mono ?_;rintro ex wx ⟨rfl,u⟩;rw [decide_eq_true G_plain.out];have U:=hid (U.out.trans u);have hb:=(u.block _ (heap_lt HB.out) id).trans HB.out;have HB:=hid hb;clear d0 d1 d2 d3 d4 d5 d6 d7 d8 d9 d10 d11 d12;obtain ⟨d0,d1,d2,d3,d4,d5,d6,d7,d8,d9,d10,d11,d12⟩:=cells13 hb;have hz:=heap_lt hb;clear hb;clear u) | (go_at_call 232;with_reducible refine (rasc_any A _ e.knows 1073741824 _ (HR.out.keep U.out).knows).mono ?_;rintro ex wx ⟨rfl,u⟩;rw [decide_eq_true G_asc.out];have U:=hid (U.out.trans u);have hb:=(u.block _ (heap_lt HB.out) id).trans HB.out;have HB:=hid hb;clear d0 d1 d2 d3 d4 d5 d6 d7 d8 d9 d10 d11 d12;obtain ⟨d0,d1,d2,d3,d4,d5,d6,d7,d8,d9,d10,d11,d12⟩:=cells13 hb;have hz:=heap_lt hb;clear hb;clear u) | (go_at_call 230;with_reducible refine (to_any e.circle 1073741824 _).mono ?_;rintro ex wx ⟨rfl,rfl⟩;rw [decide_eq_true G_circle.out]) | (go_at_call 230;with_reducible refine (to_any e.who 199 _).mono ?_;rintro ex wx ⟨rfl,rfl⟩;rw [decide_eq_true G_who.out]) | (go_at_call 233;with_reducible refine (ruses_any e.kind HK.out _).mono ?_;rintro ex wx ⟨rfl,rfl⟩) | (go_at_call 234;with_reducible refine (rin_any (useF e.kind) 107 107 rfl (use_len _) _).mono ?_;rintro ex wx ⟨rfl,rfl⟩;rw [decide_eq_true HKU.out]) | (go_at_call 232;with_reducible refine (rasc_any A _ e.keys 199 _ (HR.out.keep U.out).keys).mono ?_;rintro ex wx ⟨rfl,u⟩;rw [decide_eq_true G_k3.out];have U:=hid (U.out.trans u);have hb:=(u.block _ (heap_lt HB.out) id).trans HB.out;have HB:=hid hb;clear d0 d1 d2 d3 d4 d5 d6 d7 d8 d9 d10 d11 d12;obtain ⟨d0,d1,d2,d3,d4,d5,d6,d7,d8,d9,d10,d11,d12⟩:=cells13 hb;have hz:=heap_lt hb;clear hb;clear u) | (go_at_call 234;with_reducible refine (rin_any (useF e.kind) 115 115 rfl (use_len _) _).mono ?_;rintro ex wx ⟨rfl,rfl⟩;rw [decide_eq_false HSU.out]) | (go_at_call 236;refine (rref_any e HK.out a1 a2 a3 c1 c2 c3 _).mono ?_;rintro ex wx ⟨rfl,u⟩;rw [decide_eq_true G_ref.out];have U:=hid (U.out.trans u);have hb:=(u.block _ (heap_lt HB.out) id).trans HB.out;have HB:=hid hb;clear d0 d1 d2 d3 d4 d5 d6 d7 d8 d9 d10 d11 d12;obtain ⟨d0,d1,d2,d3,d4,d5,d6,d7,d8,d9,d10,d11,d12⟩:=cells13 hb;have hz:=heap_lt hb;clear hb;clear u) | (go_at_call 237;refine (rn_any e HK.out a1 a2 a3 c1 c2 c3 _).mono ?_;rintro ex wx ⟨rfl,u⟩;rw [decide_eq_true G_nn.out];have U:=hid (U.out.trans u);have hb:=(u.block _ (heap_lt HB.out) id).trans HB.out;have HB:=hid hb;clear d0 d1 d2 d3 d4 d5 d6 d7 d8 d9 d10 d11 d12;obtain ⟨d0,d1,d2,d3,d4,d5,d6,d7,d8,d9,d10,d11,d12⟩:=cells13 hb;have hz:=heap_lt hb;clear hb;clear u) | (go_at_call 238;refine (rm_any e a1 a2 a3 c1 c2 c3 _).mono ?_;rintro ex wx ⟨rfl,u⟩;rw [decide_eq_false G_mm.out];have U:=hid (U.out.trans u);have hb:=(u.block _ (heap_lt HB.out) id).trans HB.out;have HB:=hid hb;clear d0 d1 d2 d3 d4 d5 d6 d7 d8 d9 d10 d11 d12;obtain ⟨d0,d1,d2,d3,d4,d5,d6,d7,d8,d9,d10,d11,d12⟩:=cells13 hb;have hz:=heap_lt hb;clear hb;clear u))
   go_ret
   exact ⟨ret_f NO.out,U.out⟩
  have G_mm:=hid h_mm
  clear h_mm
  have YES:=hid (show RightE e from (rightR_iff e).1 ⟨G_author.out,G_seq.out,G_day.out,G_kind.out,G_plain.out,⟨h_kl,G_asc.out⟩,G_circle.out,G_who.out,h_text,fun _=>⟨h_k1,h_k2,G_k3.out⟩,fun h=>absurd h HSU.out,G_ref.out,G_nn.out,G_mm.out⟩)
  unfold enV
  go_enter Tryz.func174,Tryz.ntmps174
  go_wp2_with fail
  have hW:=HW0.out
  unfold en13 at hW
  rw [<-hW]
  clear hW
  go_wp2_with (first | (go_at_call 230;with_reducible refine (to_any e.author 199 _).mono ?_;rintro ex wx ⟨rfl,rfl⟩;rw [decide_eq_true G_author.out]) | (go_at_call 230;with_reducible refine (to_any e.seq 1048575 _).mono ?_;rintro ex wx ⟨rfl,rfl⟩;rw [decide_eq_true G_seq.out]) | (go_at_call 230;with_reducible refine (to_any e.day 1048576 _).mono ?_;rintro ex wx ⟨rfl,rfl⟩;rw [decide_eq_true G_day.out]) | (go_at_call 230;with_reducible refine (to_any e.kind 20 _).mono ?_;rintro ex wx ⟨rfl,rfl⟩;rw [decide_eq_true G_kind.out]) | (go_at_call 231;refine (rspare_any e HK.out a1 a2 a3 c1 c2 c3 _).mono ?_;rintro ex wx ⟨rfl,u⟩;rw [decide_eq_true G_plain.out];have U:=hid (U.out.trans u);have hb:=(u.block _ (heap_lt HB.out) id).trans HB.out;have HB:=hid hb;clear d0 d1 d2 d3 d4 d5 d6 d7 d8 d9 d10 d11 d12;obtain ⟨d0,d1,d2,d3,d4,d5,d6,d7,d8,d9,d10,d11,d12⟩:=cells13 hb;have hz:=heap_lt hb;clear hb;clear u) | (go_at_call 232;with_reducible refine (rasc_any A _ e.knows 1073741824 _ (HR.out.keep U.out).knows).mono ?_;rintro ex wx ⟨rfl,u⟩;rw [decide_eq_true G_asc.out];have U:=hid (U.out.trans u);have hb:=(u.block _ (heap_lt HB.out) id).trans HB.out;have HB:=hid hb;clear d0 d1 d2 d3 d4 d5 d6 d7 d8 d9 d10 d11 d12;obtain ⟨d0,d1,d2,d3,d4,d5,d6,d7,d8,d9,d10,d11,d12⟩:=cells13 hb;have hz:=heap_lt hb;clear hb;clear u) | (go_at_call 230;with_reducible refine (to_any e.circle 1073741824 _).mono ?_;rintro ex wx ⟨rfl,rfl⟩;rw [decide_eq_true G_circle.out]) | (go_at_call 230;with_reducible refine (to_any e.who 199 _).mono ?_;rintro ex wx ⟨rfl,rfl⟩;rw [decide_eq_true G_who.out]) | (go_at_call 233;with_reducible refine (ruses_any e.kind HK.out _).mono ?_;rintro ex wx ⟨rfl,rfl⟩) | (go_at_call 234;with_reducible refine (rin_any (useF e.kind) 107 107 rfl (use_len _) _).mono ?_;rintro ex wx ⟨rfl,rfl⟩;rw [decide_eq_true HKU.out]) | (go_at_call 232;with_reducible refine (rasc_any A _ e.keys 199 _ (HR.out.keep U.out).keys).mono ?_;rintro ex wx ⟨rfl,u⟩;rw [decide_eq_true G_k3.out];have U:=hid (U.out.trans u);have hb:=(u.block _ (heap_lt HB.out) id).trans HB.out;have HB:=hid hb;clear d0 d1 d2 d3 d4 d5 d6 d7 d8 d9 d10 d11 d12;obtain ⟨d0,d1,d2,d3,d4,d5,d6,d7,d8,d9,d10,d11,d12⟩:=cells13 hb;have hz:=heap_lt hb;clear hb;clear u) | (go_at_call 234;with_reducible refine (rin_any (useF e.kind) 115 115 rfl (use_len _) _).mono ?_;rintro ex wx ⟨rfl,rfl⟩;rw [decide_eq_false HSU.out]) | (go_at_call 236;refine (rref_any e HK.out a1 a2 a3 c1 c2 c3 _).mono ?_;rintro ex wx ⟨rfl,u⟩;rw [decide_eq_true G_ref.out];have U:=hid (U.out.trans u);have hb:=(u.block _ (heap_lt HB.out) id).trans HB.out;have HB:=hid hb;clear d0 d1 d2 d3 d4 d5 d6 d7 d8 d9 d10 d11 d12;obtain ⟨d0,d1,d2,d3,d4,d5,d6,d7,d8,d9,d10,d11,d12⟩:=cells13 hb;have hz:=heap_lt hb;clear hb;clear u) | (go_at_call 237;refine (rn_any e HK.out a1 a2 a3 c1 c2 c3 _).mono ?_;rintro ex wx ⟨rfl,u⟩;rw [decide_eq_true G_nn.out];have U:=hid (U.out.trans u);have hb:=(u.block _ (heap_lt HB.out) id).trans HB.out;have HB:=hid hb;clear d0 d1 d2 d3 d4 d5 d6 d7 d8 d9 d10 d11 d12;obtain ⟨d0,d1,d2,d3,d4,d5,d6,d7,d8,d9,d10,d11,d12⟩:=cells13 hb;have hz:=heap_lt hb;clear hb;clear u) | (go_at_call 238;refine (rm_any e a1 a2 a3 c1 c2 c3 _).mono ?_;rintro ex wx ⟨rfl,u⟩;rw [decide_eq_true G_mm.out];have U:=hid (U.out.trans u);have hb:=(u.block _ (heap_lt HB.out) id).trans HB.out;have HB:=hid hb;clear d0 d1 d2 d3 d4 d5 d6 d7 d8 d9 d10 d11 d12;obtain ⟨d0,d1,d2,d3,d4,d5,d6,d7,d8,d9,d10,d11,d12⟩:=cells13 hb;have hz:=heap_lt hb;clear hb;clear u))
  go_ret
  exact ⟨ret_t YES.out,U.out⟩
 have HKU:=hid h_ku
 clear h_ku
 by_cases h_su:115∈useF e.kind
 case pos =>
  have HSU:=hid h_su
  clear h_su
  by_cases h_s1:1<=e.spans.length
  case neg =>
   as_aux_lemma =>
   have NO:=hid (show ¬RightE e from fun h0=>h_s1 (show 1<=e.spans.length from ((fun h:RightR e=>(h.spans HSU.out).1) ((rightR_iff e).2 h0))))
   have h_s1:=Nat.lt_of_not_le h_s1
   unfold enV
   go_enter Tryz.func174,Tryz.ntmps174
   go_wp2_with fail
   have hW:=HW0.out
   unfold en13 at hW
   rw [<-hW]
   clear hW
   go_wp2_with (first | (go_at_call 230;with_reducible refine (to_any e.author 199 _).mono ?_;rintro ex wx ⟨rfl,rfl⟩;rw [decide_eq_true G_author.out]) | (go_at_call 230;with_reducible refine (to_any e.seq 1048575 _).mono ?_;rintro ex wx ⟨rfl,rfl⟩;rw [decide_eq_true G_seq.out]) | (go_at_call 230;with_reducible refine (to_any e.day 1048576 _).mono ?_;rintro ex wx ⟨rfl,rfl⟩;rw [decide_eq_true G_day.out]) | (go_at_call 230;with_reducible refine (to_any e.kind 20 _).mono ?_;rintro ex wx ⟨rfl,rfl⟩;rw [decide_eq_true G_kind.out]) | (go_at_call 231;refine (rspare_any e HK.out a1 a2 a3 c1 c2 c3 _).mono ?_;rintro ex wx ⟨rfl,u⟩;rw [decide_eq_true G_plain.out];have U:=hid (U.out.trans u);have hb:=(u.block _ (heap_lt HB.out) id).trans HB.out;have HB:=hid hb;clear d0 d1 d2 d3 d4 d5 d6 d7 d8 d9 d10 d11 d12;obtain ⟨d0,d1,d2,d3,d4,d5,d6,d7,d8,d9,d10,d11,d12⟩:=cells13 hb;have hz:=heap_lt hb;clear hb;clear u) | (go_at_call 232;with_reducible refine (rasc_any A _ e.knows 1073741824 _ (HR.out.keep U.out).knows).mono ?_;rintro ex wx ⟨rfl,u⟩;rw [decide_eq_true G_asc.out];have U:=hid (U.out.trans u);have hb:=(u.block _ (heap_lt HB.out) id).trans HB.out;have HB:=hid hb;clear d0 d1 d2 d3 d4 d5 d6 d7 d8 d9 d10 d11 d12;obtain ⟨d0,d1,d2,d3,d4,d5,d6,d7,d8,d9,d10,d11,d12⟩:=cells13 hb;have hz:=heap_lt hb;clear hb;clear u) | (go_at_call 230;with_reducible refine (to_any e.circle 1073741824 _).mono ?_;rintro ex wx ⟨rfl,rfl⟩;rw [decide_eq_true G_circle.out]) | (go_at_call 230;with_reducible refine (to_any e.who 199 _).mono ?_;rintro ex wx ⟨rfl,rfl⟩;rw [decide_eq_true G_who.out]) | (go_at_call 233;with_reducible refine (ruses_any e.kind HK.out _).mono ?_;rintro ex wx ⟨rfl,rfl⟩) | (go_at_call 234;with_reducible refine (rin_any (useF e.kind) 107 107 rfl (use_len _) _).mono ?_;rintro ex wx ⟨rfl,rfl⟩;rw [decide_eq_false HKU.out]) | (go_at_call 234;with_reducible refine (rin_any (useF e.kind) 115 115 rfl (use_len _) _).mono ?_;rintro ex wx ⟨rfl,rfl⟩;rw [decide_eq_true HSU.out]))
   go_ret
   exact ⟨ret_f NO.out,U.out⟩
  by_cases h_s2:e.spans.length<=40
  case neg =>
   as_aux_lemma =>
   have NO:=hid (show ¬RightE e from fun h0=>h_s2 (show e.spans.length<=40 from ((fun h:RightR e=>(h.spans HSU.out).2.1) ((rightR_iff e).2 h0))))
   have h_s2:=Nat.lt_of_not_le h_s2
   unfold enV
   go_enter Tryz.func174,Tryz.ntmps174
   go_wp2_with fail
   have hW:=HW0.out
   unfold en13 at hW
   rw [<-hW]
   clear hW
   go_wp2_with (first | (go_at_call 230;with_reducible refine (to_any e.author 199 _).mono ?_;rintro ex wx ⟨rfl,rfl⟩;rw [decide_eq_true G_author.out]) | (go_at_call 230;with_reducible refine (to_any e.seq 1048575 _).mono ?_;rintro ex wx ⟨rfl,rfl⟩;rw [decide_eq_true G_seq.out]) | (go_at_call 230;with_reducible refine (to_any e.day 1048576 _).mono ?_;rintro ex wx ⟨rfl,rfl⟩;rw [decide_eq_true G_day.out]) | (go_at_call 230;with_reducible refine (to_any e.kind 20 _).mono ?_;rintro ex wx ⟨rfl,rfl⟩;rw [decide_eq_true G_kind.out]) | (go_at_call 231;refine (rspare_any e HK.out a1 a2 a3 c1 c2 c3 _).mono ?_;rintro ex wx ⟨rfl,u⟩;rw [decide_eq_true G_plain.out];have U:=hid (U.out.trans u);have hb:=(u.block _ (heap_lt HB.out) id).trans HB.out;have HB:=hid hb;clear d0 d1 d2 d3 d4 d5 d6 d7 d8 d9 d10 d11 d12;obtain ⟨d0,d1,d2,d3,d4,d5,d6,d7,d8,d9,d10,d11,d12⟩:=cells13 hb;have hz:=heap_lt hb;clear hb;clear u) | (go_at_call 232;with_reducible refine (rasc_any A _ e.knows 1073741824 _ (HR.out.keep U.out).knows).mono ?_;rintro ex wx ⟨rfl,u⟩;rw [decide_eq_true G_asc.out];have U:=hid (U.out.trans u);have hb:=(u.block _ (heap_lt HB.out) id).trans HB.out;have HB:=hid hb;clear d0 d1 d2 d3 d4 d5 d6 d7 d8 d9 d10 d11 d12;obtain ⟨d0,d1,d2,d3,d4,d5,d6,d7,d8,d9,d10,d11,d12⟩:=cells13 hb;have hz:=heap_lt hb;clear hb;clear u) | (go_at_call 230;with_reducible refine (to_any e.circle 1073741824 _).mono ?_;rintro ex wx ⟨rfl,rfl⟩;rw [decide_eq_true G_circle.out]) | (go_at_call 230;with_reducible refine (to_any e.who 199 _).mono ?_;rintro ex wx ⟨rfl,rfl⟩;rw [decide_eq_true G_who.out]) | (go_at_call 233;with_reducible refine (ruses_any e.kind HK.out _).mono ?_;rintro ex wx ⟨rfl,rfl⟩) | (go_at_call 234;with_reducible refine (rin_any (useF e.kind) 107 107 rfl (use_len _) _).mono ?_;rintro ex wx ⟨rfl,rfl⟩;rw [decide_eq_false HKU.out]) | (go_at_call 234;with_reducible refine (rin_any (useF e.kind) 115 115 rfl (use_len _) _).mono ?_;rintro ex wx ⟨rfl,rfl⟩;rw [decide_eq_true HSU.out]))
   go_ret
   exact ⟨ret_f NO.out,U.out⟩
  by_cases h_s3:nrmP e.spans
  case neg =>
   as_aux_lemma =>
   have NO:=hid (show ¬RightE e from fun h0=>h_s3 (show nrmP e.spans from ((fun h:RightR e=>(h.spans HSU.out).2.2) ((rightR_iff e).2 h0))))
   have G_s3:=hid h_s3
   clear h_s3
   unfold enV
   go_enter Tryz.func174,Tryz.ntmps174
   go_wp2_with fail
   have hW:=HW0.out
   unfold en13 at hW
   rw [<-hW]
   clear hW
   go_wp2_with (first | (go_at_call 230;with_reducible refine (to_any e.author 199 _).mono ?_;rintro ex wx ⟨rfl,rfl⟩;rw [decide_eq_true G_author.out]) | (go_at_call 230;with_reducible refine (to_any e.seq 1048575 _).mono ?_;rintro ex wx ⟨rfl,rfl⟩;rw [decide_eq_true G_seq.out]) | (go_at_call 230;with_reducible refine (to_any e.day 1048576 _).mono ?_;rintro ex wx ⟨rfl,rfl⟩;rw [decide_eq_true G_day.out]) | (go_at_call 230;with_reducible refine (to_any e.kind 20 _).mono ?_;rintro ex wx ⟨rfl,rfl⟩;rw [decide_eq_true G_kind.out]) | (go_at_call 231;refine (rspare_any e HK.out a1 a2 a3 c1 c2 c3 _).mono ?_;rintro ex wx ⟨rfl,u⟩;rw [decide_eq_true G_plain.out];have U:=hid (U.out.trans u);have hb:=(u.block _ (heap_lt HB.out) id).trans HB.out;have HB:=hid hb;clear d0 d1 d2 d3 d4 d5 d6 d7 d8 d9 d10 d11 d12;obtain ⟨d0,d1,d2,d3,d4,d5,d6,d7,d8,d9,d10,d11,d12⟩:=cells13 hb;have hz:=heap_lt hb;clear hb;clear u) | (go_at_call 232;with_reducible refine (rasc_any A _ e.knows 1073741824 _ (HR.out.keep U.out).knows).mono ?_;rintro ex wx ⟨rfl,u⟩;rw [decide_eq_true G_asc.out];have U:=hid (U.out.trans u);have hb:=(u.block _ (heap_lt HB.out) id).trans HB.out;have HB:=hid hb;clear d0 d1 d2 d3 d4 d5 d6 d7 d8 d9 d10 d11 d12;obtain ⟨d0,d1,d2,d3,d4,d5,d6,d7,d8,d9,d10,d11,d12⟩:=cells13 hb;have hz:=heap_lt hb;clear hb;clear u) | (go_at_call 230;with_reducible refine (to_any e.circle 1073741824 _).mono ?_;rintro ex wx ⟨rfl,rfl⟩;rw [decide_eq_true G_circle.out]) | (go_at_call 230;with_reducible refine (to_any e.who 199 _).mono ?_;rintro ex wx ⟨rfl,rfl⟩;rw [decide_eq_true G_who.out]) | (go_at_call 233;with_reducible refine (ruses_any e.kind HK.out _).mono ?_;rintro ex wx ⟨rfl,rfl⟩) | (go_at_call 234;with_reducible refine (rin_any (useF e.kind) 107 107 rfl (use_len _) _).mono ?_;rintro ex wx ⟨rfl,rfl⟩;rw [decide_eq_false HKU.out]) | (go_at_call 234;with_reducible refine (rin_any (useF e.kind) 115 115 rfl (use_len _) _).mono ?_;rintro ex wx ⟨rfl,rfl⟩;rw [decide_eq_true HSU.out]) | (go_at_call 235;with_reducible refine (rnrm_any A _ e.spans _ (HR.out.keep U.out).spans).mono ?_;rintro ex wx ⟨rfl,u⟩;rw [decide_eq_false G_s3.out];have U:=hid (U.out.trans u);have hb:=(u.block _ (heap_lt HB.out) id).trans HB.out;have HB:=hid hb;clear d0 d1 d2 d3 d4 d5 d6 d7 d8 d9 d10 d11 d12;obtain ⟨d0,d1,d2,d3,d4,d5,d6,d7,d8,d9,d10,d11,d12⟩:=cells13 hb;have hz:=heap_lt hb;clear hb;clear u))
   go_ret
   exact ⟨ret_f NO.out,U.out⟩
  have G_s3:=hid h_s3
  clear h_s3
  by_cases h_ref:refR e
  case neg =>
   as_aux_lemma =>
   have NO:=hid (show ¬RightE e from fun h0=>h_ref (show refR e from ((fun h:RightR e=>h.ref) ((rightR_iff e).2 h0))))
   have G_ref:=hid h_ref
   clear h_ref
   unfold enV
   go_enter Tryz.func174,Tryz.ntmps174
   go_wp2_with fail
   have hW:=HW0.out
   unfold en13 at hW
   rw [<-hW]
   clear hW
   go_wp2_with (first | (go_at_call 230;with_reducible refine (to_any e.author 199 _).mono ?_;rintro ex wx ⟨rfl,rfl⟩;rw [decide_eq_true G_author.out]) | (go_at_call 230;with_reducible refine (to_any e.seq 1048575 _).mono ?_;rintro ex wx ⟨rfl,rfl⟩;rw [decide_eq_true G_seq.out]) | (go_at_call 230;with_reducible refine (to_any e.day 1048576 _).mono ?_;rintro ex wx ⟨rfl,rfl⟩;rw [decide_eq_true G_day.out]) | (go_at_call 230;with_reducible refine (to_any e.kind 20 _).mono ?_;rintro ex wx ⟨rfl,rfl⟩;rw [decide_eq_true G_kind.out]) | (go_at_call 231;refine (rspare_any e HK.out a1 a2 a3 c1 c2 c3 _).mono ?_;rintro ex wx ⟨rfl,u⟩;rw [decide_eq_true G_plain.out];have U:=hid (U.out.trans u);have hb:=(u.block _ (heap_lt HB.out) id).trans HB.out;have HB:=hid hb;clear d0 d1 d2 d3 d4 d5 d6 d7 d8 d9 d10 d11 d12;obtain ⟨d0,d1,d2,d3,d4,d5,d6,d7,d8,d9,d10,d11,d12⟩:=cells13 hb;have hz:=heap_lt hb;clear hb;clear u) | (go_at_call 232;with_reducible refine (rasc_any A _ e.knows 1073741824 _ (HR.out.keep U.out).knows).mono ?_;rintro ex wx ⟨rfl,u⟩;rw [decide_eq_true G_asc.out];have U:=hid (U.out.trans u);have hb:=(u.block _ (heap_lt HB.out) id).trans HB.out;have HB:=hid hb;clear d0 d1 d2 d3 d4 d5 d6 d7 d8 d9 d10 d11 d12;obtain ⟨d0,d1,d2,d3,d4,d5,d6,d7,d8,d9,d10,d11,d12⟩:=cells13 hb;have hz:=heap_lt hb;clear hb;clear u) | (go_at_call 230;with_reducible refine (to_any e.circle 1073741824 _).mono ?_;rintro ex wx ⟨rfl,rfl⟩;rw [decide_eq_true G_circle.out]) | (go_at_call 230;with_reducible refine (to_any e.who 199 _).mono ?_;rintro ex wx ⟨rfl,rfl⟩;rw [decide_eq_true G_who.out]) | (go_at_call 233;with_reducible refine (ruses_any e.kind HK.out _).mono ?_;rintro ex wx ⟨rfl,rfl⟩) | (go_at_call 234;with_reducible refine (rin_any (useF e.kind) 107 107 rfl (use_len _) _).mono ?_;rintro ex wx ⟨rfl,rfl⟩;rw [decide_eq_false HKU.out]) | (go_at_call 234;with_reducible refine (rin_any (useF e.kind) 115 115 rfl (use_len _) _).mono ?_;rintro ex wx ⟨rfl,rfl⟩;rw [decide_eq_true HSU.out]) | (go_at_call 235;with_reducible refine (rnrm_any A _ e.spans _ (HR.out.keep U.out).spans).mono ?_;rintro ex wx ⟨rfl,u⟩;rw [decide_eq_true G_s3.out];have U:=hid (U.out.trans u);have hb:=(u.block _ (heap_lt HB.out) id).trans HB.out;have HB:=hid hb;clear d0 d1 d2 d3 d4 d5 d6 d7 d8 d9 d10 d11 d12;obtain ⟨d0,d1,d2,d3,d4,d5,d6,d7,d8,d9,d10,d11,d12⟩:=cells13 hb;have hz:=heap_lt hb;clear hb;clear u) | (go_at_call 236;refine (rref_any e HK.out a1 a2 a3 c1 c2 c3 _).mono ?_;rintro ex wx ⟨rfl,u⟩;rw [decide_eq_false G_ref.out];have U:=hid (U.out.trans u);have hb:=(u.block _ (heap_lt HB.out) id).trans HB.out;have HB:=hid hb;clear d0 d1 d2 d3 d4 d5 d6 d7 d8 d9 d10 d11 d12;obtain ⟨d0,d1,d2,d3,d4,d5,d6,d7,d8,d9,d10,d11,d12⟩:=cells13 hb;have hz:=heap_lt hb;clear hb;clear u))
   go_ret
   exact ⟨ret_f NO.out,U.out⟩
  have G_ref:=hid h_ref
  clear h_ref
  by_cases h_nn:nR e
  case neg =>
   as_aux_lemma =>
   have NO:=hid (show ¬RightE e from fun h0=>h_nn (show nR e from ((fun h:RightR e=>h.n) ((rightR_iff e).2 h0))))
   have G_nn:=hid h_nn
   clear h_nn
   unfold enV
   go_enter Tryz.func174,Tryz.ntmps174
   go_wp2_with fail
   have hW:=HW0.out
   unfold en13 at hW
   rw [<-hW]
   clear hW
   go_wp2_with (first | (go_at_call 230;with_reducible refine (to_any e.author 199 _).mono ?_;rintro ex wx ⟨rfl,rfl⟩;rw [decide_eq_true G_author.out]) | (go_at_call 230;with_reducible refine (to_any e.seq 1048575 _).mono ?_;rintro ex wx ⟨rfl,rfl⟩;rw [decide_eq_true G_seq.out]) | (go_at_call 230;with_reducible refine (to_any e.day 1048576 _).mono ?_;rintro ex wx ⟨rfl,rfl⟩;rw [decide_eq_true G_day.out]) | (go_at_call 230;with_reducible refine (to_any e.kind 20 _).mono ?_;rintro ex wx ⟨rfl,rfl⟩;rw [decide_eq_true G_kind.out]) | (go_at_call 231;refine (rspare_any e HK.out a1 a2 a3 c1 c2 c3 _).mono ?_;rintro ex wx ⟨rfl,u⟩;rw [decide_eq_true G_plain.out];have U:=hid (U.out.trans u);have hb:=(u.block _ (heap_lt HB.out) id).trans HB.out;have HB:=hid hb;clear d0 d1 d2 d3 d4 d5 d6 d7 d8 d9 d10 d11 d12;obtain ⟨d0,d1,d2,d3,d4,d5,d6,d7,d8,d9,d10,d11,d12⟩:=cells13 hb;have hz:=heap_lt hb;clear hb;clear u) | (go_at_call 232;with_reducible refine (rasc_any A _ e.knows 1073741824 _ (HR.out.keep U.out).knows).mono ?_;rintro ex wx ⟨rfl,u⟩;rw [decide_eq_true G_asc.out];have U:=hid (U.out.trans u);have hb:=(u.block _ (heap_lt HB.out) id).trans HB.out;have HB:=hid hb;clear d0 d1 d2 d3 d4 d5 d6 d7 d8 d9 d10 d11 d12;obtain ⟨d0,d1,d2,d3,d4,d5,d6,d7,d8,d9,d10,d11,d12⟩:=cells13 hb;have hz:=heap_lt hb;clear hb;clear u) | (go_at_call 230;with_reducible refine (to_any e.circle 1073741824 _).mono ?_;rintro ex wx ⟨rfl,rfl⟩;rw [decide_eq_true G_circle.out]) | (go_at_call 230;with_reducible refine (to_any e.who 199 _).mono ?_;rintro ex wx ⟨rfl,rfl⟩;rw [decide_eq_true G_who.out]) | (go_at_call 233;with_reducible refine (ruses_any e.kind HK.out _).mono ?_;rintro ex wx ⟨rfl,rfl⟩) | (go_at_call 234;with_reducible refine (rin_any (useF e.kind) 107 107 rfl (use_len _) _).mono ?_;rintro ex wx ⟨rfl,rfl⟩;rw [decide_eq_false HKU.out]) | (go_at_call 234;with_reducible refine (rin_any (useF e.kind) 115 115 rfl (use_len _) _).mono ?_;rintro ex wx ⟨rfl,rfl⟩;rw [decide_eq_true HSU.out]) | (go_at_call 235;with_reducible refine (rnrm_any A _ e.spans _ (HR.out.keep U.out).spans).mono ?_;rintro ex wx ⟨rfl,u⟩;rw [decide_eq_true G_s3.out];have U:=hid (U.out.trans u);have hb:=(u.block _ (heap_lt HB.out) id).trans HB.out;have HB:=hid hb;clear d0 d1 d2 d3 d4 d5 d6 d7 d8 d9 d10 d11 d12;obtain ⟨d0,d1,d2,d3,d4,d5,d6,d7,d8,d9,d10,d11,d12⟩:=cells13 hb;have hz:=heap_lt hb;clear hb;clear u) | (go_at_call 236;refine (rref_any e HK.out a1 a2 a3 c1 c2 c3 _).mono ?_;rintro ex wx ⟨rfl,u⟩;rw [decide_eq_true G_ref.out];have U:=hid (U.out.trans u);have hb:=(u.block _ (heap_lt HB.out) id).trans HB.out;have HB:=hid hb;clear d0 d1 d2 d3 d4 d5 d6 d7 d8 d9 d10 d11 d12;obtain ⟨d0,d1,d2,d3,d4,d5,d6,d7,d8,d9,d10,d11,d12⟩:=cells13 hb;have hz:=heap_lt hb;clear hb;clear u) | (go_at_call 237;refine (rn_any e HK.out a1 a2 a3 c1 c2 c3 _).mono ?_;rintro ex wx ⟨rfl,u⟩;rw [decide_eq_false G_nn.out];have U:=hid (U.out.trans u);have hb:=(u.block _ (heap_lt HB.out) id).trans HB.out;have HB:=hid hb;clear d0 d1 d2 d3 d4 d5 d6 d7 d8 d9 d10 d11 d12;obtain ⟨d0,d1,d2,d3,d4,d5,d6,d7,d8,d9,d10,d11,d12⟩:=cells13 hb;have hz:=heap_lt hb;clear hb;clear u))
   go_ret
   exact ⟨ret_f NO.out,U.out⟩
  have G_nn:=hid h_nn
  clear h_nn
  by_cases h_mm:mR e
  case neg =>
   as_aux_lemma =>
   have NO:=hid (show ¬RightE e from fun h0=>h_mm (show mR e from ((fun h:RightR e=>h.m) ((rightR_iff e).2 h0))))
   have G_mm:=hid h_mm
   clear h_mm
   unfold enV
   go_enter Tryz.func174,Tryz.ntmps174
   go_wp2_with fail
   have hW:=HW0.out
   unfold en13 at hW
   rw [<-hW]
   clear hW
   go_wp2_with (first | (go_at_call 230;with_reducible refine (to_any e.author 199 _).mono ?_;rintro ex wx ⟨rfl,rfl⟩;rw [decide_eq_true G_author.out]) | (go_at_call 230;with_reducible refine (to_any e.seq 1048575 _).mono ?_;rintro ex wx ⟨rfl,rfl⟩;rw [decide_eq_true G_seq.out]) | (go_at_call 230;with_reducible refine (to_any e.day 1048576 _).mono ?_;rintro ex wx ⟨rfl,rfl⟩;rw [decide_eq_true G_day.out]) | (go_at_call 230;with_reducible refine (to_any e.kind 20 _).mono ?_;rintro ex wx ⟨rfl,rfl⟩;rw [decide_eq_true G_kind.out]) | (go_at_call 231;refine (rspare_any e HK.out a1 a2 a3 c1 c2 c3 _).mono ?_;rintro ex wx ⟨rfl,u⟩;rw [decide_eq_true G_plain.out];have U:=hid (U.out.trans u);have hb:=(u.block _ (heap_lt HB.out) id).trans HB.out;have HB:=hid hb;clear d0 d1 d2 d3 d4 d5 d6 d7 d8 d9 d10 d11 d12;obtain ⟨d0,d1,d2,d3,d4,d5,d6,d7,d8,d9,d10,d11,d12⟩:=cells13 hb;have hz:=heap_lt hb;clear hb;clear u) | (go_at_call 232;with_reducible refine (rasc_any A _ e.knows 1073741824 _ (HR.out.keep U.out).knows).mono ?_;rintro ex wx ⟨rfl,u⟩;rw [decide_eq_true G_asc.out];have U:=hid (U.out.trans u);have hb:=(u.block _ (heap_lt HB.out) id).trans HB.out;have HB:=hid hb;clear d0 d1 d2 d3 d4 d5 d6 d7 d8 d9 d10 d11 d12;obtain ⟨d0,d1,d2,d3,d4,d5,d6,d7,d8,d9,d10,d11,d12⟩:=cells13 hb;have hz:=heap_lt hb;clear hb;clear u) | (go_at_call 230;with_reducible refine (to_any e.circle 1073741824 _).mono ?_;rintro ex wx ⟨rfl,rfl⟩;rw [decide_eq_true G_circle.out]) | (go_at_call 230;with_reducible refine (to_any e.who 199 _).mono ?_;rintro ex wx ⟨rfl,rfl⟩;rw [decide_eq_true G_who.out]) | (go_at_call 233;with_reducible refine (ruses_any e.kind HK.out _).mono ?_;rintro ex wx ⟨rfl,rfl⟩) | (go_at_call 234;with_reducible refine (rin_any (useF e.kind) 107 107 rfl (use_len _) _).mono ?_;rintro ex wx ⟨rfl,rfl⟩;rw [decide_eq_false HKU.out]) | (go_at_call 234;with_reducible refine (rin_any (useF e.kind) 115 115 rfl (use_len _) _).mono ?_;rintro ex wx ⟨rfl,rfl⟩;rw [decide_eq_true HSU.out]) | (go_at_call 235;with_reducible refine (rnrm_any A _ e.spans _ (HR.out.keep U.out).spans).mono ?_;rintro ex wx ⟨rfl,u⟩;rw [decide_eq_true G_s3.out];have U:=hid (U.out.trans u);have hb:=(u.block _ (heap_lt HB.out) id).trans HB.out;have HB:=hid hb;clear d0 d1 d2 d3 d4 d5 d6 d7 d8 d9 d10 d11 d12;obtain ⟨d0,d1,d2,d3,d4,d5,d6,d7,d8,d9,d10,d11,d12⟩:=cells13 hb;have hz:=heap_lt hb;clear hb;clear u) | (go_at_call 236;refine (rref_any e HK.out a1 a2 a3 c1 c2 c3 _).mono ?_;rintro ex wx ⟨rfl,u⟩;rw [decide_eq_true G_ref.out];have U:=hid (U.out.trans u);have hb:=(u.block _ (heap_lt HB.out) id).trans HB.out;have HB:=hid hb;clear d0 d1 d2 d3 d4 d5 d6 d7 d8 d9 d10 d11 d12;obtain ⟨d0,d1,d2,d3,d4,d5,d6,d7,d8,d9,d10,d11,d12⟩:=cells13 hb;have hz:=heap_lt hb;clear hb;clear u) | (go_at_call 237;refine (rn_any e HK.out a1 a2 a3 c1 c2 c3 _).mono ?_;rintro ex wx ⟨rfl,u⟩;rw [decide_eq_true G_nn.out];have U:=hid (U.out.trans u);have hb:=(u.block _ (heap_lt HB.out) id).trans HB.out;have HB:=hid hb;clear d0 d1 d2 d3 d4 d5 d6 d7 d8 d9 d10 d11 d12;obtain ⟨d0,d1,d2,d3,d4,d5,d6,d7,d8,d9,d10,d11,d12⟩:=cells13 hb;have hz:=heap_lt hb;clear hb;clear u) | (go_at_call 238;refine (rm_any e a1 a2 a3 c1 c2 c3 _).mono ?_;rintro ex wx ⟨rfl,u⟩;rw [decide_eq_false G_mm.out];have U:=hid (U.out.trans u);have hb:=(u.block _ (heap_lt HB.out) id).trans HB.out;have HB:=hid hb;clear d0 d1 d2 d3 d4 d5 d6 d7 d8 d9 d10 d11 d12;obtain ⟨d0,d1,d2,d3,d4,d5,d6,d7,d8,d9,d10,d11,d12⟩:=cells13 hb;have hz:=heap_lt hb;clear hb;clear u))
   go_ret
   exact ⟨ret_f NO.out,U.out⟩
  have G_mm:=hid h_mm
  clear h_mm
  have YES:=hid (show RightE e from (rightR_iff e).1 ⟨G_author.out,G_seq.out,G_day.out,G_kind.out,G_plain.out,⟨h_kl,G_asc.out⟩,G_circle.out,G_who.out,h_text,fun h=>absurd h HKU.out,fun _=>⟨h_s1,h_s2,G_s3.out⟩,G_ref.out,G_nn.out,G_mm.out⟩)
  unfold enV
  go_enter Tryz.func174,Tryz.ntmps174
  go_wp2_with fail
  have hW:=HW0.out
  unfold en13 at hW
  rw [<-hW]
  clear hW
  go_wp2_with (first | (go_at_call 230;with_reducible refine (to_any e.author 199 _).mono ?_;rintro ex wx ⟨rfl,rfl⟩;rw [decide_eq_true G_author.out]) | (go_at_call 230;with_reducible refine (to_any e.seq 1048575 _).mono ?_;rintro ex wx ⟨rfl,rfl⟩;rw [decide_eq_true G_seq.out]) | (go_at_call 230;with_reducible refine (to_any e.day 1048576 _).mono ?_;rintro ex wx ⟨rfl,rfl⟩;rw [decide_eq_true G_day.out]) | (go_at_call 230;with_reducible refine (to_any e.kind 20 _).mono ?_;rintro ex wx ⟨rfl,rfl⟩;rw [decide_eq_true G_kind.out]) | (go_at_call 231;refine (rspare_any e HK.out a1 a2 a3 c1 c2 c3 _).mono ?_;rintro ex wx ⟨rfl,u⟩;rw [decide_eq_true G_plain.out];have U:=hid (U.out.trans u);have hb:=(u.block _ (heap_lt HB.out) id).trans HB.out;have HB:=hid hb;clear d0 d1 d2 d3 d4 d5 d6 d7 d8 d9 d10 d11 d12;obtain ⟨d0,d1,d2,d3,d4,d5,d6,d7,d8,d9,d10,d11,d12⟩:=cells13 hb;have hz:=heap_lt hb;clear hb;clear u) | (go_at_call 232;with_reducible refine (rasc_any A _ e.knows 1073741824 _ (HR.out.keep U.out).knows).mono ?_;rintro ex wx ⟨rfl,u⟩;rw [decide_eq_true G_asc.out];have U:=hid (U.out.trans u);have hb:=(u.block _ (heap_lt HB.out) id).trans HB.out;have HB:=hid hb;clear d0 d1 d2 d3 d4 d5 d6 d7 d8 d9 d10 d11 d12;obtain ⟨d0,d1,d2,d3,d4,d5,d6,d7,d8,d9,d10,d11,d12⟩:=cells13 hb;have hz:=heap_lt hb;clear hb;clear u) | (go_at_call 230;with_reducible refine (to_any e.circle 1073741824 _).mono ?_;rintro ex wx ⟨rfl,rfl⟩;rw [decide_eq_true G_circle.out]) | (go_at_call 230;with_reducible refine (to_any e.who 199 _).mono ?_;rintro ex wx ⟨rfl,rfl⟩;rw [decide_eq_true G_who.out]) | (go_at_call 233;with_reducible refine (ruses_any e.kind HK.out _).mono ?_;rintro ex wx ⟨rfl,rfl⟩) | (go_at_call 234;with_reducible refine (rin_any (useF e.kind) 107 107 rfl (use_len _) _).mono ?_;rintro ex wx ⟨rfl,rfl⟩;rw [decide_eq_false HKU.out]) | (go_at_call 234;with_reducible refine (rin_any (useF e.kind) 115 115 rfl (use_len _) _).mono ?_;rintro ex wx ⟨rfl,rfl⟩;rw [decide_eq_true HSU.out]) | (go_at_call 235;with_reducible refine (rnrm_any A _ e.spans _ (HR.out.keep U.out).spans).mono ?_;rintro ex wx ⟨rfl,u⟩;rw [decide_eq_true G_s3.out];have U:=hid (U.out.trans u);have hb:=(u.block _ (heap_lt HB.out) id).trans HB.out;have HB:=hid hb;clear d0 d1 d2 d3 d4 d5 d6 d7 d8 d9 d10 d11 d12;obtain ⟨d0,d1,d2,d3,d4,d5,d6,d7,d8,d9,d10,d11,d12⟩:=cells13 hb;have hz:=heap_lt hb;clear hb;clear u) | (go_at_call 236;refine (rref_any e HK.out a1 a2 a3 c1 c2 c3 _).mono ?_;rintro ex wx ⟨rfl,u⟩;rw [decide_eq_true G_ref.out];have U:=hid (U.out.trans u);have hb:=(u.block _ (heap_lt HB.out) id).trans HB.out;have HB:=hid hb;clear d0 d1 d2 d3 d4 d5 d6 d7 d8 d9 d10 d11 d12;obtain ⟨d0,d1,d2,d3,d4,d5,d6,d7,d8,d9,d10,d11,d12⟩:=cells13 hb;have hz:=heap_lt hb;clear hb;clear u) | (go_at_call 237;refine (rn_any e HK.out a1 a2 a3 c1 c2 c3 _).mono ?_;rintro ex wx ⟨rfl,u⟩;rw [decide_eq_true G_nn.out];have U:=hid (U.out.trans u);have hb:=(u.block _ (heap_lt HB.out) id).trans HB.out;have HB:=hid hb;clear d0 d1 d2 d3 d4 d5 d6 d7 d8 d9 d10 d11 d12;obtain ⟨d0,d1,d2,d3,d4,d5,d6,d7,d8,d9,d10,d11,d12⟩:=cells13 hb;have hz:=heap_lt hb;clear hb;clear u) | (go_at_call 238;refine (rm_any e a1 a2 a3 c1 c2 c3 _).mono ?_;rintro ex wx ⟨rfl,u⟩;rw [decide_eq_true G_mm.out];have U:=hid (U.out.trans u);have hb:=(u.block _ (heap_lt HB.out) id).trans HB.out;have HB:=hid hb;clear d0 d1 d2 d3 d4 d5 d6 d7 d8 d9 d10 d11 d12;obtain ⟨d0,d1,d2,d3,d4,d5,d6,d7,d8,d9,d10,d11,d12⟩:=cells13 hb;have hz:=heap_lt hb;clear hb;clear u))
  go_ret
  exact ⟨ret_t YES.out,U.out⟩
 have HSU:=hid h_su
 clear h_su
 by_cases h_ref:refR e
 case neg =>
  as_aux_lemma =>
  have NO:=hid (show ¬RightE e from fun h0=>h_ref (show refR e from ((fun h:RightR e=>h.ref) ((rightR_iff e).2 h0))))
  have G_ref:=hid h_ref
  clear h_ref
  unfold enV
  go_enter Tryz.func174,Tryz.ntmps174
  go_wp2_with fail
  have hW:=HW0.out
  unfold en13 at hW
  rw [<-hW]
  clear hW
  go_wp2_with (first | (go_at_call 230;with_reducible refine (to_any e.author 199 _).mono ?_;rintro ex wx ⟨rfl,rfl⟩;rw [decide_eq_true G_author.out]) | (go_at_call 230;with_reducible refine (to_any e.seq 1048575 _).mono ?_;rintro ex wx ⟨rfl,rfl⟩;rw [decide_eq_true G_seq.out]) | (go_at_call 230;with_reducible refine (to_any e.day 1048576 _).mono ?_;rintro ex wx ⟨rfl,rfl⟩;rw [decide_eq_true G_day.out]) | (go_at_call 230;with_reducible refine (to_any e.kind 20 _).mono ?_;rintro ex wx ⟨rfl,rfl⟩;rw [decide_eq_true G_kind.out]) | (go_at_call 231;refine (rspare_any e HK.out a1 a2 a3 c1 c2 c3 _).mono ?_;rintro ex wx ⟨rfl,u⟩;rw [decide_eq_true G_plain.out];have U:=hid (U.out.trans u);have hb:=(u.block _ (heap_lt HB.out) id).trans HB.out;have HB:=hid hb;clear d0 d1 d2 d3 d4 d5 d6 d7 d8 d9 d10 d11 d12;obtain ⟨d0,d1,d2,d3,d4,d5,d6,d7,d8,d9,d10,d11,d12⟩:=cells13 hb;have hz:=heap_lt hb;clear hb;clear u) | (go_at_call 232;with_reducible refine (rasc_any A _ e.knows 1073741824 _ (HR.out.keep U.out).knows).mono ?_;rintro ex wx ⟨rfl,u⟩;rw [decide_eq_true G_asc.out];have U:=hid (U.out.trans u);have hb:=(u.block _ (heap_lt HB.out) id).trans HB.out;have HB:=hid hb;clear d0 d1 d2 d3 d4 d5 d6 d7 d8 d9 d10 d11 d12;obtain ⟨d0,d1,d2,d3,d4,d5,d6,d7,d8,d9,d10,d11,d12⟩:=cells13 hb;have hz:=heap_lt hb;clear hb;clear u) | (go_at_call 230;with_reducible refine (to_any e.circle 1073741824 _).mono ?_;rintro ex wx ⟨rfl,rfl⟩;rw [decide_eq_true G_circle.out]) | (go_at_call 230;with_reducible refine (to_any e.who 199 _).mono ?_;rintro ex wx ⟨rfl,rfl⟩;rw [decide_eq_true G_who.out]) | (go_at_call 233;with_reducible refine (ruses_any e.kind HK.out _).mono ?_;rintro ex wx ⟨rfl,rfl⟩) | (go_at_call 234;with_reducible refine (rin_any (useF e.kind) 107 107 rfl (use_len _) _).mono ?_;rintro ex wx ⟨rfl,rfl⟩;rw [decide_eq_false HKU.out]) | (go_at_call 234;with_reducible refine (rin_any (useF e.kind) 115 115 rfl (use_len _) _).mono ?_;rintro ex wx ⟨rfl,rfl⟩;rw [decide_eq_false HSU.out]) | (go_at_call 236;refine (rref_any e HK.out a1 a2 a3 c1 c2 c3 _).mono ?_;rintro ex wx ⟨rfl,u⟩;rw [decide_eq_false G_ref.out];have U:=hid (U.out.trans u);have hb:=(u.block _ (heap_lt HB.out) id).trans HB.out;have HB:=hid hb;clear d0 d1 d2 d3 d4 d5 d6 d7 d8 d9 d10 d11 d12;obtain ⟨d0,d1,d2,d3,d4,d5,d6,d7,d8,d9,d10,d11,d12⟩:=cells13 hb;have hz:=heap_lt hb;clear hb;clear u))
  go_ret
  exact ⟨ret_f NO.out,U.out⟩
 have G_ref:=hid h_ref
 clear h_ref
 by_cases h_nn:nR e
 case neg =>
  as_aux_lemma =>
  have NO:=hid (show ¬RightE e from fun h0=>h_nn (show nR e from ((fun h:RightR e=>h.n) ((rightR_iff e).2 h0))))
  have G_nn:=hid h_nn
  clear h_nn
  unfold enV
  go_enter Tryz.func174,Tryz.ntmps174
  go_wp2_with fail
  have hW:=HW0.out
  unfold en13 at hW
  rw [<-hW]
  clear hW
  go_wp2_with (first | (go_at_call 230;with_reducible refine (to_any e.author 199 _).mono ?_;rintro ex wx ⟨rfl,rfl⟩;rw [decide_eq_true G_author.out]) | (go_at_call 230;with_reducible refine (to_any e.seq 1048575 _).mono ?_;rintro ex wx ⟨rfl,rfl⟩;rw [decide_eq_true G_seq.out]) | (go_at_call 230;with_reducible refine (to_any e.day 1048576 _).mono ?_;rintro ex wx ⟨rfl,rfl⟩;rw [decide_eq_true G_day.out]) | (go_at_call 230;with_reducible refine (to_any e.kind 20 _).mono ?_;rintro ex wx ⟨rfl,rfl⟩;rw [decide_eq_true G_kind.out]) | (go_at_call 231;refine (rspare_any e HK.out a1 a2 a3 c1 c2 c3 _).mono ?_;rintro ex wx ⟨rfl,u⟩;rw [decide_eq_true G_plain.out];have U:=hid (U.out.trans u);have hb:=(u.block _ (heap_lt HB.out) id).trans HB.out;have HB:=hid hb;clear d0 d1 d2 d3 d4 d5 d6 d7 d8 d9 d10 d11 d12;obtain ⟨d0,d1,d2,d3,d4,d5,d6,d7,d8,d9,d10,d11,d12⟩:=cells13 hb;have hz:=heap_lt hb;clear hb;clear u) | (go_at_call 232;with_reducible refine (rasc_any A _ e.knows 1073741824 _ (HR.out.keep U.out).knows).mono ?_;rintro ex wx ⟨rfl,u⟩;rw [decide_eq_true G_asc.out];have U:=hid (U.out.trans u);have hb:=(u.block _ (heap_lt HB.out) id).trans HB.out;have HB:=hid hb;clear d0 d1 d2 d3 d4 d5 d6 d7 d8 d9 d10 d11 d12;obtain ⟨d0,d1,d2,d3,d4,d5,d6,d7,d8,d9,d10,d11,d12⟩:=cells13 hb;have hz:=heap_lt hb;clear hb;clear u) | (go_at_call 230;with_reducible refine (to_any e.circle 1073741824 _).mono ?_;rintro ex wx ⟨rfl,rfl⟩;rw [decide_eq_true G_circle.out]) | (go_at_call 230;with_reducible refine (to_any e.who 199 _).mono ?_;rintro ex wx ⟨rfl,rfl⟩;rw [decide_eq_true G_who.out]) | (go_at_call 233;with_reducible refine (ruses_any e.kind HK.out _).mono ?_;rintro ex wx ⟨rfl,rfl⟩) | (go_at_call 234;with_reducible refine (rin_any (useF e.kind) 107 107 rfl (use_len _) _).mono ?_;rintro ex wx ⟨rfl,rfl⟩;rw [decide_eq_false HKU.out]) | (go_at_call 234;with_reducible refine (rin_any (useF e.kind) 115 115 rfl (use_len _) _).mono ?_;rintro ex wx ⟨rfl,rfl⟩;rw [decide_eq_false HSU.out]) | (go_at_call 236;refine (rref_any e HK.out a1 a2 a3 c1 c2 c3 _).mono ?_;rintro ex wx ⟨rfl,u⟩;rw [decide_eq_true G_ref.out];have U:=hid (U.out.trans u);have hb:=(u.block _ (heap_lt HB.out) id).trans HB.out;have HB:=hid hb;clear d0 d1 d2 d3 d4 d5 d6 d7 d8 d9 d10 d11 d12;obtain ⟨d0,d1,d2,d3,d4,d5,d6,d7,d8,d9,d10,d11,d12⟩:=cells13 hb;have hz:=heap_lt hb;clear hb;clear u) | (go_at_call 237;refine (rn_any e HK.out a1 a2 a3 c1 c2 c3 _).mono ?_;rintro ex wx ⟨rfl,u⟩;rw [decide_eq_false G_nn.out];have U:=hid (U.out.trans u);have hb:=(u.block _ (heap_lt HB.out) id).trans HB.out;have HB:=hid hb;clear d0 d1 d2 d3 d4 d5 d6 d7 d8 d9 d10 d11 d12;obtain ⟨d0,d1,d2,d3,d4,d5,d6,d7,d8,d9,d10,d11,d12⟩:=cells13 hb;have hz:=heap_lt hb;clear hb;clear u))
  go_ret
  exact ⟨ret_f NO.out,U.out⟩
 have G_nn:=hid h_nn
 clear h_nn
 by_cases h_mm:mR e
 case neg =>
  as_aux_lemma =>
  have NO:=hid (show ¬RightE e from fun h0=>h_mm (show mR e from ((fun h:RightR e=>h.m) ((rightR_iff e).2 h0))))
  have G_mm:=hid h_mm
  clear h_mm
  unfold enV
  go_enter Tryz.func174,Tryz.ntmps174
  go_wp2_with fail
  have hW:=HW0.out
  unfold en13 at hW
  rw [<-hW]
  clear hW
  go_wp2_with (first | (go_at_call 230;with_reducible refine (to_any e.author 199 _).mono ?_;rintro ex wx ⟨rfl,rfl⟩;rw [decide_eq_true G_author.out]) | (go_at_call 230;with_reducible refine (to_any e.seq 1048575 _).mono ?_;rintro ex wx ⟨rfl,rfl⟩;rw [decide_eq_true G_seq.out]) | (go_at_call 230;with_reducible refine (to_any e.day 1048576 _).mono ?_;rintro ex wx ⟨rfl,rfl⟩;rw [decide_eq_true G_day.out]) | (go_at_call 230;with_reducible refine (to_any e.kind 20 _).mono ?_;rintro ex wx ⟨rfl,rfl⟩;rw [decide_eq_true G_kind.out]) | (go_at_call 231;refine (rspare_any e HK.out a1 a2 a3 c1 c2 c3 _).mono ?_;rintro ex wx ⟨rfl,u⟩;rw [decide_eq_true G_plain.out];have U:=hid (U.out.trans u);have hb:=(u.block _ (heap_lt HB.out) id).trans HB.out;have HB:=hid hb;clear d0 d1 d2 d3 d4 d5 d6 d7 d8 d9 d10 d11 d12;obtain ⟨d0,d1,d2,d3,d4,d5,d6,d7,d8,d9,d10,d11,d12⟩:=cells13 hb;have hz:=heap_lt hb;clear hb;clear u) | (go_at_call 232;with_reducible refine (rasc_any A _ e.knows 1073741824 _ (HR.out.keep U.out).knows).mono ?_;rintro ex wx ⟨rfl,u⟩;rw [decide_eq_true G_asc.out];have U:=hid (U.out.trans u);have hb:=(u.block _ (heap_lt HB.out) id).trans HB.out;have HB:=hid hb;clear d0 d1 d2 d3 d4 d5 d6 d7 d8 d9 d10 d11 d12;obtain ⟨d0,d1,d2,d3,d4,d5,d6,d7,d8,d9,d10,d11,d12⟩:=cells13 hb;have hz:=heap_lt hb;clear hb;clear u) | (go_at_call 230;with_reducible refine (to_any e.circle 1073741824 _).mono ?_;rintro ex wx ⟨rfl,rfl⟩;rw [decide_eq_true G_circle.out]) | (go_at_call 230;with_reducible refine (to_any e.who 199 _).mono ?_;rintro ex wx ⟨rfl,rfl⟩;rw [decide_eq_true G_who.out]) | (go_at_call 233;with_reducible refine (ruses_any e.kind HK.out _).mono ?_;rintro ex wx ⟨rfl,rfl⟩) | (go_at_call 234;with_reducible refine (rin_any (useF e.kind) 107 107 rfl (use_len _) _).mono ?_;rintro ex wx ⟨rfl,rfl⟩;rw [decide_eq_false HKU.out]) | (go_at_call 234;with_reducible refine (rin_any (useF e.kind) 115 115 rfl (use_len _) _).mono ?_;rintro ex wx ⟨rfl,rfl⟩;rw [decide_eq_false HSU.out]) | (go_at_call 236;refine (rref_any e HK.out a1 a2 a3 c1 c2 c3 _).mono ?_;rintro ex wx ⟨rfl,u⟩;rw [decide_eq_true G_ref.out];have U:=hid (U.out.trans u);have hb:=(u.block _ (heap_lt HB.out) id).trans HB.out;have HB:=hid hb;clear d0 d1 d2 d3 d4 d5 d6 d7 d8 d9 d10 d11 d12;obtain ⟨d0,d1,d2,d3,d4,d5,d6,d7,d8,d9,d10,d11,d12⟩:=cells13 hb;have hz:=heap_lt hb;clear hb;clear u) | (go_at_call 237;refine (rn_any e HK.out a1 a2 a3 c1 c2 c3 _).mono ?_;rintro ex wx ⟨rfl,u⟩;rw [decide_eq_true G_nn.out];have U:=hid (U.out.trans u);have hb:=(u.block _ (heap_lt HB.out) id).trans HB.out;have HB:=hid hb;clear d0 d1 d2 d3 d4 d5 d6 d7 d8 d9 d10 d11 d12;obtain ⟨d0,d1,d2,d3,d4,d5,d6,d7,d8,d9,d10,d11,d12⟩:=cells13 hb;have hz:=heap_lt hb;clear hb;clear u) | (go_at_call 238;refine (rm_any e a1 a2 a3 c1 c2 c3 _).mono ?_;rintro ex wx ⟨rfl,u⟩;rw [decide_eq_false G_mm.out];have U:=hid (U.out.trans u);have hb:=(u.block _ (heap_lt HB.out) id).trans HB.out;have HB:=hid hb;clear d0 d1 d2 d3 d4 d5 d6 d7 d8 d9 d10 d11 d12;obtain ⟨d0,d1,d2,d3,d4,d5,d6,d7,d8,d9,d10,d11,d12⟩:=cells13 hb;have hz:=heap_lt hb;clear hb;clear u))
  go_ret
  exact ⟨ret_f NO.out,U.out⟩
 have G_mm:=hid h_mm
 clear h_mm
 have YES:=hid (show RightE e from (rightR_iff e).1 ⟨G_author.out,G_seq.out,G_day.out,G_kind.out,G_plain.out,⟨h_kl,G_asc.out⟩,G_circle.out,G_who.out,h_text,fun h=>absurd h HKU.out,fun h=>absurd h HSU.out,G_ref.out,G_nn.out,G_mm.out⟩)
 unfold enV
 go_enter Tryz.func174,Tryz.ntmps174
 go_wp2_with fail
 have hW:=HW0.out
 unfold en13 at hW
 rw [<-hW]
 clear hW
 go_wp2_with (first | (go_at_call 230;with_reducible refine (to_any e.author 199 _).mono ?_;rintro ex wx ⟨rfl,rfl⟩;rw [decide_eq_true G_author.out]) | (go_at_call 230;with_reducible refine (to_any e.seq 1048575 _).mono ?_;rintro ex wx ⟨rfl,rfl⟩;rw [decide_eq_true G_seq.out]) | (go_at_call 230;with_reducible refine (to_any e.day 1048576 _).mono ?_;rintro ex wx ⟨rfl,rfl⟩;rw [decide_eq_true G_day.out]) | (go_at_call 230;with_reducible refine (to_any e.kind 20 _).mono ?_;rintro ex wx ⟨rfl,rfl⟩;rw [decide_eq_true G_kind.out]) | (go_at_call 231;refine (rspare_any e HK.out a1 a2 a3 c1 c2 c3 _).mono ?_;rintro ex wx ⟨rfl,u⟩;rw [decide_eq_true G_plain.out];have U:=hid (U.out.trans u);have hb:=(u.block _ (heap_lt HB.out) id).trans HB.out;have HB:=hid hb;clear d0 d1 d2 d3 d4 d5 d6 d7 d8 d9 d10 d11 d12;obtain ⟨d0,d1,d2,d3,d4,d5,d6,d7,d8,d9,d10,d11,d12⟩:=cells13 hb;have hz:=heap_lt hb;clear hb;clear u) | (go_at_call 232;with_reducible refine (rasc_any A _ e.knows 1073741824 _ (HR.out.keep U.out).knows).mono ?_;rintro ex wx ⟨rfl,u⟩;rw [decide_eq_true G_asc.out];have U:=hid (U.out.trans u);have hb:=(u.block _ (heap_lt HB.out) id).trans HB.out;have HB:=hid hb;clear d0 d1 d2 d3 d4 d5 d6 d7 d8 d9 d10 d11 d12;obtain ⟨d0,d1,d2,d3,d4,d5,d6,d7,d8,d9,d10,d11,d12⟩:=cells13 hb;have hz:=heap_lt hb;clear hb;clear u) | (go_at_call 230;with_reducible refine (to_any e.circle 1073741824 _).mono ?_;rintro ex wx ⟨rfl,rfl⟩;rw [decide_eq_true G_circle.out]) | (go_at_call 230;with_reducible refine (to_any e.who 199 _).mono ?_;rintro ex wx ⟨rfl,rfl⟩;rw [decide_eq_true G_who.out]) | (go_at_call 233;with_reducible refine (ruses_any e.kind HK.out _).mono ?_;rintro ex wx ⟨rfl,rfl⟩) | (go_at_call 234;with_reducible refine (rin_any (useF e.kind) 107 107 rfl (use_len _) _).mono ?_;rintro ex wx ⟨rfl,rfl⟩;rw [decide_eq_false HKU.out]) | (go_at_call 234;with_reducible refine (rin_any (useF e.kind) 115 115 rfl (use_len _) _).mono ?_;rintro ex wx ⟨rfl,rfl⟩;rw [decide_eq_false HSU.out]) | (go_at_call 236;refine (rref_any e HK.out a1 a2 a3 c1 c2 c3 _).mono ?_;rintro ex wx ⟨rfl,u⟩;rw [decide_eq_true G_ref.out];have U:=hid (U.out.trans u);have hb:=(u.block _ (heap_lt HB.out) id).trans HB.out;have HB:=hid hb;clear d0 d1 d2 d3 d4 d5 d6 d7 d8 d9 d10 d11 d12;obtain ⟨d0,d1,d2,d3,d4,d5,d6,d7,d8,d9,d10,d11,d12⟩:=cells13 hb;have hz:=heap_lt hb;clear hb;clear u) | (go_at_call 237;refine (rn_any e HK.out a1 a2 a3 c1 c2 c3 _).mono ?_;rintro ex wx ⟨rfl,u⟩;rw [decide_eq_true G_nn.out];have U:=hid (U.out.trans u);have hb:=(u.block _ (heap_lt HB.out) id).trans HB.out;have HB:=hid hb;clear d0 d1 d2 d3 d4 d5 d6 d7 d8 d9 d10 d11 d12;obtain ⟨d0,d1,d2,d3,d4,d5,d6,d7,d8,d9,d10,d11,d12⟩:=cells13 hb;have hz:=heap_lt hb;clear hb;clear u) | (go_at_call 238;refine (rm_any e a1 a2 a3 c1 c2 c3 _).mono ?_;rintro ex wx ⟨rfl,u⟩;rw [decide_eq_true G_mm.out];have U:=hid (U.out.trans u);have hb:=(u.block _ (heap_lt HB.out) id).trans HB.out;have HB:=hid hb;clear d0 d1 d2 d3 d4 d5 d6 d7 d8 d9 d10 d11 d12;obtain ⟨d0,d1,d2,d3,d4,d5,d6,d7,d8,d9,d10,d11,d12⟩:=cells13 hb;have hz:=heap_lt hb;clear hb;clear u))
 go_ret
 exact ⟨ret_t YES.out,U.out⟩
end Go.Proofs.YtjkmalddfoemhaaGreatDoor
