/- Walks: Right, a group of kinds. -/
import Derived.Test.YtjkmalddfoemhaaGreatDoorJ5
set_option maxRecDepth 100000
set_option maxHeartbeats 8000000
namespace Go.Proofs.YtjkmalddfoemhaaGreatDoor
open Go.RowKit Go.Deep
theorem right_d (e:En) (hk:e.kind=17) (a1 a2 a3:Option Addr) (c1 c2 c3:Nat) (A:Nat->Prop) (w:World) (hu:UsesIn w) (hr:EnRep A w e a1 a2 a3 c1 c2 c3) :
 Calls Tryz.prog 157 #[enV e a1 a2 a3 c1 c2 c3] w fun en w'=>en=.returned (.bool (decide (RightE e)))/\Upd (fun _=>False) w w':=by
 have HU:=hid hu;have HR:=hid hr
 obtain ⟨W0,hW0⟩:∃ W0,W0=w.alloc (.cells (en13 e a1 a2 a3 c1 c2 c3) 72 (0,0)):=⟨_,rfl⟩
 have hb:W0.heap[w.heap.size]? = some (.cells (en13 e a1 a2 a3 c1 c2 c3) 72 (0,0)):=by rw [hW0];exact heap_alloc_new
 have u0:Upd (fun _=>False) w W0:=by rw [hW0];exact (Upd.refl _ _).alloc _
 obtain ⟨d0,d1,d2,d3,d4,d5,d6,d7,d8,d9,d10,d11,d12⟩:=cells13 hb
 obtain ⟨q1,q2⟩:=slice_caps hr.knows
 obtain ⟨q3,q4⟩:=slice_caps hr.keys
 obtain ⟨q5,q6⟩:=slice_caps hr.spans
 have HB:=hid hb;have U:=hid u0;have HW0:=hid hW0
 clear hu hr hW0 hb u0
 have HKM:=hid (show e.kind=0\/e.kind=17 from .inr hk)
 have HKS:=hid (show ¬(e.kind=5\/e.kind=6\/e.kind=7) by omega)
 have k0:(e.kind==0)=false:=beq_eq_false_iff_ne.2 (by omega)
 have k17:(e.kind==17)=true:=beq_iff_eq.2 hk
 clear hk
 by_cases hn:0<e.knows.length
 · obtain ⟨b,o,rfl,hb,hel⟩:=slice_at HR.out.knows hn
   obtain ⟨j,hj⟩:∃ j,e.knows.length=j+1:=⟨e.knows.length-1,by omega⟩
   have hjl:j<e.knows.length:=by omega
   have m1:=int_cells hel hn
   have m2:=int_cells hel hjl
   rw [Nat.add_zero] at m1
   have m1:=cell_kept m1 (U.out.block _ (World.block_lt_of_cell? _ _ m1) id)
   have m2:=cell_kept m2 (U.out.block _ (World.block_lt_of_cell? _ _ m2) id)
   have gs2:(e.knows.length:Int)-1=(j:Int):=by omega
   have gs:IntKind.i64.wrap ((e.knows.length:Int)-1)=(j:Int):=by rw [gs2];exact IntWalk.i64_in _ (by omega)
   have hne:e.knows≠[]:=fun e0=>by rw [e0] at hn;exact absurd hn (Nat.lt_irrefl 0)
   have e1:e.knows.headD 0=e.knows[0]:=by
    generalize e.knows=l at *
    cases l with
    | nil=>exact absurd rfl hne
    | cons a r=>rfl
   have e2:e.knows.getLastD 0=e.knows[j]:=by
    rw [List.getLastD_eq_getLast?,List.getLast?_eq_getElem?,show e.knows.length-1=j by omega,List.getElem?_eq_getElem hjl];rfl
   have HKN:=hid (show (e.knows≠[]->markP (e.knows.headD 0)/\markP (e.knows.getLastD 0))↔(markP e.knows[0]/\markP e.knows[j]) by rw [e1,e2];exact ⟨fun h=>h hne,fun h _=>h⟩)
   generalize e.knows[0]=x0 at *
   generalize e.knows[j]=xj at *
   have t1:decide ((0:Int)<(e.knows.length:Int))=true:=decide_eq_true (by omega)
   have t2:decide (0<e.knows.length)=true:=decide_eq_true hn
   have hjl2:(j:Int)<e.knows.length:=by omega
   have h0l:(0:Int)<e.knows.length:=by omega
   have HJ:=hid hj
   clear hb hel hj hne e1 e2
   unfold enV
   go_enter Tryz.func157,Tryz.ntmps157
   go_wp2_with fail
   have hW:=HW0.out
   unfold en13 at hW
   rw [<-hW]
   clear hW
   go_wp2_with
   (first
   | (go_at_call 204;refine (mark_any _ _).mono ?_;rintro ex wx ⟨rfl,rfl⟩)
   | (go_at_call 200;refine (key_any _ _).mono ?_;rintro ex wx ⟨rfl,rfl⟩)
   | (go_at_call 201;refine (day_any _ _).mono ?_;rintro ex wx ⟨rfl,rfl⟩)
   | (go_at_call 202;refine (plain_any e _ _ _ _ _ _ _ (by omega) (HU.out.keep U.out)).mono ?_;rintro ex wp ⟨rfl,u⟩;have U:=hid (U.out.trans u);have hb:=(u.block _ (heap_lt HB.out) id).trans HB.out;have HB:=hid hb;clear d0 d1 d2 d3 d4 d5 d6 d7 d8 d9 d10 d11 d12;obtain ⟨d0,d1,d2,d3,d4,d5,d6,d7,d8,d9,d10,d11,d12⟩:=cells13 hb;have hz:=heap_lt hb;clear hb;have l1:=cell_kept m1 (u.block _ (World.block_lt_of_cell? _ _ m1) id);have l2:=cell_kept m2 (u.block _ (World.block_lt_of_cell? _ _ m2) id);clear m1 m2;have m1:=l1;have m2:=l2;clear l1 l2;clear u)
   | (go_at_call 203;refine (asc_any A _ e.knows _ (HR.out.keep U.out).knows).mono ?_;rintro ex wa ⟨rfl,u⟩;have U:=hid (U.out.trans u);have hb:=(u.block _ (heap_lt HB.out) id).trans HB.out;have HB:=hid hb;clear d0 d1 d2 d3 d4 d5 d6 d7 d8 d9 d10 d11 d12;obtain ⟨d0,d1,d2,d3,d4,d5,d6,d7,d8,d9,d10,d11,d12⟩:=cells13 hb;have hz:=heap_lt hb;clear hb;have l1:=cell_kept m1 (u.block _ (World.block_lt_of_cell? _ _ m1) id);have l2:=cell_kept m2 (u.block _ (World.block_lt_of_cell? _ _ m2) id);clear m1 m2;have m1:=l1;have m2:=l2;clear l1 l2;clear u)
   | (go_at_call 132;refine (kinds_no e.kind HKS.out _).mono ?_;rintro ex wc ⟨rfl,u⟩;have U:=hid (U.out.trans u);have hb:=(u.block _ (heap_lt HB.out) id).trans HB.out;have HB:=hid hb;clear d0 d1 d2 d3 d4 d5 d6 d7 d8 d9 d10 d11 d12;obtain ⟨d0,d1,d2,d3,d4,d5,d6,d7,d8,d9,d10,d11,d12⟩:=cells13 hb;have hz:=heap_lt hb;clear hb;have l1:=cell_kept m1 (u.block _ (World.block_lt_of_cell? _ _ m1) id);have l2:=cell_kept m2 (u.block _ (World.block_lt_of_cell? _ _ m2) id);clear m1 m2;have m1:=l1;have m2:=l2;clear l1 l2;clear u)
   | (go_at_call 205;refine (nrm_any A _ e.spans _ (HR.out.keep U.out).spans).mono ?_;rintro ex wn ⟨rfl,u⟩;have U:=hid (U.out.trans u);have hb:=(u.block _ (heap_lt HB.out) id).trans HB.out;have HB:=hid hb;clear d0 d1 d2 d3 d4 d5 d6 d7 d8 d9 d10 d11 d12;obtain ⟨d0,d1,d2,d3,d4,d5,d6,d7,d8,d9,d10,d11,d12⟩:=cells13 hb;have hz:=heap_lt hb;clear hb;have l1:=cell_kept m1 (u.block _ (World.block_lt_of_cell? _ _ m1) id);have l2:=cell_kept m2 (u.block _ (World.block_lt_of_cell? _ _ m2) id);clear m1 m2;have m1:=l1;have m2:=l2;clear l1 l2;clear u)
   | (go_at_call 206;refine (keys_any A _ e.keys _ (HR.out.keep U.out).keys).mono ?_;rintro ex wk ⟨rfl,u⟩;have U:=hid (U.out.trans u);have hb:=(u.block _ (heap_lt HB.out) id).trans HB.out;have HB:=hid hb;clear d0 d1 d2 d3 d4 d5 d6 d7 d8 d9 d10 d11 d12;obtain ⟨d0,d1,d2,d3,d4,d5,d6,d7,d8,d9,d10,d11,d12⟩:=cells13 hb;have hz:=heap_lt hb;clear hb;have l1:=cell_kept m1 (u.block _ (World.block_lt_of_cell? _ _ m1) id);have l2:=cell_kept m2 (u.block _ (World.block_lt_of_cell? _ _ m2) id);clear m1 m2;have m1:=l1;have m2:=l2;clear l1 l2;clear u)
   | (go_at_call 207;refine (numbers_any e (by omega) _ _ _ _ _ _ _).mono ?_;rintro ex wm ⟨rfl,u⟩;have U:=hid (U.out.trans u);have hb:=(u.block _ (heap_lt HB.out) id).trans HB.out;have HB:=hid hb;clear d0 d1 d2 d3 d4 d5 d6 d7 d8 d9 d10 d11 d12;obtain ⟨d0,d1,d2,d3,d4,d5,d6,d7,d8,d9,d10,d11,d12⟩:=cells13 hb;have hz:=heap_lt hb;clear hb;have l1:=cell_kept m1 (u.block _ (World.block_lt_of_cell? _ _ m1) id);have l2:=cell_kept m2 (u.block _ (World.block_lt_of_cell? _ _ m2) id);clear m1 m2;have m1:=l1;have m2:=l2;clear l1 l2;clear u))
   all_goals
    go_ret
    refine ⟨?_,U.out⟩
    refine ret_b ?_
    rw [rightE_iff,HKN.out]
    try simp only [Bool.false_eq_true,false_iff,decide_eq_true_eq]
    try simp only [nd_f,nd_t] at *
    first
     | (rintro ⟨h1,h2,h3,h4,h5,⟨h6,h7,h8⟩,h9,h10,h11,h12,h13,h14⟩
        first
         | contradiction
         | omega
         | exact absurd h8.1 (by assumption)
         | exact absurd h8.2 (by assumption)
         | (exact or_no (B:=plainP e) (by assumption) h5 (by omega))
         | (exact or_no (B:=keyP e.who) (by assumption) h13 (by omega))
         | (exact or_no (B:=markP xj) (by assumption) h8.2 (by omega))
         | (have:=h10 HKM.out;contradiction))
     | (refine ⟨fun h=>⟨by assumption,by omega,by assumption,by omega,by first | assumption | exact (‹_/\plainP e›:_/\_).2,⟨by omega,by assumption,⟨by assumption,by first | assumption | exact (‹_/\markP xj›:_/\_).2⟩⟩,fun hs=>?_,fun hk=>?_,by omega,by assumption,by first | assumption | exact (‹_/\keyP e.who›:_/\_).2,h⟩,fun h=>h.2.2.2.2.2.2.2.2.2.2.2⟩
        · exact absurd hs HKS.out
        · assumption)
 · have t1:decide ((0:Int)<(e.knows.length:Int))=false:=decide_eq_false (by omega)
   have t2:decide (0<e.knows.length)=false:=decide_eq_false hn
   have HKN:=hid (show (e.knows≠[]->markP (e.knows.headD 0)/\markP (e.knows.getLastD 0))↔True from ⟨fun _=>trivial,fun _ h=>absurd (List.length_eq_zero_iff.1 (by omega)) h⟩)
   clear hn
   unfold enV
   go_enter Tryz.func157,Tryz.ntmps157
   go_wp2_with fail
   have hW:=HW0.out
   unfold en13 at hW
   rw [<-hW]
   clear hW
   go_wp2_with
   (first
   | (go_at_call 204;refine (mark_any _ _).mono ?_;rintro ex wx ⟨rfl,rfl⟩)
   | (go_at_call 200;refine (key_any _ _).mono ?_;rintro ex wx ⟨rfl,rfl⟩)
   | (go_at_call 201;refine (day_any _ _).mono ?_;rintro ex wx ⟨rfl,rfl⟩)
   | (go_at_call 202;refine (plain_any e _ _ _ _ _ _ _ (by omega) (HU.out.keep U.out)).mono ?_;rintro ex wp ⟨rfl,u⟩;have U:=hid (U.out.trans u);have hb:=(u.block _ (heap_lt HB.out) id).trans HB.out;have HB:=hid hb;clear d0 d1 d2 d3 d4 d5 d6 d7 d8 d9 d10 d11 d12;obtain ⟨d0,d1,d2,d3,d4,d5,d6,d7,d8,d9,d10,d11,d12⟩:=cells13 hb;have hz:=heap_lt hb;clear hb;clear u)
   | (go_at_call 203;refine (asc_any A _ e.knows _ (HR.out.keep U.out).knows).mono ?_;rintro ex wa ⟨rfl,u⟩;have U:=hid (U.out.trans u);have hb:=(u.block _ (heap_lt HB.out) id).trans HB.out;have HB:=hid hb;clear d0 d1 d2 d3 d4 d5 d6 d7 d8 d9 d10 d11 d12;obtain ⟨d0,d1,d2,d3,d4,d5,d6,d7,d8,d9,d10,d11,d12⟩:=cells13 hb;have hz:=heap_lt hb;clear hb;clear u)
   | (go_at_call 132;refine (kinds_no e.kind HKS.out _).mono ?_;rintro ex wc ⟨rfl,u⟩;have U:=hid (U.out.trans u);have hb:=(u.block _ (heap_lt HB.out) id).trans HB.out;have HB:=hid hb;clear d0 d1 d2 d3 d4 d5 d6 d7 d8 d9 d10 d11 d12;obtain ⟨d0,d1,d2,d3,d4,d5,d6,d7,d8,d9,d10,d11,d12⟩:=cells13 hb;have hz:=heap_lt hb;clear hb;clear u)
   | (go_at_call 205;refine (nrm_any A _ e.spans _ (HR.out.keep U.out).spans).mono ?_;rintro ex wn ⟨rfl,u⟩;have U:=hid (U.out.trans u);have hb:=(u.block _ (heap_lt HB.out) id).trans HB.out;have HB:=hid hb;clear d0 d1 d2 d3 d4 d5 d6 d7 d8 d9 d10 d11 d12;obtain ⟨d0,d1,d2,d3,d4,d5,d6,d7,d8,d9,d10,d11,d12⟩:=cells13 hb;have hz:=heap_lt hb;clear hb;clear u)
   | (go_at_call 206;refine (keys_any A _ e.keys _ (HR.out.keep U.out).keys).mono ?_;rintro ex wk ⟨rfl,u⟩;have U:=hid (U.out.trans u);have hb:=(u.block _ (heap_lt HB.out) id).trans HB.out;have HB:=hid hb;clear d0 d1 d2 d3 d4 d5 d6 d7 d8 d9 d10 d11 d12;obtain ⟨d0,d1,d2,d3,d4,d5,d6,d7,d8,d9,d10,d11,d12⟩:=cells13 hb;have hz:=heap_lt hb;clear hb;clear u)
   | (go_at_call 207;refine (numbers_any e (by omega) _ _ _ _ _ _ _).mono ?_;rintro ex wm ⟨rfl,u⟩;have U:=hid (U.out.trans u);have hb:=(u.block _ (heap_lt HB.out) id).trans HB.out;have HB:=hid hb;clear d0 d1 d2 d3 d4 d5 d6 d7 d8 d9 d10 d11 d12;obtain ⟨d0,d1,d2,d3,d4,d5,d6,d7,d8,d9,d10,d11,d12⟩:=cells13 hb;have hz:=heap_lt hb;clear hb;clear u))
   all_goals
    go_ret
    refine ⟨?_,U.out⟩
    refine ret_b ?_
    rw [rightE_iff,HKN.out]
    try simp only [Bool.false_eq_true,false_iff,decide_eq_true_eq]
    try simp only [nd_f,nd_t] at *
    first
     | (rintro ⟨h1,h2,h3,h4,h5,⟨h6,h7,h8⟩,h9,h10,h11,h12,h13,h14⟩
        first
         | contradiction
         | omega
         | exact absurd h8.1 (by assumption)
         | exact absurd h8.2 (by assumption)
         | (exact or_no (B:=plainP e) (by assumption) h5 (by omega))
         | (exact or_no (B:=keyP e.who) (by assumption) h13 (by omega))
         | (fail)
         | (have:=h10 HKM.out;contradiction))
     | (refine ⟨fun h=>⟨by assumption,by omega,by assumption,by omega,by first | assumption | exact (‹_/\plainP e›:_/\_).2,⟨by omega,by assumption,trivial⟩,fun hs=>?_,fun hk=>?_,by omega,by assumption,by first | assumption | exact (‹_/\keyP e.who›:_/\_).2,h⟩,fun h=>h.2.2.2.2.2.2.2.2.2.2.2⟩
        · exact absurd hs HKS.out
        · assumption)
end Go.Proofs.YtjkmalddfoemhaaGreatDoor
