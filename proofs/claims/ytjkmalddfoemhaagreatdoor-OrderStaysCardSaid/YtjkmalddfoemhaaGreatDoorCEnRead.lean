/- Walks: Read. -/
import Derived.Test.YtjkmalddfoemhaaGreatDoorJ6
import Derived.Test.YtjkmalddfoemhaaGreatDoorJ5
import Derived.Test.YtjkmalddfoemhaaGreatDoorJ2
import Derived.Test.YtjkmalddfoemhaaGreatDoorJ7
import Derived.Test.YtjkmalddfoemhaaGreatDoorJ1
import Derived.Laws.ResultCell
set_option maxRecDepth 100000
set_option maxHeartbeats 16000000
namespace Go.Proofs.YtjkmalddfoemhaaGreatDoor
open Go.RowKit Go.Deep
theorem EnRep.wide {A B:Nat->Prop} {w:World} {e:En} {a1 a2 a3:Option Addr} {c1 c2 c3:Nat} (h:EnRep A w e a1 a2 a3 c1 c2 c3) (hs:∀ g,A g->B g):EnRep B w e a1 a2 a3 c1 c2 c3 :=
 ⟨kInts.mono h.knows hs,kInts.mono h.keys hs,kSps.mono h.spans hs⟩
def ReadPost (s:List UInt8) (w:World) (en:Ending) (w':World):Prop :=
 ∃ a1 a2 a3 c1 c2 c3,en=.returned (.tuple #[enV (rdF s).1 a1 a2 a3 c1 c2 c3,.int .i64 (rdF s).2])/\EnRep (fun g=>w.heap.size<=g/\g<w'.heap.size) w' (rdF s).1 a1 a2 a3 c1 c2 c3/\Upd (fun _=>False) w w'
theorem none_rep {A:Nat->Prop} {w:World}:EnRep A w En.none none none none 0 0 0 :=
 ⟨.inl ⟨none,0,rfl,Nat.zero_le _,rfl⟩,.inl ⟨none,0,rfl,Nat.zero_le _,rfl⟩,.inl ⟨none,0,rfl,Nat.zero_le _,rfl⟩⟩
theorem read_no {s:List UInt8} {w w':World} (h:rdF s=(En.none,2)) (u:Upd (fun _=>False) w w'):ReadPost s w (.returned (.tuple #[enV En.none none none none 0 0 0,.int .i64 2])) w':=by
 refine ⟨none,none,none,0,0,0,?_,?_,u⟩
 · rw [h]
 · rw [h];exact none_rep
theorem read_yes {s:List UInt8} {e:En} {a1 a2 a3:Option Addr} {c1 c2 c3:Nat} {w w':World} (h:rdF s=(e,0)) (hr:EnRep (fun g=>w.heap.size<=g/\g<w'.heap.size) w' e a1 a2 a3 c1 c2 c3) (u:Upd (fun _=>False) w w') :
 ReadPost s w (.returned (.tuple #[enV e a1 a2 a3 c1 c2 c3,.int .i64 0])) w':=by
 refine ⟨a1,a2,a3,c1,c2,c3,?_,?_,u⟩
 · rw [h]
 · rw [h];exact hr
theorem EnRep.keep1 {A S:Nat->Prop} {w w':World} {e:En} {a1 a2 a3:Option Addr} {c1 c2 c3:Nat} (h:EnRep A w e a1 a2 a3 c1 c2 c3) (u:Upd S w w') (hS:∀ g,A g->¬S g):EnRep A w' e a1 a2 a3 c1 c2 c3 :=
 ⟨kInts.keep h.knows (Same.of_upd u hS),kInts.keep h.keys (Same.of_upd u hS),kSps.keep h.spans (Same.of_upd u hS)⟩
theorem store_11 {w:World} {p:Nat} {e:En} {a1 a2 a3 b3:Option Addr} {c1 c2 c3 d3:Nat} {t:TypeId} {l:List Sp} {n:Nat} (h:w.heap[p]? = some (.cells (en13 e a1 a2 a3 c1 c2 c3) t (0,0))) (hl:n=l.length) :
 (w.setCell ⟨p,11,none⟩ (.slice b3 n d3)).heap[p]? = some (.cells (en13 { e with spans:=l } a1 a2 b3 c1 c2 d3) t (0,0)):=by
 rw [heap_setCell_same (p:=⟨p,11,none⟩) rfl h,hl]
 rfl
theorem store_12 {w:World} {p:Nat} {e:En} {a1 a2 a3:Option Addr} {c1 c2 c3:Nat} {t:TypeId} {l:List UInt8} (h:w.heap[p]? = some (.cells (en13 e a1 a2 a3 c1 c2 c3) t (0,0))) :
 (w.setCell ⟨p,12,none⟩ (.string ⟨l.toArray⟩)).heap[p]? = some (.cells (en13 { e with text:=l } a1 a2 a3 c1 c2 c3) t (0,0)):=by
 rw [heap_setCell_same (p:=⟨p,12,none⟩) rfl h]
 rfl
theorem frozen13 {w:World} {p k:Nat} {c:Array Value} {t:TypeId} (h:w.heap[p]? = some (.cells c t (0,0))):w.frozen? ⟨p,k,none⟩=false:=frozen_of_block h
theorem read_any (s:List UInt8) (w:World) (E:Env w) (hu:UsesIn w) (hz:6<=w.heap.size) (hl:s.length<=10000000) :
 Calls Tryz.prog 123 #[.string ⟨s.toArray⟩] w (ReadPost s w):=by
 have HE:=hid E;have HU:=hid hu;have HZ:=hid hz;have HL:=hid hl
 clear E hu hz hl
 go_enter Tryz.func123,Tryz.ntmps123
 go_wp2_with fail
 obtain ⟨W0,hW0⟩:∃ W0,W0=w.alloc (.cells #[.int .i64 0,.int .i64 0,.int .i64 0,.slice none 0 0,.int .i64 0,.int .i64 0,.int .i64 0,.int .i64 0,.int .i64 0,.int .i64 0,.slice none 0 0,.slice none 0 0,.string ⟨#[]⟩] 72 (0,0)):=⟨_,rfl⟩
 have u0:Upd (fun _=>False) w W0:=by rw [hW0];exact (Upd.refl _ _).alloc _
 have hs0:W0.heap.size=w.heap.size+1:=by rw [hW0];simp
 have hb0:W0.heap[w.heap.size]? = some (.cells (en13 En.none none none none 0 0 0) 72 (0,0)):=by rw [hW0];exact heap_alloc_new
 rw [<-hW0]
 refine (open_any s _).mono ?_
 rintro en x0 ⟨rfl,hr,u⟩
 rw [hs0] at hr
 obtain ⟨rb,hrb⟩:∃ x,w.heap.size+1=x:=⟨_,rfl⟩
 rw [hrb] at hr
 have HRB:=hid (show 6<=rb by have:=HZ.out;omega)
 have RBW:=hid (show w.heap.size<rb by omega)
 have T0:=hid ((u.block _ (heap_lt hb0) id).trans hb0)
 have V0:=hid (u0.trans u)
 have D0:=hid hr
 have k0:RS.Ok ⟨s,false⟩:=fun h=>nomatch h
 have K0:=hid k0
 obtain ⟨q0,hq0⟩:∃ q:Unit×RS,q=((),⟨s,false⟩):=⟨_,rfl⟩
 have LL0:=hid (show q0.2.rest.length<=10000000 by rw [hq0];exact HL.out)
 have K0:=hid (show RS.Ok q0.2 by rw [hq0];exact k0)
 have D0:=hid (show RdAt x0 rb q0.2 by rw [hq0];exact hr)
 have RE:=hid (show readG q0.2=readE s by rw [hq0];rfl)
 rw [hs0,hrb]
 clear u0 hs0 hb0 hW0 u hr k0 hq0 hrb
 go_wp2_with fail
 obtain ⟨q1,hq1⟩:∃ q,numF q0.2=q:=⟨_,rfl⟩
 refine (numR_any rb _ _ (HE.out.keep0 V0.out) D0.out HRB.out LL0.out).mono ?_
 rintro en x1 ⟨rfl,hr,u⟩
 rw [hq1] at hr ⊢
 have G1:=hid (show I64 q1.1 by rw [<-hq1];exact numberF_i64 _ _ _)
 have K1:=hid (show RS.Ok q1.2 by rw [<-hq1];exact numF_ok K0.out)
 have LL1:=hid (show q1.2.rest.length<=10000000 by rw [<-hq1];exact Nat.le_trans (numF_len0 K0.out) LL0.out)
 have D1:=hid hr
 have V1:=hid (V0.out.comp u fun i hi e=>by have:=RBW.out;omega)
 have T1:=hid ((u.block _ (heap_lt T0.out) fun e=>by have:=RBW.out;omega).trans T0.out)
 have Q1:=hid hq1
 clear hr u hq1 K0 LL0 D0 V0 T0
 go_wp2_with fail
 obtain ⟨q2,hq2⟩:∃ q,numF q1.2=q:=⟨_,rfl⟩
 refine (numR_any rb _ _ (HE.out.keep0 V1.out) D1.out HRB.out LL1.out).mono ?_
 rintro en x2 ⟨rfl,hr,u⟩
 rw [hq2] at hr ⊢
 have G2:=hid (show I64 q2.1 by rw [<-hq2];exact numberF_i64 _ _ _)
 have K2:=hid (show RS.Ok q2.2 by rw [<-hq2];exact numF_ok K1.out)
 have LL2:=hid (show q2.2.rest.length<=10000000 by rw [<-hq2];exact Nat.le_trans (numF_len0 K1.out) LL1.out)
 have D2:=hid hr
 have V2:=hid (V1.out.comp u fun i hi e=>by have:=RBW.out;omega)
 have T2:=hid ((u.block _ (heap_lt T1.out) fun e=>by have:=RBW.out;omega).trans T1.out)
 have Q2:=hid hq2
 clear hr u hq2 K1 LL1 D1 V1 T1
 go_wp2_with fail
 obtain ⟨q3,hq3⟩:∃ q,numF q2.2=q:=⟨_,rfl⟩
 refine (numR_any rb _ _ (HE.out.keep0 V2.out) D2.out HRB.out LL2.out).mono ?_
 rintro en x3 ⟨rfl,hr,u⟩
 rw [hq3] at hr ⊢
 have G3:=hid (show I64 q3.1 by rw [<-hq3];exact numberF_i64 _ _ _)
 have K3:=hid (show RS.Ok q3.2 by rw [<-hq3];exact numF_ok K2.out)
 have LL3:=hid (show q3.2.rest.length<=10000000 by rw [<-hq3];exact Nat.le_trans (numF_len0 K2.out) LL2.out)
 have D3:=hid hr
 have V3:=hid (V2.out.comp u fun i hi e=>by have:=RBW.out;omega)
 have T3:=hid ((u.block _ (heap_lt T2.out) fun e=>by have:=RBW.out;omega).trans T2.out)
 have Q3:=hid hq3
 clear hr u hq3 K2 LL2 D2 V2 T2
 go_wp2_with fail
 obtain ⟨q4,hq4⟩:∃ q,numsF q3.2=q:=⟨_,rfl⟩
 refine (numsR_any rb _ _ (HE.out.keep0 V3.out) D3.out HRB.out LL3.out K3.out).mono ?_
 rintro en x4 ⟨al4,nl4,cl4,rfl,hrep,hr,u⟩
 rw [show itemsF intF q3.2=q4 from hq4] at hrep hr
 obtain ⟨_,_,hv,h14,h24,_⟩:=slice_open hrep
 injection hv with e1 e2 e3
 subst e1 e2 e3
 have h24:cl4<=9223372036854775807:=h24
 have N4:=hid ((kSlice (kInt .i64)).mono hrep fun g hg=>(show w.heap.size<g/\g<x4.heap.size/\g≠rb from ⟨Nat.lt_of_lt_of_le (heap_lt T3.out) hg.1,hg.2,fun e=>by have:=heap_lt D3.out;have:=hg.1;omega⟩))
 clear hrep
 have K4:=hid (show RS.Ok q4.2 by rw [<-hq4];exact numsF_ok K3.out)
 have LL4:=hid (show q4.2.rest.length<=10000000 by rw [<-hq4];exact Nat.le_trans (numsF_len0 K3.out) LL3.out)
 have D4:=hid hr
 have V4:=hid (V3.out.comp u fun i hi e=>by have:=RBW.out;omega)
 have T4:=hid ((u.block _ (heap_lt T3.out) fun e=>by have:=RBW.out;omega).trans T3.out)
 have Q4:=hid hq4
 clear hr u hq4 K3 LL3 D3 V3 T3
 go_wp2_with fail
 obtain ⟨q5,hq5⟩:∃ q,numF q4.2=q:=⟨_,rfl⟩
 refine (numR_any rb _ _ (HE.out.keep0 V4.out) D4.out HRB.out LL4.out).mono ?_
 rintro en x5 ⟨rfl,hr,u⟩
 rw [hq5] at hr ⊢
 have G5:=hid (show I64 q5.1 by rw [<-hq5];exact numberF_i64 _ _ _)
 have N4:=hid ((kSlice (kInt .i64)).mono (rep_keep_ne N4.out u fun g hg e=>hg.2.2 e) fun g hg=>(show w.heap.size<g/\g<x5.heap.size/\g≠rb from ⟨hg.1,Nat.lt_of_lt_of_le hg.2.1 u.size,hg.2.2⟩))
 have K5:=hid (show RS.Ok q5.2 by rw [<-hq5];exact numF_ok K4.out)
 have LL5:=hid (show q5.2.rest.length<=10000000 by rw [<-hq5];exact Nat.le_trans (numF_len0 K4.out) LL4.out)
 have D5:=hid hr
 have V5:=hid (V4.out.comp u fun i hi e=>by have:=RBW.out;omega)
 have T5:=hid ((u.block _ (heap_lt T4.out) fun e=>by have:=RBW.out;omega).trans T4.out)
 have Q5:=hid hq5
 clear hr u hq5 K4 LL4 D4 V4 T4
 go_wp2_with fail
 obtain ⟨q6,hq6⟩:∃ q,numF q5.2=q:=⟨_,rfl⟩
 refine (numR_any rb _ _ (HE.out.keep0 V5.out) D5.out HRB.out LL5.out).mono ?_
 rintro en x6 ⟨rfl,hr,u⟩
 rw [hq6] at hr ⊢
 have G6:=hid (show I64 q6.1 by rw [<-hq6];exact numberF_i64 _ _ _)
 have N4:=hid ((kSlice (kInt .i64)).mono (rep_keep_ne N4.out u fun g hg e=>hg.2.2 e) fun g hg=>(show w.heap.size<g/\g<x6.heap.size/\g≠rb from ⟨hg.1,Nat.lt_of_lt_of_le hg.2.1 u.size,hg.2.2⟩))
 have K6:=hid (show RS.Ok q6.2 by rw [<-hq6];exact numF_ok K5.out)
 have LL6:=hid (show q6.2.rest.length<=10000000 by rw [<-hq6];exact Nat.le_trans (numF_len0 K5.out) LL5.out)
 have D6:=hid hr
 have V6:=hid (V5.out.comp u fun i hi e=>by have:=RBW.out;omega)
 have T6:=hid ((u.block _ (heap_lt T5.out) fun e=>by have:=RBW.out;omega).trans T5.out)
 have Q6:=hid hq6
 clear hr u hq6 K5 LL5 D5 V5 T5
 go_wp2_with fail
 obtain ⟨q7,hq7⟩:∃ q,numF q6.2=q:=⟨_,rfl⟩
 refine (numR_any rb _ _ (HE.out.keep0 V6.out) D6.out HRB.out LL6.out).mono ?_
 rintro en x7 ⟨rfl,hr,u⟩
 rw [hq7] at hr ⊢
 have G7:=hid (show I64 q7.1 by rw [<-hq7];exact numberF_i64 _ _ _)
 have N4:=hid ((kSlice (kInt .i64)).mono (rep_keep_ne N4.out u fun g hg e=>hg.2.2 e) fun g hg=>(show w.heap.size<g/\g<x7.heap.size/\g≠rb from ⟨hg.1,Nat.lt_of_lt_of_le hg.2.1 u.size,hg.2.2⟩))
 have K7:=hid (show RS.Ok q7.2 by rw [<-hq7];exact numF_ok K6.out)
 have LL7:=hid (show q7.2.rest.length<=10000000 by rw [<-hq7];exact Nat.le_trans (numF_len0 K6.out) LL6.out)
 have D7:=hid hr
 have V7:=hid (V6.out.comp u fun i hi e=>by have:=RBW.out;omega)
 have T7:=hid ((u.block _ (heap_lt T6.out) fun e=>by have:=RBW.out;omega).trans T6.out)
 have Q7:=hid hq7
 clear hr u hq7 K6 LL6 D6 V6 T6
 go_wp2_with fail
 obtain ⟨q8,hq8⟩:∃ q,intF q7.2=q:=⟨_,rfl⟩
 refine (intR_any rb _ _ (HE.out.keep0 V7.out) D7.out HRB.out LL7.out).mono ?_
 rintro en x8 ⟨rfl,hr,u⟩
 rw [hq8] at hr ⊢
 have G8:=hid (show I64 q8.1 by rw [<-hq8];exact numberF_i64 _ _ _)
 have N4:=hid ((kSlice (kInt .i64)).mono (rep_keep_ne N4.out u fun g hg e=>hg.2.2 e) fun g hg=>(show w.heap.size<g/\g<x8.heap.size/\g≠rb from ⟨hg.1,Nat.lt_of_lt_of_le hg.2.1 u.size,hg.2.2⟩))
 have K8:=hid (show RS.Ok q8.2 by rw [<-hq8];exact intF_ok K7.out)
 have LL8:=hid (show q8.2.rest.length<=10000000 by rw [<-hq8];exact Nat.le_trans (intF_len0 K7.out) LL7.out)
 have D8:=hid hr
 have V8:=hid (V7.out.comp u fun i hi e=>by have:=RBW.out;omega)
 have T8:=hid ((u.block _ (heap_lt T7.out) fun e=>by have:=RBW.out;omega).trans T7.out)
 have Q8:=hid hq8
 clear hr u hq8 K7 LL7 D7 V7 T7
 go_wp2_with fail
 obtain ⟨q9,hq9⟩:∃ q,intF q8.2=q:=⟨_,rfl⟩
 refine (intR_any rb _ _ (HE.out.keep0 V8.out) D8.out HRB.out LL8.out).mono ?_
 rintro en x9 ⟨rfl,hr,u⟩
 rw [hq9] at hr ⊢
 have G9:=hid (show I64 q9.1 by rw [<-hq9];exact numberF_i64 _ _ _)
 have N4:=hid ((kSlice (kInt .i64)).mono (rep_keep_ne N4.out u fun g hg e=>hg.2.2 e) fun g hg=>(show w.heap.size<g/\g<x9.heap.size/\g≠rb from ⟨hg.1,Nat.lt_of_lt_of_le hg.2.1 u.size,hg.2.2⟩))
 have K9:=hid (show RS.Ok q9.2 by rw [<-hq9];exact intF_ok K8.out)
 have LL9:=hid (show q9.2.rest.length<=10000000 by rw [<-hq9];exact Nat.le_trans (intF_len0 K8.out) LL8.out)
 have D9:=hid hr
 have V9:=hid (V8.out.comp u fun i hi e=>by have:=RBW.out;omega)
 have T9:=hid ((u.block _ (heap_lt T8.out) fun e=>by have:=RBW.out;omega).trans T8.out)
 have Q9:=hid hq9
 clear hr u hq9 K8 LL8 D8 V8 T8
 go_wp2_with fail
 obtain ⟨q10,hq10⟩:∃ q,intF q9.2=q:=⟨_,rfl⟩
 refine (intR_any rb _ _ (HE.out.keep0 V9.out) D9.out HRB.out LL9.out).mono ?_
 rintro en x10 ⟨rfl,hr,u⟩
 rw [hq10] at hr ⊢
 have G10:=hid (show I64 q10.1 by rw [<-hq10];exact numberF_i64 _ _ _)
 have N4:=hid ((kSlice (kInt .i64)).mono (rep_keep_ne N4.out u fun g hg e=>hg.2.2 e) fun g hg=>(show w.heap.size<g/\g<x10.heap.size/\g≠rb from ⟨hg.1,Nat.lt_of_lt_of_le hg.2.1 u.size,hg.2.2⟩))
 have K10:=hid (show RS.Ok q10.2 by rw [<-hq10];exact intF_ok K9.out)
 have LL10:=hid (show q10.2.rest.length<=10000000 by rw [<-hq10];exact Nat.le_trans (intF_len0 K9.out) LL9.out)
 have D10:=hid hr
 have V10:=hid (V9.out.comp u fun i hi e=>by have:=RBW.out;omega)
 have T10:=hid ((u.block _ (heap_lt T9.out) fun e=>by have:=RBW.out;omega).trans T9.out)
 have Q10:=hid hq10
 clear hr u hq10 K9 LL9 D9 V9 T9
 go_wp2_with fail
 obtain ⟨q11,hq11⟩:∃ q,numsF q10.2=q:=⟨_,rfl⟩
 refine (numsR_any rb _ _ (HE.out.keep0 V10.out) D10.out HRB.out LL10.out K10.out).mono ?_
 rintro en x11 ⟨al11,nl11,cl11,rfl,hrep,hr,u⟩
 rw [show itemsF intF q10.2=q11 from hq11] at hrep hr
 obtain ⟨_,_,hv,h111,h211,_⟩:=slice_open hrep
 injection hv with e1 e2 e3
 subst e1 e2 e3
 have h211:cl11<=9223372036854775807:=h211
 have N11:=hid ((kSlice (kInt .i64)).mono hrep fun g hg=>(show w.heap.size<g/\g<x11.heap.size/\g≠rb from ⟨Nat.lt_of_lt_of_le (heap_lt T10.out) hg.1,hg.2,fun e=>by have:=heap_lt D10.out;have:=hg.1;omega⟩))
 clear hrep
 have N4:=hid ((kSlice (kInt .i64)).mono (rep_keep_ne N4.out u fun g hg e=>hg.2.2 e) fun g hg=>(show w.heap.size<g/\g<x11.heap.size/\g≠rb from ⟨hg.1,Nat.lt_of_lt_of_le hg.2.1 u.size,hg.2.2⟩))
 have K11:=hid (show RS.Ok q11.2 by rw [<-hq11];exact numsF_ok K10.out)
 have LL11:=hid (show q11.2.rest.length<=10000000 by rw [<-hq11];exact Nat.le_trans (numsF_len0 K10.out) LL10.out)
 have D11:=hid hr
 have V11:=hid (V10.out.comp u fun i hi e=>by have:=RBW.out;omega)
 have T11:=hid ((u.block _ (heap_lt T10.out) fun e=>by have:=RBW.out;omega).trans T10.out)
 have Q11:=hid hq11
 clear hr u hq11 K10 LL10 D10 V10 T10
 obtain ⟨e0,he0⟩:∃ e:En,e=⟨q1.1,q2.1,q3.1,q4.1,q5.1,q6.1,q7.1,q8.1,q9.1,q10.1,q11.1,[],[]⟩:=⟨_,rfl⟩
 obtain ⟨XA,hXA⟩:∃ XA,XA=x11.alloc (.cells #[.int .i64 q1.1,.int .i64 q2.1,.int .i64 q3.1,.slice al4 q4.1.length cl4,.int .i64 q5.1,.int .i64 q6.1,.int .i64 q7.1,.int .i64 q8.1,.int .i64 q9.1,.int .i64 q10.1,.slice al11 q11.1.length cl11,.slice none 0 0,.string ⟨#[]⟩] 72 (0,0)):=⟨_,rfl⟩
 have ua:Upd (fun _=>False) x11 XA:=by rw [hXA];exact (Upd.refl _ _).alloc _
 have hb:XA.heap[x11.heap.size]? = some (.cells (en13 e0 al4 al11 none cl4 cl11 0) 72 (0,0)):=by rw [hXA,he0];exact heap_alloc_new
 obtain ⟨eb,heb⟩:∃ x,x11.heap.size=x:=⟨_,rfl⟩
 have EBL:=hid (show rb<eb by rw [<-heb];exact heap_lt D11.out)
 rw [heb] at hb
 have EB:=hid hb
 have D11:=hid (D11.out.upd ua id)
 have V11:=hid (V11.out.trans ua)
 have T11:=hid ((ua.block _ (heap_lt T11.out) id).trans T11.out)
 have N4:=hid ((kSlice (kInt .i64)).mono (rep_keep_ne N4.out ua fun _ _=>id) fun g hg=>(show w.heap.size<g/\g<eb/\g≠rb from ⟨hg.1,by rw [<-heb];exact hg.2.1,hg.2.2⟩))
 have N11:=hid ((kSlice (kInt .i64)).mono (rep_keep_ne N11.out ua fun _ _=>id) fun g hg=>(show w.heap.size<g/\g<eb/\g≠rb from ⟨hg.1,by rw [<-heb];exact hg.2.1,hg.2.2⟩))
 have HXA:=hid hXA;have HE0:=hid he0
 clear ua hb hXA he0
 go_wp2_with fail
 rw [<-HXA.out]
 try rw [heb]
 clear HXA heb
 obtain ⟨q12,hq12⟩:∃ q,numF q11.2=q:=⟨_,rfl⟩
 refine (numR_any rb _ _ (HE.out.keep0 V11.out) D11.out HRB.out LL11.out).mono ?_
 rintro en x12 ⟨rfl,hr,u⟩
 rw [hq12] at hr ⊢
 have G12:=hid (show I64 q12.1 by rw [<-hq12];exact numberF_i64 _ _ _)
 have K12:=hid (show RS.Ok q12.2 by rw [<-hq12];exact numF_ok K11.out)
 have LL12:=hid (show q12.2.rest.length<=10000000 by rw [<-hq12];exact Nat.le_trans (numF_len0 K11.out) LL11.out)
 have D12:=hid hr
 have V12:=hid (V11.out.comp u fun i hi e=>by have:=RBW.out;omega)
 have T12:=hid ((u.block _ (heap_lt T11.out) fun e=>by have:=RBW.out;omega).trans T11.out)
 have Q12:=hid hq12
 have XU:=hid u
 clear hr u hq12 K11 LL11 D11 V11 T11
 have EB12:=hid ((XU.out.block _ (heap_lt EB.out) (Nat.ne_of_gt EBL.out)).trans EB.out)
 have N4:=hid (rep_keep_ne N4.out XU.out fun g hg=>hg.2.2)
 have N11:=hid (rep_keep_ne N11.out XU.out fun g hg=>hg.2.2)
 clear EB XU
 obtain ⟨SP,hSP⟩:∃ x,spansF 42 q12.1 q12.2 []=x:=⟨_,rfl⟩
 obtain ⟨qt,hqt⟩:∃ x,textF SP.2=x:=⟨_,rfl⟩
 have RD:=hid (show readE s=(({ e0 with spans:=SP.1,text:=qt.1 }:En),qt.2) by
  rw [<-RE.out,readG_eq Q1.out Q2.out Q3.out Q4.out Q5.out Q6.out Q7.out Q8.out Q9.out Q10.out Q11.out Q12.out hSP hqt,HE0.out])
 have HSP:=hid hSP;have HQT:=hid hqt
 have EK:=hid (show e0.knows=q4.1/\e0.keys=q11.1 by rw [HE0.out];exact ⟨rfl,rfl⟩)
 have HE0z:=hid (show ({ e0 with spans:=([]:List Sp) }:En)=e0 by rw [HE0.out])
 clear RE hSP hqt Q1 Q2 Q3 Q4 Q5 Q6 Q7 Q8 Q9 Q10 Q11 Q12 HE0
 have hi12:-9223372036854775808<=q12.1:=G12.out.1
 have hi13:q12.1<=9223372036854775807:=G12.out.2
 clear G1 G2 G3 G5 G6 G7 G8 G9 G10 G12
 go_wp2_with fail
 go_loopg [6] 42 (fun gg s6 wr=>∃ (n:Int) (r:RS) (acc:List Sp) (a3:Option Addr) (c3:Nat),acc.length+gg=42/\acc.length<=41/\s6=.int .i64 n/\I64 n/\r.rest.length<=10000000/\RdAt wr rb r/\wr.heap[eb]? = some (.cells (en13 { e0 with spans:=acc } al4 al11 a3 cl4 cl11 c3) 72 (0,0))/\wr.ownsRow x12.heap.size 177 3 (.slice a3 acc.length c3) acc.length (flatS acc)/\(∀ s∈acc,SpWf s)/\spansF gg n r acc=SP/\Upd (fun i=>i=rb\/i=eb) x12 wr)
 case atStart=>exact ⟨q12.1,q12.2,[],none,0,rfl,by decide,rfl,⟨hi12,hi13⟩,LL12.out,D12.out,by rw [HE0z.out];exact EB12.out,World.ownsRow_nil _ _ _ _,(fun s hs=>nomatch hs),HSP.out,Upd.refl _ _⟩
 case round =>
  obtain ⟨n,r,acc,a3,c3,hgl,hal,rfl,hn,hrl,hr,hbl,hown,hwf,hsp,u⟩:=hrel
  obtain ⟨f,rfl⟩:∃ f,gk=f+1:=⟨gk-1,by omega⟩
  have RR:=hid hr;have BL:=hid hbl;have OW:=hid hown;have WF:=hid hwf;have SPF:=hid hsp;have UL:=hid u;have HNI:=hid hn
  have hn1:-9223372036854775808<=n:=hn.1
  have hn2:n<=9223372036854775807:=hn.2
  obtain ⟨_,_,_,_,_,_,_,_,_,_,_,d11,_⟩:=cells13 hbl
  have d11:wr.cell? ⟨eb,11,none⟩=some (.slice a3 acc.length c3):=d11
  clear hr hbl hown hwf hsp u hn
  by_cases hA:0<n
  case neg =>
   have tA:decide ((0:Int)<n)=false:=decide_eq_false hA
   have hspe:=SPF.out
   rw [spansF_stop (fun h=>hA h.1)] at hspe
   subst hspe
   have HQ:=hid (show textF r=qt from HQT.out)
   have UZ:=hid (V12.out.comp UL.out fun i hi e=>by have:=RBW.out;have:=EBL.out;omega)
   have TZ:=hid ((UL.out.block _ (heap_lt T12.out) fun e=>by have:=RBW.out;have:=EBL.out;omega).trans T12.out)
   have M4:=hid ((kSlice (kInt .i64)).keep N4.out fun g hg _=>UL.out.block g (Nat.lt_of_lt_of_le hg.2.1 (Nat.le_of_lt (heap_lt EB12.out))) fun e=>by have:=hg.2;omega)
   have M11:=hid ((kSlice (kInt .i64)).keep N11.out fun g hg _=>UL.out.block g (Nat.lt_of_lt_of_le hg.2.1 (Nat.le_of_lt (heap_lt EB12.out))) fun e=>by have:=hg.2;omega)
   have EBX:=hid (heap_lt EB12.out)
   clear SPF UL HQT V12 T12 N4 N11 EB12
   go_wp2_with fail
   clear tA hA
   refine (textR_any rb r _ (HE.out.keep0 UZ.out) RR.out HRB.out hrl).mono ?_
   rintro en wt ⟨rfl,ht,u⟩
   rw [HQ.out] at ht ⊢
   have hbt:=(u.block _ (heap_lt BL.out) (Nat.ne_of_gt EBL.out)).trans BL.out
   have ft:wt.frozen? ⟨eb,12,none⟩=false:=frozen13 hbt
   obtain ⟨_,_,_,_,_,_,_,_,_,_,_,_,dt⟩:=cells13 hbt
   have UT:=hid (UZ.out.comp u fun i hi e=>by have:=RBW.out;omega)
   have TT:=hid ((u.block _ (heap_lt TZ.out) fun e=>by have:=RBW.out;omega).trans TZ.out)
   have P4:=hid (rep_keep_ne M4.out u fun g hg=>hg.2.2)
   have P11:=hid (rep_keep_ne M11.out u fun g hg=>hg.2.2)
   have PS:=hid (ownsRow_upd OW.out u fun g hg e=>by have:=(OW.out.lt g hg).1;have:=EBX.out;have:=EBL.out;omega)
   have HT:=hid ht;have HBT:=hid hbt
   have USZ:=hid u.size
   clear ht hbt u UZ TZ M4 M11 OW BL RR d11
   go_wp2_with fail
   clear dt ft
   obtain ⟨W5,hW5⟩:∃ W5,W5=wt.setCell ⟨eb,12,none⟩ (.string ⟨qt.1.toArray⟩):=⟨_,rfl⟩
   rw [<-hW5]
   have u5:Upd (· = eb) wt W5:=by rw [hW5];exact (Upd.refl _ _).at_ 12 _
   obtain ⟨x,hx⟩:∃ x:En,{ e0 with spans:=acc,text:=qt.1 }=x:=⟨_,rfl⟩
   have hb5:W5.heap[eb]? = some (.cells (en13 x al4 al11 a3 cl4 cl11 c3) 72 (0,0)):=by rw [hW5,store_12 HBT.out,<-hx]
   have RDX:=hid (show readE s=(x,qt.2) by rw [RD.out,hx])
   have hr5:=HT.out.upd u5 (Nat.ne_of_lt EBL.out)
   have U5:=hid (UT.out.comp u5 fun i hi e=>by have:=EBL.out;have:=RBW.out;omega)
   have T5:=hid ((u5.block _ (heap_lt TT.out) fun e=>by have:=EBL.out;have:=RBW.out;omega).trans TT.out)
   have ek:=EK.out
   have X1:Hid (x.knows=q4.1):=hid (by rw [<-hx];exact ek.1)
   have X2:Hid (x.keys=q11.1):=hid (by rw [<-hx];exact ek.2)
   have X3:Hid (x.spans=acc):=hid (by rw [<-hx])
   have r4:=rep_keep_ne P4.out u5 fun g hg=>Nat.ne_of_lt hg.2.1
   have r11:=rep_keep_ne P11.out u5 fun g hg=>Nat.ne_of_lt hg.2.1
   have rs:=sps_own_rep (A:=fun g=>w.heap.size<g/\g<W5.heap.size) (ownsRow_upd PS.out u5 fun g hg e=>by have:=(PS.out.lt g hg).1;have:=EBX.out;omega) WF.out fun g hg=>⟨by have:=(PS.out.lt g hg).1;have:=EBX.out;have:=EBL.out;have:=RBW.out;omega,Nat.lt_of_lt_of_le (PS.out.lt g hg).2 u5.size⟩
   have hsz5:eb<W5.heap.size:=heap_lt hb5
   have hrep:EnRep (fun g=>w.heap.size<g/\g<W5.heap.size) W5 x al4 al11 a3 cl4 cl11 c3 :=
    ⟨by rw [X1.out];exact (kSlice (kInt .i64)).mono r4 fun g hg=>⟨hg.1,Nat.lt_trans hg.2.1 hsz5⟩,by rw [X2.out];exact (kSlice (kInt .i64)).mono r11 fun g hg=>⟨hg.1,Nat.lt_trans hg.2.1 hsz5⟩,by rw [X3.out];exact rs⟩
   have REP:=hid hrep;have HB5:=hid hb5;have HR5:=hid hr5
   have WFX:=hid (show EnWf x by
    have:=readG_wf (r:=⟨s,false⟩) (fun h=>nomatch h) HL.out
    rw [read_g,RDX.out] at this
    exact this)
   clear hW5 u5 hx hb5 hr5 r4 r11 rs hsz5 hrep ek UT TT P4 P11 PS HT HBT X1 X2 X3 EK
   by_cases hdone:doneF qt.2=true
   case neg =>
    have hd:doneF qt.2=false:=by simpa using hdone
    have HN:=hid (rdF_bad RDX.out fun h=>by
     have h1:=h.1;have h2:=h.2.1
     unfold doneF at hd
     rw [h1,h2] at hd
     cases hd)
    clear hdone
    refine (done_any rb qt.2 _ HR5.out).mono ?_
    rintro en w6 ⟨rfl,hw6⟩
    subst hw6
    rw [hd]
    clear hd
    have ft:∀ k,W5.frozen? ⟨w.heap.size,k,none⟩=false:=fun k=>frozen13 T5.out
    obtain ⟨z0,z1,z2,z3,z4,z5,z6,z7,z8,z9,z10,z11,z12⟩:=cells13 T5.out
    go_wp2_with fail
    clear z0 z1 z2 z3 z4 z5 z6 z7 z8 z9 z10 z11 z12 ft
    obtain ⟨WF,hWF⟩:∃ WF,WF=W5.setCells w.heap.size 0 [.int .i64 0,.int .i64 0,.int .i64 0,.slice none 0 0,.int .i64 0,.int .i64 0,.int .i64 0,.int .i64 0,.int .i64 0,.int .i64 0,.slice none 0 0,.slice none 0 0,.string ⟨#[]⟩]:=⟨_,rfl⟩
    have uf:Upd (· = w.heap.size) W5 WF:=by rw [hWF];exact upd_setCells' (S:=(· = w.heap.size)) _ (.inl rfl) _ _ _ (Upd.refl _ _)
    have hbf:WF.heap[w.heap.size]? = some (.cells (en13 En.none none none none 0 0 0) 72 (0,0)):=by
     rw [hWF];exact heap_setCells _ _ _ _ _ _ _ T5.out (by simp)
    simp only [World.setCells] at hWF
    rw [<-hWF]
    obtain ⟨z0,z1,z2,z3,z4,z5,z6,z7,z8,z9,z10,z11,z12⟩:=cells13 hbf
    have UF:=hid (U5.out.comp uf fun i hi e=>by omega)
    clear hWF uf hbf
    refine bodyPost_ret (v:=.tuple #[.agg #[.int .i64 0,.int .i64 0,.int .i64 0,.slice none 0 0,.int .i64 0,.int .i64 0,.int .i64 0,.int .i64 0,.int .i64 0,.int .i64 0,.slice none 0 0,.slice none 0 0,.string ⟨#[]⟩],.int .i64 2]) (by rw [results_cell_tmp rfl];go_simp;decide) rfl ?_
    exact read_no HN.out UF.out
   have HDN:=hid hdone
   by_cases hright:RightE x
   case neg =>
    have HN:=hid (rdF_bad RDX.out fun h=>hright h.2.2.1)
    have HRN:=hid hright
    obtain ⟨d0,d1,d2,d3,d4,d5,d6,d7,d8,d9,d10,d11,d12⟩:=cells13 HB5.out
    clear hright hdone
    refine (done_any rb qt.2 _ HR5.out).mono ?_
    rintro en w6 ⟨rfl,hw6⟩
    subst hw6
    rw [HDN.out]
    go_wp2_with fail
    refine (right_any x al4 al11 a3 cl4 cl11 c3 _ _ (HU.out.keep U5.out) REP.out).mono ?_
    rintro en w6 ⟨rfl,u⟩
    rw [decide_eq_false HRN.out]
    have U6:=hid (U5.out.trans u)
    have T6:=hid ((u.block _ (heap_lt T5.out) id).trans T5.out)
    clear u d0 d1 d2 d3 d4 d5 d6 d7 d8 d9 d10 d11 d12
    have ft:∀ k,w6.frozen? ⟨w.heap.size,k,none⟩=false:=fun k=>frozen13 T6.out
    obtain ⟨z0,z1,z2,z3,z4,z5,z6,z7,z8,z9,z10,z11,z12⟩:=cells13 T6.out
    go_wp2_with fail
    clear z0 z1 z2 z3 z4 z5 z6 z7 z8 z9 z10 z11 z12 ft
    obtain ⟨WF,hWF⟩:∃ WF,WF=w6.setCells w.heap.size 0 [.int .i64 0,.int .i64 0,.int .i64 0,.slice none 0 0,.int .i64 0,.int .i64 0,.int .i64 0,.int .i64 0,.int .i64 0,.int .i64 0,.slice none 0 0,.slice none 0 0,.string ⟨#[]⟩]:=⟨_,rfl⟩
    have uf:Upd (· = w.heap.size) w6 WF:=by rw [hWF];exact upd_setCells' (S:=(· = w.heap.size)) _ (.inl rfl) _ _ _ (Upd.refl _ _)
    have hbf:WF.heap[w.heap.size]? = some (.cells (en13 En.none none none none 0 0 0) 72 (0,0)):=by
     rw [hWF];exact heap_setCells _ _ _ _ _ _ _ T6.out (by simp)
    simp only [World.setCells] at hWF
    rw [<-hWF]
    obtain ⟨z0,z1,z2,z3,z4,z5,z6,z7,z8,z9,z10,z11,z12⟩:=cells13 hbf
    have UF:=hid (U6.out.comp uf fun i hi e=>by omega)
    clear hWF uf hbf
    refine bodyPost_ret (v:=.tuple #[.agg #[.int .i64 0,.int .i64 0,.int .i64 0,.slice none 0 0,.int .i64 0,.int .i64 0,.int .i64 0,.int .i64 0,.int .i64 0,.int .i64 0,.slice none 0 0,.slice none 0 0,.string ⟨#[]⟩],.int .i64 2]) (by rw [results_cell_tmp rfl];go_simp;decide) rfl ?_
    exact read_no HN.out UF.out
   have HRY:=hid hright
   obtain ⟨d0,d1,d2,d3,d4,d5,d6,d7,d8,d9,d10,d11,d12⟩:=cells13 HB5.out
   clear hright hdone
   refine (done_any rb qt.2 _ HR5.out).mono ?_
   rintro en w6 ⟨rfl,hw6⟩
   subst hw6
   rw [HDN.out]
   go_wp2_with fail
   refine (right_any x al4 al11 a3 cl4 cl11 c3 _ _ (HU.out.keep U5.out) REP.out).mono ?_
   rintro en w6 ⟨rfl,u⟩
   rw [decide_eq_true HRY.out]
   have U6:=hid (U5.out.trans u)
   have T6:=hid ((u.block _ (heap_lt T5.out) id).trans T5.out)
   have B6:=hid ((u.block _ (heap_lt HB5.out) id).trans HB5.out)
   have R6:=hid (REP.out.keep u)
   have S6:=hid u.size
   clear u d0 d1 d2 d3 d4 d5 d6 d7 d8 d9 d10 d11 d12
   obtain ⟨d0,d1,d2,d3,d4,d5,d6,d7,d8,d9,d10,d11,d12⟩:=cells13 B6.out
   go_wp2_with fail
   refine (text_any x al4 al11 a3 cl4 cl11 c3 _ (HE.out.keep0 U6.out) (HU.out.keep U6.out) (EnRep.wide R6.out fun g hg=>Nat.lt_of_lt_of_le hg.2 S6.out) WFX.out).mono ?_
   rintro en w7 ⟨rfl,u⟩
   have U7:=hid (U6.out.trans u)
   have T7:=hid ((u.block _ (heap_lt T6.out) id).trans T6.out)
   have B7:=hid ((u.block _ (heap_lt B6.out) id).trans B6.out)
   have R7:=hid (EnRep.wide (R6.out.keep u) (B:=fun g=>w.heap.size<g/\g<w7.heap.size) fun g hg=>⟨hg.1,Nat.lt_of_lt_of_le hg.2 (Nat.le_trans S6.out u.size)⟩)
   clear u d0 d1 d2 d3 d4 d5 d6 d7 d8 d9 d10 d11 d12
   by_cases heq:txtF x=s
   case neg =>
    have hq1:(txtF x==s)=false:=beq_eq_false_iff_ne.2 heq
    have hq2:(txtF x != s)=true:=bne_iff_ne.2 heq
    have HN:=hid (rdF_bad RDX.out fun h=>heq h.2.2.2)
    clear heq
    have ft:∀ k,w7.frozen? ⟨w.heap.size,k,none⟩=false:=fun k=>frozen13 T7.out
    obtain ⟨z0,z1,z2,z3,z4,z5,z6,z7,z8,z9,z10,z11,z12⟩:=cells13 T7.out
    go_wp2_with fail
    clear z0 z1 z2 z3 z4 z5 z6 z7 z8 z9 z10 z11 z12 ft
    obtain ⟨WF,hWF⟩:∃ WF,WF=w7.setCells w.heap.size 0 [.int .i64 0,.int .i64 0,.int .i64 0,.slice none 0 0,.int .i64 0,.int .i64 0,.int .i64 0,.int .i64 0,.int .i64 0,.int .i64 0,.slice none 0 0,.slice none 0 0,.string ⟨#[]⟩]:=⟨_,rfl⟩
    have uf:Upd (· = w.heap.size) w7 WF:=by rw [hWF];exact upd_setCells' (S:=(· = w.heap.size)) _ (.inl rfl) _ _ _ (Upd.refl _ _)
    have hbf:WF.heap[w.heap.size]? = some (.cells (en13 En.none none none none 0 0 0) 72 (0,0)):=by
     rw [hWF];exact heap_setCells _ _ _ _ _ _ _ T7.out (by simp)
    simp only [World.setCells] at hWF
    rw [<-hWF]
    obtain ⟨z0,z1,z2,z3,z4,z5,z6,z7,z8,z9,z10,z11,z12⟩:=cells13 hbf
    have UF:=hid (U7.out.comp uf fun i hi e=>by omega)
    clear hWF uf hbf
    refine bodyPost_ret (v:=.tuple #[.agg #[.int .i64 0,.int .i64 0,.int .i64 0,.slice none 0 0,.int .i64 0,.int .i64 0,.int .i64 0,.int .i64 0,.int .i64 0,.int .i64 0,.slice none 0 0,.slice none 0 0,.string ⟨#[]⟩],.int .i64 2]) (by rw [results_cell_tmp rfl];go_simp;decide) rfl ?_
    exact read_no HN.out UF.out
   have hq1:(txtF x==s)=true:=beq_iff_eq.2 heq
   have hq2:(txtF x != s)=false:=by rw [heq];simp
   have HY:=hid (rdF_good RDX.out ⟨by
    have h:=HDN.out
    unfold doneF at h
    simp only [Bool.and_eq_true,Bool.not_eq_true'] at h
    exact h.1,by
    have h:=HDN.out
    unfold doneF at h
    simp only [Bool.and_eq_true,List.isEmpty_iff] at h
    exact h.2,HRY.out,heq⟩)
   obtain ⟨d0,d1,d2,d3,d4,d5,d6,d7,d8,d9,d10,d11,d12⟩:=cells13 B7.out
   clear heq
   have ft:∀ k,w7.frozen? ⟨w.heap.size,k,none⟩=false:=fun k=>frozen13 T7.out
   obtain ⟨z0,z1,z2,z3,z4,z5,z6,z7,z8,z9,z10,z11,z12⟩:=cells13 T7.out
   go_wp2_with fail
   clear z0 z1 z2 z3 z4 z5 z6 z7 z8 z9 z10 z11 z12 ft d0 d1 d2 d3 d4 d5 d6 d7 d8 d9 d10 d11 d12 hq1 hq2
   obtain ⟨WF,hWF⟩:∃ WF,WF=w7.setCells w.heap.size 0 [.int .i64 x.author,.int .i64 x.seq,.int .i64 x.day,.slice al4 x.knows.length cl4,.int .i64 x.kind,.int .i64 x.circle,.int .i64 x.who,.int .i64 x.n,.int .i64 x.m,.int .i64 x.ref,.slice al11 x.keys.length cl11,.slice a3 x.spans.length c3,.string ⟨x.text.toArray⟩]:=⟨_,rfl⟩
   have uf:Upd (· = w.heap.size) w7 WF:=by rw [hWF];exact upd_setCells' (S:=(· = w.heap.size)) _ (.inl rfl) _ _ _ (Upd.refl _ _)
   have hbf:WF.heap[w.heap.size]? = some (.cells (en13 x al4 al11 a3 cl4 cl11 c3) 72 (0,0)):=by
    rw [hWF];exact heap_setCells _ _ _ _ _ _ _ T7.out (by simp)
   simp only [World.setCells] at hWF
   rw [<-hWF]
   obtain ⟨z0,z1,z2,z3,z4,z5,z6,z7,z8,z9,z10,z11,z12⟩:=cells13 hbf
   have UF:=hid (U7.out.comp uf fun i hi e=>by omega)
   have RF:=hid (EnRep.wide (EnRep.keep1 R7.out uf fun g hg=>Nat.ne_of_gt hg.1) (B:=fun g=>w.heap.size<=g/\g<WF.heap.size) fun g hg=>⟨Nat.le_of_lt hg.1,Nat.lt_of_lt_of_le hg.2 uf.size⟩)
   clear hWF uf hbf
   refine bodyPost_ret (v:=.tuple #[.agg #[.int .i64 x.author,.int .i64 x.seq,.int .i64 x.day,.slice al4 x.knows.length cl4,.int .i64 x.kind,.int .i64 x.circle,.int .i64 x.who,.int .i64 x.n,.int .i64 x.m,.int .i64 x.ref,.slice al11 x.keys.length cl11,.slice a3 x.spans.length c3,.string ⟨x.text.toArray⟩],.int .i64 0]) (by rw [results_cell_tmp rfl];go_simp) rfl ?_
   exact read_yes HY.out RF.out UF.out
  have tA:decide ((0:Int)<n)=true:=decide_eq_true hA
  by_cases hB:r.rest=[]
  case pos =>
   have tB:decide ((0:Int)<(r.rest.length:Int))=false:=by rw [hB];rfl
   have tB2:decide (0<r.rest.length)=false:=by rw [hB];rfl
   have hspe:=SPF.out
   rw [spansF_stop (fun h=>h.2.1 hB)] at hspe
   subst hspe
   have HQ:=hid (show textF r=qt from HQT.out)
   have UZ:=hid (V12.out.comp UL.out fun i hi e=>by have:=RBW.out;have:=EBL.out;omega)
   have TZ:=hid ((UL.out.block _ (heap_lt T12.out) fun e=>by have:=RBW.out;have:=EBL.out;omega).trans T12.out)
   have M4:=hid ((kSlice (kInt .i64)).keep N4.out fun g hg _=>UL.out.block g (Nat.lt_of_lt_of_le hg.2.1 (Nat.le_of_lt (heap_lt EB12.out))) fun e=>by have:=hg.2;omega)
   have M11:=hid ((kSlice (kInt .i64)).keep N11.out fun g hg _=>UL.out.block g (Nat.lt_of_lt_of_le hg.2.1 (Nat.le_of_lt (heap_lt EB12.out))) fun e=>by have:=hg.2;omega)
   have EBX:=hid (heap_lt EB12.out)
   clear SPF UL HQT V12 T12 N4 N11 EB12
   go_wp2_with fail
   refine (left_any rb r _ RR.out).mono ?_
   rintro en w6 ⟨rfl,hw6⟩
   subst hw6
   go_wp2_with fail
   clear tA tB tB2 hA hB
   refine (textR_any rb r _ (HE.out.keep0 UZ.out) RR.out HRB.out hrl).mono ?_
   rintro en wt ⟨rfl,ht,u⟩
   rw [HQ.out] at ht ⊢
   have hbt:=(u.block _ (heap_lt BL.out) (Nat.ne_of_gt EBL.out)).trans BL.out
   have ft:wt.frozen? ⟨eb,12,none⟩=false:=frozen13 hbt
   obtain ⟨_,_,_,_,_,_,_,_,_,_,_,_,dt⟩:=cells13 hbt
   have UT:=hid (UZ.out.comp u fun i hi e=>by have:=RBW.out;omega)
   have TT:=hid ((u.block _ (heap_lt TZ.out) fun e=>by have:=RBW.out;omega).trans TZ.out)
   have P4:=hid (rep_keep_ne M4.out u fun g hg=>hg.2.2)
   have P11:=hid (rep_keep_ne M11.out u fun g hg=>hg.2.2)
   have PS:=hid (ownsRow_upd OW.out u fun g hg e=>by have:=(OW.out.lt g hg).1;have:=EBX.out;have:=EBL.out;omega)
   have HT:=hid ht;have HBT:=hid hbt
   have USZ:=hid u.size
   clear ht hbt u UZ TZ M4 M11 OW BL RR d11
   go_wp2_with fail
   clear dt ft
   obtain ⟨W5,hW5⟩:∃ W5,W5=wt.setCell ⟨eb,12,none⟩ (.string ⟨qt.1.toArray⟩):=⟨_,rfl⟩
   rw [<-hW5]
   have u5:Upd (· = eb) wt W5:=by rw [hW5];exact (Upd.refl _ _).at_ 12 _
   obtain ⟨x,hx⟩:∃ x:En,{ e0 with spans:=acc,text:=qt.1 }=x:=⟨_,rfl⟩
   have hb5:W5.heap[eb]? = some (.cells (en13 x al4 al11 a3 cl4 cl11 c3) 72 (0,0)):=by rw [hW5,store_12 HBT.out,<-hx]
   have RDX:=hid (show readE s=(x,qt.2) by rw [RD.out,hx])
   have hr5:=HT.out.upd u5 (Nat.ne_of_lt EBL.out)
   have U5:=hid (UT.out.comp u5 fun i hi e=>by have:=EBL.out;have:=RBW.out;omega)
   have T5:=hid ((u5.block _ (heap_lt TT.out) fun e=>by have:=EBL.out;have:=RBW.out;omega).trans TT.out)
   have ek:=EK.out
   have X1:Hid (x.knows=q4.1):=hid (by rw [<-hx];exact ek.1)
   have X2:Hid (x.keys=q11.1):=hid (by rw [<-hx];exact ek.2)
   have X3:Hid (x.spans=acc):=hid (by rw [<-hx])
   have r4:=rep_keep_ne P4.out u5 fun g hg=>Nat.ne_of_lt hg.2.1
   have r11:=rep_keep_ne P11.out u5 fun g hg=>Nat.ne_of_lt hg.2.1
   have rs:=sps_own_rep (A:=fun g=>w.heap.size<g/\g<W5.heap.size) (ownsRow_upd PS.out u5 fun g hg e=>by have:=(PS.out.lt g hg).1;have:=EBX.out;omega) WF.out fun g hg=>⟨by have:=(PS.out.lt g hg).1;have:=EBX.out;have:=EBL.out;have:=RBW.out;omega,Nat.lt_of_lt_of_le (PS.out.lt g hg).2 u5.size⟩
   have hsz5:eb<W5.heap.size:=heap_lt hb5
   have hrep:EnRep (fun g=>w.heap.size<g/\g<W5.heap.size) W5 x al4 al11 a3 cl4 cl11 c3 :=
    ⟨by rw [X1.out];exact (kSlice (kInt .i64)).mono r4 fun g hg=>⟨hg.1,Nat.lt_trans hg.2.1 hsz5⟩,by rw [X2.out];exact (kSlice (kInt .i64)).mono r11 fun g hg=>⟨hg.1,Nat.lt_trans hg.2.1 hsz5⟩,by rw [X3.out];exact rs⟩
   have REP:=hid hrep;have HB5:=hid hb5;have HR5:=hid hr5
   have WFX:=hid (show EnWf x by
    have:=readG_wf (r:=⟨s,false⟩) (fun h=>nomatch h) HL.out
    rw [read_g,RDX.out] at this
    exact this)
   clear hW5 u5 hx hb5 hr5 r4 r11 rs hsz5 hrep ek UT TT P4 P11 PS HT HBT X1 X2 X3 EK
   by_cases hdone:doneF qt.2=true
   case neg =>
    have hd:doneF qt.2=false:=by simpa using hdone
    have HN:=hid (rdF_bad RDX.out fun h=>by
     have h1:=h.1;have h2:=h.2.1
     unfold doneF at hd
     rw [h1,h2] at hd
     cases hd)
    clear hdone
    refine (done_any rb qt.2 _ HR5.out).mono ?_
    rintro en w6 ⟨rfl,hw6⟩
    subst hw6
    rw [hd]
    clear hd
    have ft:∀ k,W5.frozen? ⟨w.heap.size,k,none⟩=false:=fun k=>frozen13 T5.out
    obtain ⟨z0,z1,z2,z3,z4,z5,z6,z7,z8,z9,z10,z11,z12⟩:=cells13 T5.out
    go_wp2_with fail
    clear z0 z1 z2 z3 z4 z5 z6 z7 z8 z9 z10 z11 z12 ft
    obtain ⟨WF,hWF⟩:∃ WF,WF=W5.setCells w.heap.size 0 [.int .i64 0,.int .i64 0,.int .i64 0,.slice none 0 0,.int .i64 0,.int .i64 0,.int .i64 0,.int .i64 0,.int .i64 0,.int .i64 0,.slice none 0 0,.slice none 0 0,.string ⟨#[]⟩]:=⟨_,rfl⟩
    have uf:Upd (· = w.heap.size) W5 WF:=by rw [hWF];exact upd_setCells' (S:=(· = w.heap.size)) _ (.inl rfl) _ _ _ (Upd.refl _ _)
    have hbf:WF.heap[w.heap.size]? = some (.cells (en13 En.none none none none 0 0 0) 72 (0,0)):=by
     rw [hWF];exact heap_setCells _ _ _ _ _ _ _ T5.out (by simp)
    simp only [World.setCells] at hWF
    rw [<-hWF]
    obtain ⟨z0,z1,z2,z3,z4,z5,z6,z7,z8,z9,z10,z11,z12⟩:=cells13 hbf
    have UF:=hid (U5.out.comp uf fun i hi e=>by omega)
    clear hWF uf hbf
    refine bodyPost_ret (v:=.tuple #[.agg #[.int .i64 0,.int .i64 0,.int .i64 0,.slice none 0 0,.int .i64 0,.int .i64 0,.int .i64 0,.int .i64 0,.int .i64 0,.int .i64 0,.slice none 0 0,.slice none 0 0,.string ⟨#[]⟩],.int .i64 2]) (by rw [results_cell_tmp rfl];go_simp;decide) rfl ?_
    exact read_no HN.out UF.out
   have HDN:=hid hdone
   by_cases hright:RightE x
   case neg =>
    have HN:=hid (rdF_bad RDX.out fun h=>hright h.2.2.1)
    have HRN:=hid hright
    obtain ⟨d0,d1,d2,d3,d4,d5,d6,d7,d8,d9,d10,d11,d12⟩:=cells13 HB5.out
    clear hright hdone
    refine (done_any rb qt.2 _ HR5.out).mono ?_
    rintro en w6 ⟨rfl,hw6⟩
    subst hw6
    rw [HDN.out]
    go_wp2_with fail
    refine (right_any x al4 al11 a3 cl4 cl11 c3 _ _ (HU.out.keep U5.out) REP.out).mono ?_
    rintro en w6 ⟨rfl,u⟩
    rw [decide_eq_false HRN.out]
    have U6:=hid (U5.out.trans u)
    have T6:=hid ((u.block _ (heap_lt T5.out) id).trans T5.out)
    clear u d0 d1 d2 d3 d4 d5 d6 d7 d8 d9 d10 d11 d12
    have ft:∀ k,w6.frozen? ⟨w.heap.size,k,none⟩=false:=fun k=>frozen13 T6.out
    obtain ⟨z0,z1,z2,z3,z4,z5,z6,z7,z8,z9,z10,z11,z12⟩:=cells13 T6.out
    go_wp2_with fail
    clear z0 z1 z2 z3 z4 z5 z6 z7 z8 z9 z10 z11 z12 ft
    obtain ⟨WF,hWF⟩:∃ WF,WF=w6.setCells w.heap.size 0 [.int .i64 0,.int .i64 0,.int .i64 0,.slice none 0 0,.int .i64 0,.int .i64 0,.int .i64 0,.int .i64 0,.int .i64 0,.int .i64 0,.slice none 0 0,.slice none 0 0,.string ⟨#[]⟩]:=⟨_,rfl⟩
    have uf:Upd (· = w.heap.size) w6 WF:=by rw [hWF];exact upd_setCells' (S:=(· = w.heap.size)) _ (.inl rfl) _ _ _ (Upd.refl _ _)
    have hbf:WF.heap[w.heap.size]? = some (.cells (en13 En.none none none none 0 0 0) 72 (0,0)):=by
     rw [hWF];exact heap_setCells _ _ _ _ _ _ _ T6.out (by simp)
    simp only [World.setCells] at hWF
    rw [<-hWF]
    obtain ⟨z0,z1,z2,z3,z4,z5,z6,z7,z8,z9,z10,z11,z12⟩:=cells13 hbf
    have UF:=hid (U6.out.comp uf fun i hi e=>by omega)
    clear hWF uf hbf
    refine bodyPost_ret (v:=.tuple #[.agg #[.int .i64 0,.int .i64 0,.int .i64 0,.slice none 0 0,.int .i64 0,.int .i64 0,.int .i64 0,.int .i64 0,.int .i64 0,.int .i64 0,.slice none 0 0,.slice none 0 0,.string ⟨#[]⟩],.int .i64 2]) (by rw [results_cell_tmp rfl];go_simp;decide) rfl ?_
    exact read_no HN.out UF.out
   have HRY:=hid hright
   obtain ⟨d0,d1,d2,d3,d4,d5,d6,d7,d8,d9,d10,d11,d12⟩:=cells13 HB5.out
   clear hright hdone
   refine (done_any rb qt.2 _ HR5.out).mono ?_
   rintro en w6 ⟨rfl,hw6⟩
   subst hw6
   rw [HDN.out]
   go_wp2_with fail
   refine (right_any x al4 al11 a3 cl4 cl11 c3 _ _ (HU.out.keep U5.out) REP.out).mono ?_
   rintro en w6 ⟨rfl,u⟩
   rw [decide_eq_true HRY.out]
   have U6:=hid (U5.out.trans u)
   have T6:=hid ((u.block _ (heap_lt T5.out) id).trans T5.out)
   have B6:=hid ((u.block _ (heap_lt HB5.out) id).trans HB5.out)
   have R6:=hid (REP.out.keep u)
   have S6:=hid u.size
   clear u d0 d1 d2 d3 d4 d5 d6 d7 d8 d9 d10 d11 d12
   obtain ⟨d0,d1,d2,d3,d4,d5,d6,d7,d8,d9,d10,d11,d12⟩:=cells13 B6.out
   go_wp2_with fail
   refine (text_any x al4 al11 a3 cl4 cl11 c3 _ (HE.out.keep0 U6.out) (HU.out.keep U6.out) (EnRep.wide R6.out fun g hg=>Nat.lt_of_lt_of_le hg.2 S6.out) WFX.out).mono ?_
   rintro en w7 ⟨rfl,u⟩
   have U7:=hid (U6.out.trans u)
   have T7:=hid ((u.block _ (heap_lt T6.out) id).trans T6.out)
   have B7:=hid ((u.block _ (heap_lt B6.out) id).trans B6.out)
   have R7:=hid (EnRep.wide (R6.out.keep u) (B:=fun g=>w.heap.size<g/\g<w7.heap.size) fun g hg=>⟨hg.1,Nat.lt_of_lt_of_le hg.2 (Nat.le_trans S6.out u.size)⟩)
   clear u d0 d1 d2 d3 d4 d5 d6 d7 d8 d9 d10 d11 d12
   by_cases heq:txtF x=s
   case neg =>
    have hq1:(txtF x==s)=false:=beq_eq_false_iff_ne.2 heq
    have hq2:(txtF x != s)=true:=bne_iff_ne.2 heq
    have HN:=hid (rdF_bad RDX.out fun h=>heq h.2.2.2)
    clear heq
    have ft:∀ k,w7.frozen? ⟨w.heap.size,k,none⟩=false:=fun k=>frozen13 T7.out
    obtain ⟨z0,z1,z2,z3,z4,z5,z6,z7,z8,z9,z10,z11,z12⟩:=cells13 T7.out
    go_wp2_with fail
    clear z0 z1 z2 z3 z4 z5 z6 z7 z8 z9 z10 z11 z12 ft
    obtain ⟨WF,hWF⟩:∃ WF,WF=w7.setCells w.heap.size 0 [.int .i64 0,.int .i64 0,.int .i64 0,.slice none 0 0,.int .i64 0,.int .i64 0,.int .i64 0,.int .i64 0,.int .i64 0,.int .i64 0,.slice none 0 0,.slice none 0 0,.string ⟨#[]⟩]:=⟨_,rfl⟩
    have uf:Upd (· = w.heap.size) w7 WF:=by rw [hWF];exact upd_setCells' (S:=(· = w.heap.size)) _ (.inl rfl) _ _ _ (Upd.refl _ _)
    have hbf:WF.heap[w.heap.size]? = some (.cells (en13 En.none none none none 0 0 0) 72 (0,0)):=by
     rw [hWF];exact heap_setCells _ _ _ _ _ _ _ T7.out (by simp)
    simp only [World.setCells] at hWF
    rw [<-hWF]
    obtain ⟨z0,z1,z2,z3,z4,z5,z6,z7,z8,z9,z10,z11,z12⟩:=cells13 hbf
    have UF:=hid (U7.out.comp uf fun i hi e=>by omega)
    clear hWF uf hbf
    refine bodyPost_ret (v:=.tuple #[.agg #[.int .i64 0,.int .i64 0,.int .i64 0,.slice none 0 0,.int .i64 0,.int .i64 0,.int .i64 0,.int .i64 0,.int .i64 0,.int .i64 0,.slice none 0 0,.slice none 0 0,.string ⟨#[]⟩],.int .i64 2]) (by rw [results_cell_tmp rfl];go_simp;decide) rfl ?_
    exact read_no HN.out UF.out
   have hq1:(txtF x==s)=true:=beq_iff_eq.2 heq
   have hq2:(txtF x != s)=false:=by rw [heq];simp
   have HY:=hid (rdF_good RDX.out ⟨by
    have h:=HDN.out
    unfold doneF at h
    simp only [Bool.and_eq_true,Bool.not_eq_true'] at h
    exact h.1,by
    have h:=HDN.out
    unfold doneF at h
    simp only [Bool.and_eq_true,List.isEmpty_iff] at h
    exact h.2,HRY.out,heq⟩)
   obtain ⟨d0,d1,d2,d3,d4,d5,d6,d7,d8,d9,d10,d11,d12⟩:=cells13 B7.out
   clear heq
   have ft:∀ k,w7.frozen? ⟨w.heap.size,k,none⟩=false:=fun k=>frozen13 T7.out
   obtain ⟨z0,z1,z2,z3,z4,z5,z6,z7,z8,z9,z10,z11,z12⟩:=cells13 T7.out
   go_wp2_with fail
   clear z0 z1 z2 z3 z4 z5 z6 z7 z8 z9 z10 z11 z12 ft d0 d1 d2 d3 d4 d5 d6 d7 d8 d9 d10 d11 d12 hq1 hq2
   obtain ⟨WF,hWF⟩:∃ WF,WF=w7.setCells w.heap.size 0 [.int .i64 x.author,.int .i64 x.seq,.int .i64 x.day,.slice al4 x.knows.length cl4,.int .i64 x.kind,.int .i64 x.circle,.int .i64 x.who,.int .i64 x.n,.int .i64 x.m,.int .i64 x.ref,.slice al11 x.keys.length cl11,.slice a3 x.spans.length c3,.string ⟨x.text.toArray⟩]:=⟨_,rfl⟩
   have uf:Upd (· = w.heap.size) w7 WF:=by rw [hWF];exact upd_setCells' (S:=(· = w.heap.size)) _ (.inl rfl) _ _ _ (Upd.refl _ _)
   have hbf:WF.heap[w.heap.size]? = some (.cells (en13 x al4 al11 a3 cl4 cl11 c3) 72 (0,0)):=by
    rw [hWF];exact heap_setCells _ _ _ _ _ _ _ T7.out (by simp)
   simp only [World.setCells] at hWF
   rw [<-hWF]
   obtain ⟨z0,z1,z2,z3,z4,z5,z6,z7,z8,z9,z10,z11,z12⟩:=cells13 hbf
   have UF:=hid (U7.out.comp uf fun i hi e=>by omega)
   have RF:=hid (EnRep.wide (EnRep.keep1 R7.out uf fun g hg=>Nat.ne_of_gt hg.1) (B:=fun g=>w.heap.size<=g/\g<WF.heap.size) fun g hg=>⟨Nat.le_of_lt hg.1,Nat.lt_of_lt_of_le hg.2 uf.size⟩)
   clear hWF uf hbf
   refine bodyPost_ret (v:=.tuple #[.agg #[.int .i64 x.author,.int .i64 x.seq,.int .i64 x.day,.slice al4 x.knows.length cl4,.int .i64 x.kind,.int .i64 x.circle,.int .i64 x.who,.int .i64 x.n,.int .i64 x.m,.int .i64 x.ref,.slice al11 x.keys.length cl11,.slice a3 x.spans.length c3,.string ⟨x.text.toArray⟩],.int .i64 0]) (by rw [results_cell_tmp rfl];go_simp) rfl ?_
   exact read_yes HY.out RF.out UF.out
  have hrp:0<r.rest.length:=List.length_pos_iff.2 hB
  have tB:decide ((0:Int)<(r.rest.length:Int))=true:=decide_eq_true (by omega)
  have tB2:decide (0<r.rest.length)=true:=decide_eq_true hrp
  by_cases hC:acc.length<=40
  case neg =>
   have tC:decide ((acc.length:Int)<=40)=false:=decide_eq_false (by omega)
   have tC2:decide (acc.length<=40)=false:=decide_eq_false hC
   have hspe:=SPF.out
   rw [spansF_stop (fun h=>hC h.2.2)] at hspe
   subst hspe
   have HQ:=hid (show textF r=qt from HQT.out)
   have UZ:=hid (V12.out.comp UL.out fun i hi e=>by have:=RBW.out;have:=EBL.out;omega)
   have TZ:=hid ((UL.out.block _ (heap_lt T12.out) fun e=>by have:=RBW.out;have:=EBL.out;omega).trans T12.out)
   have M4:=hid ((kSlice (kInt .i64)).keep N4.out fun g hg _=>UL.out.block g (Nat.lt_of_lt_of_le hg.2.1 (Nat.le_of_lt (heap_lt EB12.out))) fun e=>by have:=hg.2;omega)
   have M11:=hid ((kSlice (kInt .i64)).keep N11.out fun g hg _=>UL.out.block g (Nat.lt_of_lt_of_le hg.2.1 (Nat.le_of_lt (heap_lt EB12.out))) fun e=>by have:=hg.2;omega)
   have EBX:=hid (heap_lt EB12.out)
   clear SPF UL HQT V12 T12 N4 N11 EB12
   go_wp2_with fail
   refine (left_any rb r _ RR.out).mono ?_
   rintro en w6 ⟨rfl,hw6⟩
   subst hw6
   go_wp2_with fail
   clear tA tB tB2 tC tC2 hA hB hC hrp
   refine (textR_any rb r _ (HE.out.keep0 UZ.out) RR.out HRB.out hrl).mono ?_
   rintro en wt ⟨rfl,ht,u⟩
   rw [HQ.out] at ht ⊢
   have hbt:=(u.block _ (heap_lt BL.out) (Nat.ne_of_gt EBL.out)).trans BL.out
   have ft:wt.frozen? ⟨eb,12,none⟩=false:=frozen13 hbt
   obtain ⟨_,_,_,_,_,_,_,_,_,_,_,_,dt⟩:=cells13 hbt
   have UT:=hid (UZ.out.comp u fun i hi e=>by have:=RBW.out;omega)
   have TT:=hid ((u.block _ (heap_lt TZ.out) fun e=>by have:=RBW.out;omega).trans TZ.out)
   have P4:=hid (rep_keep_ne M4.out u fun g hg=>hg.2.2)
   have P11:=hid (rep_keep_ne M11.out u fun g hg=>hg.2.2)
   have PS:=hid (ownsRow_upd OW.out u fun g hg e=>by have:=(OW.out.lt g hg).1;have:=EBX.out;have:=EBL.out;omega)
   have HT:=hid ht;have HBT:=hid hbt
   have USZ:=hid u.size
   clear ht hbt u UZ TZ M4 M11 OW BL RR d11
   go_wp2_with fail
   clear dt ft
   obtain ⟨W5,hW5⟩:∃ W5,W5=wt.setCell ⟨eb,12,none⟩ (.string ⟨qt.1.toArray⟩):=⟨_,rfl⟩
   rw [<-hW5]
   have u5:Upd (· = eb) wt W5:=by rw [hW5];exact (Upd.refl _ _).at_ 12 _
   obtain ⟨x,hx⟩:∃ x:En,{ e0 with spans:=acc,text:=qt.1 }=x:=⟨_,rfl⟩
   have hb5:W5.heap[eb]? = some (.cells (en13 x al4 al11 a3 cl4 cl11 c3) 72 (0,0)):=by rw [hW5,store_12 HBT.out,<-hx]
   have RDX:=hid (show readE s=(x,qt.2) by rw [RD.out,hx])
   have hr5:=HT.out.upd u5 (Nat.ne_of_lt EBL.out)
   have U5:=hid (UT.out.comp u5 fun i hi e=>by have:=EBL.out;have:=RBW.out;omega)
   have T5:=hid ((u5.block _ (heap_lt TT.out) fun e=>by have:=EBL.out;have:=RBW.out;omega).trans TT.out)
   have ek:=EK.out
   have X1:Hid (x.knows=q4.1):=hid (by rw [<-hx];exact ek.1)
   have X2:Hid (x.keys=q11.1):=hid (by rw [<-hx];exact ek.2)
   have X3:Hid (x.spans=acc):=hid (by rw [<-hx])
   have r4:=rep_keep_ne P4.out u5 fun g hg=>Nat.ne_of_lt hg.2.1
   have r11:=rep_keep_ne P11.out u5 fun g hg=>Nat.ne_of_lt hg.2.1
   have rs:=sps_own_rep (A:=fun g=>w.heap.size<g/\g<W5.heap.size) (ownsRow_upd PS.out u5 fun g hg e=>by have:=(PS.out.lt g hg).1;have:=EBX.out;omega) WF.out fun g hg=>⟨by have:=(PS.out.lt g hg).1;have:=EBX.out;have:=EBL.out;have:=RBW.out;omega,Nat.lt_of_lt_of_le (PS.out.lt g hg).2 u5.size⟩
   have hsz5:eb<W5.heap.size:=heap_lt hb5
   have hrep:EnRep (fun g=>w.heap.size<g/\g<W5.heap.size) W5 x al4 al11 a3 cl4 cl11 c3 :=
    ⟨by rw [X1.out];exact (kSlice (kInt .i64)).mono r4 fun g hg=>⟨hg.1,Nat.lt_trans hg.2.1 hsz5⟩,by rw [X2.out];exact (kSlice (kInt .i64)).mono r11 fun g hg=>⟨hg.1,Nat.lt_trans hg.2.1 hsz5⟩,by rw [X3.out];exact rs⟩
   have REP:=hid hrep;have HB5:=hid hb5;have HR5:=hid hr5
   have WFX:=hid (show EnWf x by
    have:=readG_wf (r:=⟨s,false⟩) (fun h=>nomatch h) HL.out
    rw [read_g,RDX.out] at this
    exact this)
   clear hW5 u5 hx hb5 hr5 r4 r11 rs hsz5 hrep ek UT TT P4 P11 PS HT HBT X1 X2 X3 EK
   by_cases hdone:doneF qt.2=true
   case neg =>
    have hd:doneF qt.2=false:=by simpa using hdone
    have HN:=hid (rdF_bad RDX.out fun h=>by
     have h1:=h.1;have h2:=h.2.1
     unfold doneF at hd
     rw [h1,h2] at hd
     cases hd)
    clear hdone
    refine (done_any rb qt.2 _ HR5.out).mono ?_
    rintro en w6 ⟨rfl,hw6⟩
    subst hw6
    rw [hd]
    clear hd
    have ft:∀ k,W5.frozen? ⟨w.heap.size,k,none⟩=false:=fun k=>frozen13 T5.out
    obtain ⟨z0,z1,z2,z3,z4,z5,z6,z7,z8,z9,z10,z11,z12⟩:=cells13 T5.out
    go_wp2_with fail
    clear z0 z1 z2 z3 z4 z5 z6 z7 z8 z9 z10 z11 z12 ft
    obtain ⟨WF,hWF⟩:∃ WF,WF=W5.setCells w.heap.size 0 [.int .i64 0,.int .i64 0,.int .i64 0,.slice none 0 0,.int .i64 0,.int .i64 0,.int .i64 0,.int .i64 0,.int .i64 0,.int .i64 0,.slice none 0 0,.slice none 0 0,.string ⟨#[]⟩]:=⟨_,rfl⟩
    have uf:Upd (· = w.heap.size) W5 WF:=by rw [hWF];exact upd_setCells' (S:=(· = w.heap.size)) _ (.inl rfl) _ _ _ (Upd.refl _ _)
    have hbf:WF.heap[w.heap.size]? = some (.cells (en13 En.none none none none 0 0 0) 72 (0,0)):=by
     rw [hWF];exact heap_setCells _ _ _ _ _ _ _ T5.out (by simp)
    simp only [World.setCells] at hWF
    rw [<-hWF]
    obtain ⟨z0,z1,z2,z3,z4,z5,z6,z7,z8,z9,z10,z11,z12⟩:=cells13 hbf
    have UF:=hid (U5.out.comp uf fun i hi e=>by omega)
    clear hWF uf hbf
    refine bodyPost_ret (v:=.tuple #[.agg #[.int .i64 0,.int .i64 0,.int .i64 0,.slice none 0 0,.int .i64 0,.int .i64 0,.int .i64 0,.int .i64 0,.int .i64 0,.int .i64 0,.slice none 0 0,.slice none 0 0,.string ⟨#[]⟩],.int .i64 2]) (by rw [results_cell_tmp rfl];go_simp;decide) rfl ?_
    exact read_no HN.out UF.out
   have HDN:=hid hdone
   by_cases hright:RightE x
   case neg =>
    have HN:=hid (rdF_bad RDX.out fun h=>hright h.2.2.1)
    have HRN:=hid hright
    obtain ⟨d0,d1,d2,d3,d4,d5,d6,d7,d8,d9,d10,d11,d12⟩:=cells13 HB5.out
    clear hright hdone
    refine (done_any rb qt.2 _ HR5.out).mono ?_
    rintro en w6 ⟨rfl,hw6⟩
    subst hw6
    rw [HDN.out]
    go_wp2_with fail
    refine (right_any x al4 al11 a3 cl4 cl11 c3 _ _ (HU.out.keep U5.out) REP.out).mono ?_
    rintro en w6 ⟨rfl,u⟩
    rw [decide_eq_false HRN.out]
    have U6:=hid (U5.out.trans u)
    have T6:=hid ((u.block _ (heap_lt T5.out) id).trans T5.out)
    clear u d0 d1 d2 d3 d4 d5 d6 d7 d8 d9 d10 d11 d12
    have ft:∀ k,w6.frozen? ⟨w.heap.size,k,none⟩=false:=fun k=>frozen13 T6.out
    obtain ⟨z0,z1,z2,z3,z4,z5,z6,z7,z8,z9,z10,z11,z12⟩:=cells13 T6.out
    go_wp2_with fail
    clear z0 z1 z2 z3 z4 z5 z6 z7 z8 z9 z10 z11 z12 ft
    obtain ⟨WF,hWF⟩:∃ WF,WF=w6.setCells w.heap.size 0 [.int .i64 0,.int .i64 0,.int .i64 0,.slice none 0 0,.int .i64 0,.int .i64 0,.int .i64 0,.int .i64 0,.int .i64 0,.int .i64 0,.slice none 0 0,.slice none 0 0,.string ⟨#[]⟩]:=⟨_,rfl⟩
    have uf:Upd (· = w.heap.size) w6 WF:=by rw [hWF];exact upd_setCells' (S:=(· = w.heap.size)) _ (.inl rfl) _ _ _ (Upd.refl _ _)
    have hbf:WF.heap[w.heap.size]? = some (.cells (en13 En.none none none none 0 0 0) 72 (0,0)):=by
     rw [hWF];exact heap_setCells _ _ _ _ _ _ _ T6.out (by simp)
    simp only [World.setCells] at hWF
    rw [<-hWF]
    obtain ⟨z0,z1,z2,z3,z4,z5,z6,z7,z8,z9,z10,z11,z12⟩:=cells13 hbf
    have UF:=hid (U6.out.comp uf fun i hi e=>by omega)
    clear hWF uf hbf
    refine bodyPost_ret (v:=.tuple #[.agg #[.int .i64 0,.int .i64 0,.int .i64 0,.slice none 0 0,.int .i64 0,.int .i64 0,.int .i64 0,.int .i64 0,.int .i64 0,.int .i64 0,.slice none 0 0,.slice none 0 0,.string ⟨#[]⟩],.int .i64 2]) (by rw [results_cell_tmp rfl];go_simp;decide) rfl ?_
    exact read_no HN.out UF.out
   have HRY:=hid hright
   obtain ⟨d0,d1,d2,d3,d4,d5,d6,d7,d8,d9,d10,d11,d12⟩:=cells13 HB5.out
   clear hright hdone
   refine (done_any rb qt.2 _ HR5.out).mono ?_
   rintro en w6 ⟨rfl,hw6⟩
   subst hw6
   rw [HDN.out]
   go_wp2_with fail
   refine (right_any x al4 al11 a3 cl4 cl11 c3 _ _ (HU.out.keep U5.out) REP.out).mono ?_
   rintro en w6 ⟨rfl,u⟩
   rw [decide_eq_true HRY.out]
   have U6:=hid (U5.out.trans u)
   have T6:=hid ((u.block _ (heap_lt T5.out) id).trans T5.out)
   have B6:=hid ((u.block _ (heap_lt HB5.out) id).trans HB5.out)
   have R6:=hid (REP.out.keep u)
   have S6:=hid u.size
   clear u d0 d1 d2 d3 d4 d5 d6 d7 d8 d9 d10 d11 d12
   obtain ⟨d0,d1,d2,d3,d4,d5,d6,d7,d8,d9,d10,d11,d12⟩:=cells13 B6.out
   go_wp2_with fail
   refine (text_any x al4 al11 a3 cl4 cl11 c3 _ (HE.out.keep0 U6.out) (HU.out.keep U6.out) (EnRep.wide R6.out fun g hg=>Nat.lt_of_lt_of_le hg.2 S6.out) WFX.out).mono ?_
   rintro en w7 ⟨rfl,u⟩
   have U7:=hid (U6.out.trans u)
   have T7:=hid ((u.block _ (heap_lt T6.out) id).trans T6.out)
   have B7:=hid ((u.block _ (heap_lt B6.out) id).trans B6.out)
   have R7:=hid (EnRep.wide (R6.out.keep u) (B:=fun g=>w.heap.size<g/\g<w7.heap.size) fun g hg=>⟨hg.1,Nat.lt_of_lt_of_le hg.2 (Nat.le_trans S6.out u.size)⟩)
   clear u d0 d1 d2 d3 d4 d5 d6 d7 d8 d9 d10 d11 d12
   by_cases heq:txtF x=s
   case neg =>
    have hq1:(txtF x==s)=false:=beq_eq_false_iff_ne.2 heq
    have hq2:(txtF x != s)=true:=bne_iff_ne.2 heq
    have HN:=hid (rdF_bad RDX.out fun h=>heq h.2.2.2)
    clear heq
    have ft:∀ k,w7.frozen? ⟨w.heap.size,k,none⟩=false:=fun k=>frozen13 T7.out
    obtain ⟨z0,z1,z2,z3,z4,z5,z6,z7,z8,z9,z10,z11,z12⟩:=cells13 T7.out
    go_wp2_with fail
    clear z0 z1 z2 z3 z4 z5 z6 z7 z8 z9 z10 z11 z12 ft
    obtain ⟨WF,hWF⟩:∃ WF,WF=w7.setCells w.heap.size 0 [.int .i64 0,.int .i64 0,.int .i64 0,.slice none 0 0,.int .i64 0,.int .i64 0,.int .i64 0,.int .i64 0,.int .i64 0,.int .i64 0,.slice none 0 0,.slice none 0 0,.string ⟨#[]⟩]:=⟨_,rfl⟩
    have uf:Upd (· = w.heap.size) w7 WF:=by rw [hWF];exact upd_setCells' (S:=(· = w.heap.size)) _ (.inl rfl) _ _ _ (Upd.refl _ _)
    have hbf:WF.heap[w.heap.size]? = some (.cells (en13 En.none none none none 0 0 0) 72 (0,0)):=by
     rw [hWF];exact heap_setCells _ _ _ _ _ _ _ T7.out (by simp)
    simp only [World.setCells] at hWF
    rw [<-hWF]
    obtain ⟨z0,z1,z2,z3,z4,z5,z6,z7,z8,z9,z10,z11,z12⟩:=cells13 hbf
    have UF:=hid (U7.out.comp uf fun i hi e=>by omega)
    clear hWF uf hbf
    refine bodyPost_ret (v:=.tuple #[.agg #[.int .i64 0,.int .i64 0,.int .i64 0,.slice none 0 0,.int .i64 0,.int .i64 0,.int .i64 0,.int .i64 0,.int .i64 0,.int .i64 0,.slice none 0 0,.slice none 0 0,.string ⟨#[]⟩],.int .i64 2]) (by rw [results_cell_tmp rfl];go_simp;decide) rfl ?_
    exact read_no HN.out UF.out
   have hq1:(txtF x==s)=true:=beq_iff_eq.2 heq
   have hq2:(txtF x != s)=false:=by rw [heq];simp
   have HY:=hid (rdF_good RDX.out ⟨by
    have h:=HDN.out
    unfold doneF at h
    simp only [Bool.and_eq_true,Bool.not_eq_true'] at h
    exact h.1,by
    have h:=HDN.out
    unfold doneF at h
    simp only [Bool.and_eq_true,List.isEmpty_iff] at h
    exact h.2,HRY.out,heq⟩)
   obtain ⟨d0,d1,d2,d3,d4,d5,d6,d7,d8,d9,d10,d11,d12⟩:=cells13 B7.out
   clear heq
   have ft:∀ k,w7.frozen? ⟨w.heap.size,k,none⟩=false:=fun k=>frozen13 T7.out
   obtain ⟨z0,z1,z2,z3,z4,z5,z6,z7,z8,z9,z10,z11,z12⟩:=cells13 T7.out
   go_wp2_with fail
   clear z0 z1 z2 z3 z4 z5 z6 z7 z8 z9 z10 z11 z12 ft d0 d1 d2 d3 d4 d5 d6 d7 d8 d9 d10 d11 d12 hq1 hq2
   obtain ⟨WF,hWF⟩:∃ WF,WF=w7.setCells w.heap.size 0 [.int .i64 x.author,.int .i64 x.seq,.int .i64 x.day,.slice al4 x.knows.length cl4,.int .i64 x.kind,.int .i64 x.circle,.int .i64 x.who,.int .i64 x.n,.int .i64 x.m,.int .i64 x.ref,.slice al11 x.keys.length cl11,.slice a3 x.spans.length c3,.string ⟨x.text.toArray⟩]:=⟨_,rfl⟩
   have uf:Upd (· = w.heap.size) w7 WF:=by rw [hWF];exact upd_setCells' (S:=(· = w.heap.size)) _ (.inl rfl) _ _ _ (Upd.refl _ _)
   have hbf:WF.heap[w.heap.size]? = some (.cells (en13 x al4 al11 a3 cl4 cl11 c3) 72 (0,0)):=by
    rw [hWF];exact heap_setCells _ _ _ _ _ _ _ T7.out (by simp)
   simp only [World.setCells] at hWF
   rw [<-hWF]
   obtain ⟨z0,z1,z2,z3,z4,z5,z6,z7,z8,z9,z10,z11,z12⟩:=cells13 hbf
   have UF:=hid (U7.out.comp uf fun i hi e=>by omega)
   have RF:=hid (EnRep.wide (EnRep.keep1 R7.out uf fun g hg=>Nat.ne_of_gt hg.1) (B:=fun g=>w.heap.size<=g/\g<WF.heap.size) fun g hg=>⟨Nat.le_of_lt hg.1,Nat.lt_of_lt_of_le hg.2 uf.size⟩)
   clear hWF uf hbf
   refine bodyPost_ret (v:=.tuple #[.agg #[.int .i64 x.author,.int .i64 x.seq,.int .i64 x.day,.slice al4 x.knows.length cl4,.int .i64 x.kind,.int .i64 x.circle,.int .i64 x.who,.int .i64 x.n,.int .i64 x.m,.int .i64 x.ref,.slice al11 x.keys.length cl11,.slice a3 x.spans.length c3,.string ⟨x.text.toArray⟩],.int .i64 0]) (by rw [results_cell_tmp rfl];go_simp) rfl ?_
   exact read_yes HY.out RF.out UF.out
  have tC:decide ((acc.length:Int)<=40)=true:=decide_eq_true (by omega)
  have tC2:decide (acc.length<=40)=true:=decide_eq_true hC
  go_wp2_with fail
  refine (left_any rb r _ RR.out).mono ?_
  rintro en w6 ⟨rfl,hw6⟩
  subst hw6
  go_upto_region 6 with (fail)
  have UZ:=hid (V12.out.comp UL.out fun i hi e=>by have:=RBW.out;have:=EBL.out;omega)
  obtain ⟨m1,hm1⟩:∃ q,numF r=q:=⟨_,rfl⟩
  obtain ⟨m2,hm2⟩:∃ q,numF m1.2=q:=⟨_,rfl⟩
  obtain ⟨m3,hm3⟩:∃ q,numF m2.2=q:=⟨_,rfl⟩
  have j1:I64 m1.1:=by rw [<-hm1];exact numberF_i64 _ _ _
  have j2:I64 m2.1:=by rw [<-hm2];exact numberF_i64 _ _ _
  have j3:I64 m3.1:=by rw [<-hm3];exact numberF_i64 _ _ _
  have l1:m1.2.rest.length<=10000000:=by rw [<-hm1];exact Nat.le_trans (Nat.le_trans (numberF_len _ _ _) (Nat.sub_le _ _)) hrl
  have l2:m2.2.rest.length<=10000000:=by rw [<-hm2];exact Nat.le_trans (Nat.le_trans (numberF_len _ _ _) (Nat.sub_le _ _)) l1
  have l3:m3.2.rest.length<=10000000:=by rw [<-hm3];exact Nat.le_trans (Nat.le_trans (numberF_len _ _ _) (Nat.sub_le _ _)) l2
  have SPN:=hid (show spansF f (n-1) m3.2 (acc++[⟨m1.1,m2.1,m3.1⟩])=SP by
   rw [<-SPF.out,spansF_go ⟨hA,hB,hC⟩,hm1,hm2,hm3])
  have WFS:=hid (show SpWf ⟨m1.1,m2.1,m3.1⟩ from ⟨iwf j1,iwf j2,iwf j3⟩)
  have L3:=hid l3
  have hn4:-9223372036854775808<=n-1:=by omega
  have hn5:n-1<=9223372036854775807:=by omega
  clear tA tB tB2 tC tC2 SPF j1 j2 j3 l3 hB hrp
  have EBX:=hid (heap_lt EB12.out)
  refine wp_region_g (fun w'=>w'.cell? ⟨eb,11,none⟩=some (.slice a3 acc.length c3)) 10 (by kernel_rfl) ?_
  have hS:wr.drew.cell? ⟨eb,11,none⟩=some (.slice a3 acc.length c3):=d11
  refine g_take0 (i:=0) rfl (by kernel_rfl) (by kernel_rfl) (by kernel_rfl) (by decide) (fun _ _ _ h=>h) (Or.inl ⟨by rfl,by (intro w _;go_simp;try with_reducible rfl)⟩) (fun _=>hS) ?_
  (try simp only [Act.put])
  refine g_take (i:=1) rfl (by kernel_rfl) (by kernel_rfl) (by kernel_rfl) (by kernel_rfl) (fun _ _ _ h=>h) (Or.inl ⟨by rfl,by (intro w hSw;(try dsimp only at hSw);go_simp;try with_reducible rfl)⟩) hS ?_
  (try simp only [Act.put])
  refine g_take0 (i:=2) rfl (by kernel_rfl) (by kernel_rfl) (by kernel_rfl) (by decide) (fun _ _ _ h=>h) (Or.inl ⟨by rfl,by (intro w _;go_simp;try with_reducible rfl)⟩) (fun _=>hS) ?_
  (try simp only [Act.put])
  refine g_take0 (i:=4) rfl (by kernel_rfl) (by kernel_rfl) (by kernel_rfl) (by decide) (fun _ _ _ h=>h) (Or.inl ⟨by rfl,by (intro w _;go_simp;try with_reducible rfl)⟩) (fun _=>hS) ?_
  (try simp only [Act.put])
  refine g_take0 (i:=6) rfl (by kernel_rfl) (by kernel_rfl) (by kernel_rfl) (by decide) (fun _ _ _ h=>h) (Or.inl ⟨by rfl,by (intro w _;go_simp;try with_reducible rfl)⟩) (fun _=>hS) ?_
  (try simp only [Act.put])
  refine g_op (i:=3) (by kernel_rfl) rfl ?_
  go_wp2_with fail
  refine (numR_any rb r _ (HE.out.keep0 UZ.out.drew) RR.out HRB.out hrl).mono ?_
  rintro en y1 ⟨rfl,hr,u⟩
  rw [hm1] at hr ⊢
  have h1S:y1.cell? ⟨eb,11,none⟩=some (.slice a3 acc.length c3):=cell_kept hS (u.block _ (World.block_lt_of_cell? _ _ hS) (Nat.ne_of_gt EBL.out))
  have Y1:=hid (UZ.out.drew.comp u fun i hi e=>by have:=RBW.out;omega)
  have Z1:=hid ((Upd.drew (Upd.refl (· = rb) wr)).trans u)
  have RR1:=hid hr
  clear hr u
  go_wp2_with fail
  refine ⟨fun _=>h1S,?_⟩
  refine g_op (i:=5) (by kernel_rfl) rfl ?_
  go_wp2_with fail
  refine (numR_any rb m1.2 _ (HE.out.keep0 Y1.out) RR1.out HRB.out l1).mono ?_
  rintro en y2 ⟨rfl,hr,u⟩
  rw [hm2] at hr ⊢
  have h2S:y2.cell? ⟨eb,11,none⟩=some (.slice a3 acc.length c3):=cell_kept h1S (u.block _ (World.block_lt_of_cell? _ _ h1S) (Nat.ne_of_gt EBL.out))
  have Y2:=hid (Y1.out.comp u fun i hi e=>by have:=RBW.out;omega)
  have Z2:=hid (Z1.out.trans u)
  have RR2:=hid hr
  clear hr u
  go_wp2_with fail
  refine ⟨fun _=>h2S,?_⟩
  refine g_op (i:=7) (by kernel_rfl) rfl ?_
  go_wp2_with fail
  refine (numR_any rb m2.2 _ (HE.out.keep0 Y2.out) RR2.out HRB.out l2).mono ?_
  rintro en y3 ⟨rfl,hr,u⟩
  rw [hm3] at hr ⊢
  have h3S:y3.cell? ⟨eb,11,none⟩=some (.slice a3 acc.length c3):=cell_kept h2S (u.block _ (World.block_lt_of_cell? _ _ h2S) (Nat.ne_of_gt EBL.out))
  have Y3:=hid (Y2.out.comp u fun i hi e=>by have:=RBW.out;omega)
  have Z3:=hid (Z2.out.trans u)
  have RR3:=hid hr
  clear hr u
  go_wp2_with fail
  refine ⟨fun _=>h3S,?_⟩
  refine g_take0 (i:=8) rfl (by kernel_rfl) (by kernel_rfl) (by kernel_rfl) (by decide) (fun _ _ _ h=>h) (Or.inl ⟨by rfl,by (intro w _;go_simp;try with_reducible rfl)⟩) (fun _=>h3S) ?_
  (try simp only [Act.put])
  refine g_op (i:=9) (by kernel_rfl) rfl ?_
  have own6:=ownsRow_upd OW.out Z3.out fun g hg e=>by have:=(OW.out.lt g hg).1;have:=EBX.out;have:=EBL.out;omega
  obtain ⟨v',w5,r5,o5,u5,n5⟩:=append_lit elemSp own6 #[.int .i64 m1.1,.int .i64 m2.1,.int .i64 m3.1] 1 rfl (by simp [Value.oneCell']) (by unfold maxLen;omega) (by omega) (by have:=UL.out.size;have:=Z3.out.size;omega) 70 (0,0)
  obtain ⟨g5,cap5,rfl⟩:∃ g cap,v'=.slice (some ⟨g,0,none⟩) (acc.length+1) cap:=by
   rcases ownsRow_fits o5 with ⟨_,hz⟩ | ⟨g,cap,h,_⟩
   · omega
   · exact ⟨g,cap,h⟩
  have h3A:(y3.alloc (.cells #[.int .i64 m1.1,.int .i64 m2.1,.int .i64 m3.1] 177 (0,0))).cell? ⟨eb,11,none⟩=some (.slice a3 acc.length c3):=cell_kept h3S (heap_alloc_old (World.block_lt_of_cell? _ _ h3S))
  have hb5:=(u5.block eb (World.block_lt_of_cell? _ _ h3S) (fun e=>by have:=(own6.lt eb e).1;have:=EBX.out;omega)).trans ((Z3.out.block _ (heap_lt BL.out) (Nat.ne_of_gt EBL.out)).trans BL.out)
  have hr5:=(u5.block rb (heap_lt RR3.out) (fun e=>by have:=(own6.lt rb e).1;have:=EBX.out;have:=EBL.out;omega)).trans RR3.out
  have f5:w5.frozen? ⟨eb,11,none⟩=false:=frozen13 hb5
  obtain ⟨_,_,_,_,_,_,_,_,_,_,_,e5,_⟩:=cells13 hb5
  have US:=hid ((Upd.refl (· = eb) w5).at_ 11 (.slice (some ⟨g5,0,none⟩) (acc.length+1) cap5))
  have HB6:=hid (store_11 (b3:=some ⟨g5,0,none⟩) (d3:=cap5) (l:=acc++[⟨m1.1,m2.1,m3.1⟩]) (n:=acc.length+1) hb5 (by simp))
  have HR6:=hid (RdAt.upd (r:=m3.2) (show RdAt w5 rb m3.2 from hr5) US.out (Nat.ne_of_lt EBL.out))
  have O6:=hid (ownsRow_upd o5 US.out fun g hg e=>by have:=(o5.lt g hg).1;have:=EBX.out;omega)
  have U6:=hid (((UL.out.trans (Z3.out.mono fun _ h=>.inl h)).comp u5 fun i hi e=>by have:=(own6.lt i e).1;omega).trans (US.out.mono fun _ h=>.inr h))
  have WF6:=hid (show ∀ t∈acc++[(⟨m1.1,m2.1,m3.1⟩:Sp)],SpWf t from fun t ht=>by
   rcases List.mem_append.1 ht with h | h
   · exact WF.out t h
   · rw [List.mem_singleton.1 h];exact WFS.out)
  clear own6 o5 u5 n5 hb5 hr5
  go_wp2_with fail
  try with_reducible refine And.intro (fun _=>h3A) ?_
  refine g_op (i:=10) (by kernel_rfl) rfl ?_
  refine wpList_append_run rfl _ _ _ _ rfl rfl rfl r5 ?_
  go_wp2_with fail
  try with_reducible refine And.intro (fun h=>absurd h (by simp)) ?_
  refine g_take0 (i:=11) rfl (by kernel_rfl) (by kernel_rfl) (by kernel_rfl) (by decide) (fun _ _ _ h=>h) (Or.inl ⟨by rfl,by (intro w _;go_simp;try with_reducible rfl)⟩) (fun h=>absurd h (by simp)) ?_
  (try simp only [Act.put])
  refine g_op (i:=12) (by kernel_rfl) rfl ?_
  go_wp2_with fail
  try with_reducible refine And.intro (fun h=>absurd h (by simp)) ?_
  refine g_done (by kernel_rfl) ?_
  go_wp2_with fail
  go_roundg f
  case measure=>omega
  case rel=>exact ⟨n-1,m3.2,acc++[⟨m1.1,m2.1,m3.1⟩],some ⟨g5,0,none⟩,cap5,by rw [List.length_append,List.length_singleton];omega,by rw [List.length_append,List.length_singleton];omega,by go_num,⟨hn4,hn5⟩,L3.out,HR6.out,HB6.out,by rw [List.length_append,List.length_singleton,flatS_append];exact O6.out,WF6.out,SPN.out,U6.out⟩
end Go.Proofs.YtjkmalddfoemhaaGreatDoor
