/- Walks: the limits of layer 33 (FewKeys, Few), the index of a number (at), the index of an entry (Position). -/
import Derived.Test.YtjkmalddfoemhaaGreatDoorRm
import Derived.Test.YtjkmalddfoemhaaGreatDoorOrH
import Derived.Test.YtjkmalddfoemhaaGreatDoorOrLaws
set_option maxRecDepth 100000
set_option maxHeartbeats 4000000
namespace Go.Proofs.YtjkmalddfoemhaaGreatDoor
open Go.RowKit Go.Deep
theorem fewkeys_any {A:Nat->Prop} {s:Stp} {ak:Option Addr} {ck:Nat} {w:World} (_:StpAt w A s ak ck):Calls Tryz.prog 106 #[stpV s ak ck] w fun e w'=>e=.returned (.bool (decide (s.keys.length<=8)))/\Upd (fun _=>False) w w':=by
 obtain ⟨W1,hW1⟩:∃ W1,W1=w.alloc (.cells #[.slice ak s.keys.length ck,.int .i64 s.liars,.int .i64 s.seed] 60 (0,0)):=⟨_,rfl⟩
 have u1:Upd (fun _=>False) w W1:=by rw [hW1];exact (Upd.refl _ _).alloc _
 have HB:=hid (show W1.heap[w.heap.size]? = some (.cells #[.slice ak s.keys.length ck,.int .i64 s.liars,.int .i64 s.seed] 60 (0,0)) by rw [hW1];exact heap_alloc_new)
 have U:=hid u1;have HW:=hid hW1
 obtain ⟨p,hp⟩:∃ p,w.heap.size=p:=⟨_,rfl⟩
 rw [hp] at HB
 have HP:=hid hp
 obtain ⟨n,hn⟩:∃ n,s.keys.length=n:=⟨_,rfl⟩
 unfold stpV
 rw [hn] at HB HW ⊢
 clear hW1 u1 hp hn
 go_enter Tryz.func106,Tryz.ntmps106
 go_upto_region 1 with (fail)
 rw [<-HW.out]
 try rw [HP.out]
 obtain ⟨m0,m1,m2⟩:=cells3s HB.out
 clear HW
 by_cases t:n<=8
 · have ti:(n:Int)<=8:=by omega
   have d1:decide ((n:Int)<=8)=true:=decide_eq_true ti
   go_wp2_with fail
   go_ret
   exact ⟨by first | rfl | (rw [decide_eq_true t]<;>rfl),U.out⟩
 · have ti:¬(n:Int)<=8:=by omega
   have d1:decide ((n:Int)<=8)=false:=decide_eq_false ti
   go_wp2_with fail
   go_ret
   exact ⟨by first | rfl | (rw [decide_eq_false t]<;>rfl),U.out⟩
def Few33 (s:Stp) (l:List Po) (n:Nat):Prop:=s.keys.length<=8/\FewL l n
instance (s:Stp) (l:List Po) (n:Nat):Decidable (Few33 s l n):=by unfold Few33;infer_instance
theorem few33_any {A A2:Nat->Prop} {s:Stp} {ak:Option Addr} {ck:Nat} {w:World} (h:StpAt w A s ak ck) (v:Value) (l:List Po) (n:Nat) (hv:kPos.rep A2 w [v] l) (_:∀ g,A2 g->g<w.heap.size) (hn:n<=100):Calls Tryz.prog 39 #[stpV s ak ck,v,.int .i64 n] w fun e w'=>e=.returned (.bool (decide (Few33 s l n)))/\Upd (fun _=>False) w w':=by
 obtain ⟨W1,hW1⟩:∃ W1,W1=w.alloc (.cells #[.slice ak s.keys.length ck,.int .i64 s.liars,.int .i64 s.seed] 60 (0,0)):=⟨_,rfl⟩
 have u1:Upd (fun _=>False) w W1:=by rw [hW1];exact (Upd.refl _ _).alloc _
 have HB:=hid (show W1.heap[w.heap.size]? = some (.cells #[.slice ak s.keys.length ck,.int .i64 s.liars,.int .i64 s.seed] 60 (0,0)) by rw [hW1];exact heap_alloc_new)
 have U:=hid u1;have HW:=hid hW1
 obtain ⟨p,hp⟩:∃ p,w.heap.size=p:=⟨_,rfl⟩
 rw [hp] at HB
 have HP:=hid hp
 have HS:=hid (h.keep u1)
 have HV:=hid (kPos.keep hv (Same.of_upd u1 fun _ _=>id))
 have HN:=hid hn
 obtain ⟨av,cv,rfl,_,hcv,_⟩:=slice_open hv
 have VL:=hid (fun (y:World) (u:Upd (fun _=>False) W1 y)=>kPos.keep HV.out (Same.of_upd u fun _ _=>id))
 clear hW1 u1 hp h hv hn
 unfold stpV
 go_enter Tryz.func39,Tryz.ntmps39
 go_upto_region 1 with (fail)
 rw [<-HW.out]
 try rw [HP.out]
 obtain ⟨m0,m1,m2⟩:=cells3s HB.out
 clear HW
 go_wp2_with fail
 refine (fewkeys_any HS.out).mono ?_
 rintro en y1 ⟨rfl,u⟩
 have U1:=hid u
 clear u
 by_cases t:s.keys.length<=8
 case neg =>
  rw [decide_eq_false t]
  go_wp2_with fail
  go_ret
  exact ⟨by rw [decide_eq_false fun q=>t q.1]<;>rfl,U.out.trans U1.out⟩
 rw [decide_eq_true t]
 go_wp2_with fail
 refine (fewL_any _ _ l n _ (VL.out _ U1.out) HN.out).mono ?_
 rintro en y2 ⟨rfl,u⟩
 have U2:=hid u
 clear u
 have DE:=hid (show decide (Few33 s l n)=decide (FewL l n) by unfold Few33;simp [t])
 obtain ⟨bl,hbl⟩:∃ bl,decide (FewL l n)=bl:=⟨_,rfl⟩
 rw [hbl] at DE ⊢
 go_wp2_with fail
 go_ret
 exact ⟨by rw [DE.out]<;>rfl,(U.out.trans U1.out).trans U2.out⟩
theorem index_int {w:World} {v:Value} {l:List Int} (h:IntRow w v l) (x:Int):Calls Tryz.prog 119 #[v,.int .i64 x] w fun e w'=>e=.returned (.int .i64 (Lib.idxOf l x))/\w=w':=by
 obtain ⟨a,c,rfl,h1,h2,h3⟩:=h
 by_cases hp:0<l.length
 · obtain ⟨g,o,rfl,hc⟩:=h3 hp
   refine (Tryz.slices_Index_int g o l.length c l x w (Nat.le_refl _) (by omega) fun j hj=>by rw [hc j hj,List.getD_eq_getElem?_getD,List.getElem?_eq_getElem hj];rfl).mono ?_
   rintro e w' ⟨rfl,rfl⟩
   exact ⟨by rw [List.take_length]<;>rfl,rfl⟩
 · have e:l=[]:=List.length_eq_zero_iff.1 (by omega)
   subst e
   refine (Tryz.slices_Index_int_empty a c x w).mono ?_
   rintro e w' ⟨rfl,rfl⟩
   exact ⟨rfl,rfl⟩
def PosPost (s:Stp) (hs:Hs) (m:Int) (w:World) (e:Ending) (w':World):Prop:=∃ days,DaysOf s hs days/\e=.returned (.tuple #[.int .i64 (max (Lib.idxOf (seqF hs days) m) 0),.bool (decide (0<=Lib.idxOf (seqF hs days) m))])/\Upd (fun _=>False) w w'
theorem position_any {O Or A:Nat->Prop} {b r:Nat} {hs:Hs} {R:Rg} {s:Stp} {ak:Option Addr} {ck:Nat} {w:World} (h:HPre w O Or b r hs R) (hst:StpAt w A s ak ck) (hA:∀ g,A g->g<w.heap.size) (hk:s.keys.length<=1000) (m:Int):Calls Tryz.prog 48 #[.pointer (some ⟨b,0,none⟩),stpV s ak ck,.int .i64 m] w (PosPost s hs m w):=by
 obtain ⟨W1,hW1⟩:∃ W1,W1=w.alloc (.cells #[.slice ak s.keys.length ck,.int .i64 s.liars,.int .i64 s.seed] 60 (0,0)):=⟨_,rfl⟩
 have u1:Upd (fun _=>False) w W1:=by rw [hW1];exact (Upd.refl _ _).alloc _
 have HB:=hid (show W1.heap[w.heap.size]? = some (.cells #[.slice ak s.keys.length ck,.int .i64 s.liars,.int .i64 s.seed] 60 (0,0)) by rw [hW1];exact heap_alloc_new)
 have U:=hid u1;have HW:=hid hW1
 obtain ⟨p,hp⟩:∃ p,w.heap.size=p:=⟨_,rfl⟩
 rw [hp] at HB
 have HP:=hid hp
 have HS:=hid (hst.keep u1);have HH:=hid (h.keep u1);have HK:=hid hk
 have HA:=hid (fun g (q:A g)=>(show g<W1.heap.size from Nat.lt_of_lt_of_le (hA g q) u1.size))
 clear hW1 u1 hp h hst hk hA
 unfold stpV
 go_enter Tryz.func48,Tryz.ntmps48
 go_upto_region 1 with (fail)
 rw [<-HW.out]
 try rw [HP.out]
 obtain ⟨m0,m1,m2⟩:=cells3s HB.out
 clear HW
 go_wp2_with fail
 refine (sequence_any HH.out HS.out HA.out HK.out).mono ?_
 rintro en x1 ⟨v1,v2,days,rfl,hd,hdl,h1,h2,u⟩
 have U1:=hid u;have HD:=hid hd
 obtain ⟨S,hS⟩:∃ S,seqF hs days=S:=⟨_,rfl⟩
 have HSQ:=hid hS
 rw [hS] at h1
 have IR:=hid (IntRow.of_own h1)
 have SN:=hid (show S.length<=9223372036854775807 by obtain ⟨_,c,_,q1,q2,_⟩:=IntRow.of_own h1;omega)
 obtain ⟨a1,c1,rfl,h11,h12⟩:=own_slice h1
 have h12:c1<=9223372036854775807:=h12
 clear h1 h2 hS hd hdl u m0 m1 m2
 go_wp2_with fail
 refine (index_int IR.out m).mono ?_
 rintro en x2 ⟨rfl,rfl⟩
 obtain ⟨i,hi⟩:∃ i,Lib.idxOf S m=i:=⟨_,rfl⟩
 have HI:=hid hi
 rw [hi]
 clear hi
 by_cases t:0<=i
 · have d1:decide (0<=i)=true:=decide_eq_true t
   have d2:max i 0=i:=by omega
   go_wp2_with fail
   go_ret2
   exact ⟨days,HD.out,by rw [HSQ.out,HI.out,d1,d2]<;>rfl,U.out.trans U1.out⟩
 · have d1:decide (0<=i)=false:=decide_eq_false t
   have d2:max i 0=0:=by omega
   go_wp2_with fail
   go_ret2
   exact ⟨days,HD.out,by rw [HSQ.out,HI.out,d1,d2]<;>rfl,U.out.trans U1.out⟩
end Go.Proofs.YtjkmalddfoemhaaGreatDoor
