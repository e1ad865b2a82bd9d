/- Walks: Normal. -/
import Derived.Test.YtjkmalddfoemhaaGreatDoorJ3
set_option maxRecDepth 100000
set_option maxHeartbeats 4000000
namespace Go.Proofs.YtjkmalddfoemhaaGreatDoor
open Go.RowKit Go.Deep
theorem nrm_any (A:Nat->Prop) (v:Value) (l:List Sp) (w:World) (hl:kSps.rep A w [v] l) :
 Calls Tryz.prog 205 #[v] w fun e w'=>e=.returned (.bool (decide (nrmP l)))/\Upd (fun _=>False) w w':=by
 obtain ⟨a,cap,rfl,p1,p2,p3⟩:=slice_open hl
 have p2:cap<=9223372036854775807:=p2
 have H:=hid p3
 clear hl p3
 go_enter Tryz.func205,Tryz.ntmps205
 go_wp2_with fail
 go_loopg [7] l.length (fun gg s7 wr=>∃ k:Nat,k<=l.length/\gg=l.length-k/\s7=.int .i64 k/\(∀ i (h:i<l.length),i<k->l[i].Ok)/\(∀ i (h:i+1<l.length),i+1<k->gapP l[i] l[i+1])/\Upd (fun _=>False) w wr)
 case atStart=>exact ⟨0,Nat.zero_le _,rfl,rfl,fun i _ h=>absurd h (Nat.not_lt_zero _),fun i _ h=>absurd h (Nat.not_lt_zero _),Upd.refl _ _⟩
 case round =>
  obtain ⟨k,hk,hg,rfl,ho,he,u⟩:=hrel
  have UU:=hid u;have HG:=hid hg;have OK:=hid ho;have EQ:=hid he
  clear u hg ho he
  by_cases hlt:k<l.length
  case neg =>
   have HY:=hid (show nrmP l from (nrm_idx l).2 ⟨fun i h=>OK.out i h (by omega),fun i h=>EQ.out i h (by omega)⟩)
   have hlti:¬(k:Int)<l.length:=by omega
   go_wp2_with fail
   go_ret
   exact ⟨ret_t HY.out,UU.out⟩
  have hlti:(k:Int)<l.length:=by omega
  obtain ⟨b,o,rfl,hb,hel⟩:=H.out (by omega)
  obtain ⟨_,m0,m1,m2⟩:=sp_cells hel hlt
  have hbl:=World.block_lt_of_cell? _ _ m0
  have m0:=cell_kept m0 (UU.out.block b hbl id)
  have m1:=cell_kept m1 (UU.out.block b hbl id)
  have m2:=cell_kept m2 (UU.out.block b hbl id)
  have HEL:=hid hel;clear hel
  obtain ⟨x,hx⟩:∃ x,l[k]=x:=⟨_,rfl⟩
  rw [hx] at m0 m1 m2
  have HX:=hid hx;clear hx
  have hbr:b<wr.heap.size:=Nat.lt_of_lt_of_le hbl UU.out.size
  obtain ⟨W1,hW1⟩:∃ W1,W1=wr.alloc (.cells #[.int .i64 x.mark,.int .i64 x.fr,.int .i64 x.to] 177 (0,0)):=⟨_,rfl⟩
  have hb1:W1.heap[wr.heap.size]? = some (.cells #[.int .i64 x.mark,.int .i64 x.fr,.int .i64 x.to] 177 (0,0)):=by rw [hW1];exact heap_alloc_new
  have u1:Upd (fun _=>False) wr W1:=by rw [hW1];exact (Upd.refl _ _).alloc _
  have c0:W1.cell? ⟨wr.heap.size,0,none⟩=some (.int .i64 x.mark):=by rw [cell_of_block hb1];rfl
  have c1:W1.cell? ⟨wr.heap.size,1,none⟩=some (.int .i64 x.fr):=by rw [cell_of_block hb1];rfl
  have c2:W1.cell? ⟨wr.heap.size,2,none⟩=some (.int .i64 x.to):=by rw [cell_of_block hb1];rfl
  have HW1:=hid hW1;have U0:=hid (UU.out.trans u1);have UA:=hid u1
  clear hW1 hb1 u1
  by_cases hxo:x.Ok
  case neg =>
   have HN:=hid (show ¬nrmP l from fun h=>hxo (by rw [<-HX.out];exact ((nrm_idx l).1 h).1 k hlt))
   go_wp2_with fail
   rw [<-HW1.out]
   have ec0:=fun p:UW W1=>p.cell c0
   have ec1:=fun p:UW W1=>p.cell c1
   have ec2:=fun p:UW W1=>p.cell c2
   have hv:∀ w,Calls Tryz.prog 254 #[.agg #[.int .i64 x.mark,.int .i64 x.fr,.int .i64 x.to]] w fun e w'=>e=.returned (.bool false)/\Upd (fun _=>False) w w':=fun w=>(valid_any x w).mono fun e w' h=>⟨by rw [h.1,decide_eq_false hxo],h.2⟩
   refine region_upd (by kernel_rfl) (by kernel_rfl) ?_
   repeat (go_big_quiet_step ((go_at_call 254;exact Calls.upd_of (hv _))))
   refine wpQuiet_nil ?_
   intro _ hw1
   refine uw_out hw1 ?_
   rintro w1 u1 rfl
   have U1:=hid u1
   clear hw1 u1
   all_goals
    go_wp2_with fail
    go_ret
    exact ⟨ret_f HN.out,U0.out.trans U1.out⟩
  have XO:=hid hxo
  by_cases hk0:k=0
  case pos =>
   have g1:decide ((0:Int)<(k:Int))=false:=decide_eq_false (by omega)
   have g2:decide (0<k)=false:=decide_eq_false (by omega)
   have K0:=hid hk0
   clear hk0
   go_wp2_with fail
   rw [<-HW1.out]
   have ec0:=fun p:UW W1=>p.cell c0
   have ec1:=fun p:UW W1=>p.cell c1
   have ec2:=fun p:UW W1=>p.cell c2
   have hv:∀ w,Calls Tryz.prog 254 #[.agg #[.int .i64 x.mark,.int .i64 x.fr,.int .i64 x.to]] w fun e w'=>e=.returned (.bool true)/\Upd (fun _=>False) w w':=fun w=>(valid_any x w).mono fun e w' h=>⟨by rw [h.1,decide_eq_true hxo],h.2⟩
   refine region_upd (by kernel_rfl) (by kernel_rfl) ?_
   repeat (go_big_quiet_step ((go_at_call 254;exact Calls.upd_of (hv _))))
   refine wpQuiet_nil ?_
   intro _ hw1
   refine uw_out hw1 ?_
   rintro w1 u1 rfl
   have U1:=hid u1
   clear hw1 u1
   all_goals
    go_wp2_with fail
    go_roundg (l.length-(k+1))
    case measure=>have:=HG.out;omega
    case rel =>
     refine ⟨k+1,by omega,rfl,by go_num,fun i h hi=>?_,fun i h hi=>?_,U0.out.trans U1.out⟩
     · by_cases e:i=k
       · subst e;rw [HX.out];exact XO.out
       · exact OK.out i h (by omega)
     · have:=K0.out;omega
  have g1:decide ((0:Int)<(k:Int))=true:=decide_eq_true (by omega)
  have g2:decide (0<k)=true:=decide_eq_true (by omega)
  obtain ⟨j,hj⟩:∃ j,k=j+1:=⟨k-1,by omega⟩
  have hjl:j<l.length:=by omega
  have gs2:(k:Int)-1=(j:Int):=by omega
  have gs:IntKind.i64.wrap ((k:Int)-1)=(j:Int):=by rw [gs2];exact IntWalk.i64_in _ (by omega)
  have hjli:(j:Int)<l.length:=by omega
  obtain ⟨_,q0,_,q2⟩:=sp_cells HEL.out hjl
  have d0:=cell_kept q0 ((UU.out.trans UA.out).block b hbl id)
  have d2:=cell_kept q2 ((UU.out.trans UA.out).block b hbl id)
  clear q0 q2
  obtain ⟨y,hy⟩:∃ y,l[j]=y:=⟨_,rfl⟩
  rw [hy] at d0 d2
  have HGP:=hid (show ∀ h1 h2,gapP (l[j]'h1) (l[j+1]'h2)↔gapP y x from fun h1 h2=>by
   have hx:=HX.out
   subst hj
   rw [hy,hx])
  have HJ:=hid hj
  clear hy hj hk0
  have no:¬gapP y x->¬nrmP l:=fun h hn=>h ((HGP.out hjl (by have:=HJ.out;omega)).1 (((nrm_idx l).1 hn).2 j (by have:=HJ.out;omega)))
  have NO:=hid no;clear no
  by_cases h1:x.mark<y.mark
  case pos =>
   have HN:=hid (NO.out fun h=>by unfold gapP at h;omega)
   have t1:decide (x.mark<y.mark)=true:=decide_eq_true h1
   go_wp2_with fail
   rw [<-HW1.out]
   have ec0:=fun p:UW W1=>p.cell c0
   have ec1:=fun p:UW W1=>p.cell c1
   have ec2:=fun p:UW W1=>p.cell c2
   have ed0:=fun p:UW W1=>p.cell d0
   have ed2:=fun p:UW W1=>p.cell d2
   have hv:∀ w,Calls Tryz.prog 254 #[.agg #[.int .i64 x.mark,.int .i64 x.fr,.int .i64 x.to]] w fun e w'=>e=.returned (.bool true)/\Upd (fun _=>False) w w':=fun w=>(valid_any x w).mono fun e w' h=>⟨by rw [h.1,decide_eq_true hxo],h.2⟩
   refine region_upd (by kernel_rfl) (by kernel_rfl) ?_
   repeat (go_big_quiet_step ((go_at_call 254;exact Calls.upd_of (hv _))))
   refine wpQuiet_nil ?_
   intro _ hw1
   refine uw_out hw1 ?_
   rintro w1 u1 rfl
   have U1:=hid u1
   clear hw1 u1
   all_goals
    go_wp2_with fail
    go_ret
    exact ⟨ret_f HN.out,U0.out.trans U1.out⟩
  have t1:decide (x.mark<y.mark)=false:=decide_eq_false h1
  by_cases h2:y.mark=x.mark
  case neg =>
   have t2:(y.mark==x.mark)=false:=beq_eq_false_iff_ne.2 h2
   have GP:=hid (show gapP y x from .inl (by omega))
   clear h1 h2
   go_wp2_with fail
   rw [<-HW1.out]
   have ec0:=fun p:UW W1=>p.cell c0
   have ec1:=fun p:UW W1=>p.cell c1
   have ec2:=fun p:UW W1=>p.cell c2
   have ed0:=fun p:UW W1=>p.cell d0
   have ed2:=fun p:UW W1=>p.cell d2
   have hv:∀ w,Calls Tryz.prog 254 #[.agg #[.int .i64 x.mark,.int .i64 x.fr,.int .i64 x.to]] w fun e w'=>e=.returned (.bool true)/\Upd (fun _=>False) w w':=fun w=>(valid_any x w).mono fun e w' h=>⟨by rw [h.1,decide_eq_true hxo],h.2⟩
   refine region_upd (by kernel_rfl) (by kernel_rfl) ?_
   repeat (go_big_quiet_step ((go_at_call 254;exact Calls.upd_of (hv _))))
   refine wpQuiet_nil ?_
   intro _ hw1
   refine uw_out hw1 ?_
   rintro w1 u1 rfl
   have U1:=hid u1
   clear hw1 u1
   all_goals
    go_wp2_with fail
    go_roundg (l.length-(k+1))
    case measure=>have:=HG.out;omega
    case rel =>
     refine ⟨k+1,by omega,rfl,by go_num,fun i h hi=>?_,fun i h hi=>?_,U0.out.trans U1.out⟩
     · by_cases e:i=k
       · subst e;rw [HX.out];exact XO.out
       · exact OK.out i h (by omega)
     · by_cases e:i=j
       · subst e;exact (HGP.out _ _).2 GP.out
       · exact EQ.out i h (by have:=HJ.out;omega)
  have t2:(y.mark==x.mark)=true:=beq_iff_eq.2 h2
  by_cases h3:x.fr<=y.to
  case pos =>
   have HN:=hid (NO.out fun h=>by unfold gapP at h;omega)
   have t3:decide (x.fr<=y.to)=true:=decide_eq_true h3
   clear h2
   go_wp2_with fail
   rw [<-HW1.out]
   have ec0:=fun p:UW W1=>p.cell c0
   have ec1:=fun p:UW W1=>p.cell c1
   have ec2:=fun p:UW W1=>p.cell c2
   have ed0:=fun p:UW W1=>p.cell d0
   have ed2:=fun p:UW W1=>p.cell d2
   have hv:∀ w,Calls Tryz.prog 254 #[.agg #[.int .i64 x.mark,.int .i64 x.fr,.int .i64 x.to]] w fun e w'=>e=.returned (.bool true)/\Upd (fun _=>False) w w':=fun w=>(valid_any x w).mono fun e w' h=>⟨by rw [h.1,decide_eq_true hxo],h.2⟩
   refine region_upd (by kernel_rfl) (by kernel_rfl) ?_
   repeat (go_big_quiet_step ((go_at_call 254;exact Calls.upd_of (hv _))))
   refine wpQuiet_nil ?_
   intro _ hw1
   refine uw_out hw1 ?_
   rintro w1 u1 rfl
   have U1:=hid u1
   clear hw1 u1
   all_goals
    go_wp2_with fail
    go_ret
    exact ⟨ret_f HN.out,U0.out.trans U1.out⟩
  have t3:decide (x.fr<=y.to)=false:=decide_eq_false h3
  have GP:=hid (show gapP y x from .inr ⟨h2,by omega⟩)
  clear h1 h2 h3
  go_wp2_with fail
  rw [<-HW1.out]
  have ec0:=fun p:UW W1=>p.cell c0
  have ec1:=fun p:UW W1=>p.cell c1
  have ec2:=fun p:UW W1=>p.cell c2
  have ed0:=fun p:UW W1=>p.cell d0
  have ed2:=fun p:UW W1=>p.cell d2
  have hv:∀ w,Calls Tryz.prog 254 #[.agg #[.int .i64 x.mark,.int .i64 x.fr,.int .i64 x.to]] w fun e w'=>e=.returned (.bool true)/\Upd (fun _=>False) w w':=fun w=>(valid_any x w).mono fun e w' h=>⟨by rw [h.1,decide_eq_true hxo],h.2⟩
  refine region_upd (by kernel_rfl) (by kernel_rfl) ?_
  repeat (go_big_quiet_step ((go_at_call 254;exact Calls.upd_of (hv _))))
  refine wpQuiet_nil ?_
  intro _ hw1
  refine uw_out hw1 ?_
  rintro w1 u1 rfl
  have U1:=hid u1
  clear hw1 u1
  all_goals
   go_wp2_with fail
   go_roundg (l.length-(k+1))
   case measure=>have:=HG.out;omega
   case rel =>
    refine ⟨k+1,by omega,rfl,by go_num,fun i h hi=>?_,fun i h hi=>?_,U0.out.trans U1.out⟩
    · by_cases e:i=k
      · subst e;rw [HX.out];exact XO.out
      · exact OK.out i h (by omega)
    · by_cases e:i=j
      · subst e;exact (HGP.out _ _).2 GP.out
      · exact EQ.out i h (by have:=HJ.out;omega)
end Go.Proofs.YtjkmalddfoemhaaGreatDoor
