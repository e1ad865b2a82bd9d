/- Walks: the reference's to, valid, Normal and Has. -/
import Derived.Test.YtjkmalddfoemhaaGreatDoorCEnNrm
import Derived.Test.YtjkmalddfoemhaaGreatDoorCEnRefQ
set_option maxRecDepth 100000
set_option maxHeartbeats 16000000
namespace Go.Proofs.YtjkmalddfoemhaaGreatDoor
open Go.RowKit Go.Deep
theorem to_any (n m:Int) (w:World):Calls Tryz.prog 230 #[.int .i64 n,.int .i64 m] w fun e w'=>e=.returned (.bool (decide (toP n m)))/\w=w':=by
 go_enter Tryz.func230,Tryz.ntmps230
 go_wp2
 all_goals
  go_ret
  exact ⟨by first | exact ret_dec (by unfold toP;omega) | exact ret_f (by unfold toP;omega),rfl⟩
theorem rvalid_any (s:Sp) (w:World):Calls Tryz.prog 278 #[spVal s] w fun e w'=>e=.returned (.bool (decide s.Ok))/\Upd (fun _=>False) w w':=by
 unfold spVal
 go_enter Tryz.func278,Tryz.ntmps278
 go_wp2_with (go_at_call 230;refine (to_any _ _ _).mono ?_;rintro e w' ⟨rfl,rfl⟩)
 all_goals
  go_ret
  exact ⟨by simp only [toP] at *;first | exact ret_dec (by unfold Sp.Ok;omega) | exact ret_f (by unfold Sp.Ok;omega),(Upd.refl _ _).alloc _⟩
theorem rnrm_any (A:Nat->Prop) (v:Value) (l:List Sp) (w:World) (hl:kSps.rep A w [v] l) :
 Calls Tryz.prog 235 #[v] w fun e w'=>e=.returned (.bool (decide (nrmP l)))/\Upd (fun _=>False) w w':=by
 obtain ⟨a,cap,rfl,p1,p2,p3⟩:=slice_open hl
 have p2:cap<=9223372036854775807:=p2
 have H:=hid p3
 clear hl p3
 go_enter Tryz.func235,Tryz.ntmps235
 go_wp2_with fail
 go_loopg [3] l.length (fun gg s3 wr=>∃ k:Nat,k<=l.length/\gg=l.length-k/\s3=.int .i64 k/\(∀ i (h:i<l.length),i<k->l[i].Ok)/\(∀ i (h:i+1<l.length),i+1<k->gapP l[i] l[i+1])/\Upd (fun _=>False) w wr)
 case atStart=>exact ⟨0,Nat.zero_le _,rfl,rfl,fun i _ h=>absurd h (Nat.not_lt_zero _),fun i _ h=>absurd h (Nat.not_lt_zero _),Upd.refl _ _⟩
 case round =>
  obtain ⟨k,hk,hg,rfl,ho,he,u⟩:=hrel
  have UU:=hid u;have HG:=hid hg;have OK:=hid ho;have EQ:=hid he
  clear u hg ho he
  by_cases hlt:k<l.length
  case neg =>
   have HY:=hid (show nrmP l from (nrm_idx l).2 ⟨fun i h=>OK.out i h (by omega),fun i h=>EQ.out i h (by omega)⟩)
   have hlti:¬(k:Int)<l.length:=by omega
   go_wp2_with fail
   go_ret
   exact ⟨ret_t HY.out,UU.out⟩
  have hlti:(k:Int)<l.length:=by omega
  obtain ⟨b,o,rfl,hb,hel⟩:=H.out (by omega)
  obtain ⟨_,m0,m1,m2⟩:=sp_cells hel hlt
  have hbl:=World.block_lt_of_cell? _ _ m0
  have m0:=cell_kept m0 (UU.out.block b hbl id)
  have m1:=cell_kept m1 (UU.out.block b hbl id)
  have m2:=cell_kept m2 (UU.out.block b hbl id)
  have HEL:=hid hel;clear hel
  obtain ⟨x,hx⟩:∃ x,l[k]=x:=⟨_,rfl⟩
  rw [hx] at m0 m1 m2
  have HX:=hid hx;clear hx
  have hbr:b<wr.heap.size:=Nat.lt_of_lt_of_le hbl UU.out.size
  have c0:=m0;have c1:=m1;have c2:=m2
  clear m0 m1 m2
  have U0:=hid UU.out;have UA:=hid (Upd.refl (fun _=>False) wr)
  by_cases hxo:x.Ok
  case neg =>
   have HN:=hid (show ¬nrmP l from fun h=>hxo (by rw [<-HX.out];exact ((nrm_idx l).1 h).1 k hlt))
   go_wp2_with fail
   have ec0:=fun p:UW wr=>p.cell c0
   have ec1:=fun p:UW wr=>p.cell c1
   have ec2:=fun p:UW wr=>p.cell c2
   have hv:∀ w,Calls Tryz.prog 278 #[.agg #[.int .i64 x.mark,.int .i64 x.fr,.int .i64 x.to]] w fun e w'=>e=.returned (.bool false)/\Upd (fun _=>False) w w':=fun w=>(rvalid_any x w).mono fun e w' h=>⟨by rw [h.1,decide_eq_false hxo],h.2⟩
   refine region_upd (by kernel_rfl) (by kernel_rfl) ?_
   repeat (go_big_quiet_step ((go_at_call 278;exact Calls.upd_of (hv _))))
   refine wpQuiet_nil ?_
   intro _ hw1
   refine uw_out hw1 ?_
   rintro w1 u1 rfl
   have U1:=hid u1
   clear hw1 u1
   all_goals
    go_wp2_with fail
    go_ret
    exact ⟨ret_f HN.out,U0.out.trans U1.out⟩
  have XO:=hid hxo
  by_cases hk0:k=0
  case pos =>
   have g1:decide ((0:Int)<(k:Int))=false:=decide_eq_false (by omega)
   have g2:decide (0<k)=false:=decide_eq_false (by omega)
   have K0:=hid hk0
   clear hk0
   go_wp2_with fail
   have ec0:=fun p:UW wr=>p.cell c0
   have ec1:=fun p:UW wr=>p.cell c1
   have ec2:=fun p:UW wr=>p.cell c2
   have hv:∀ w,Calls Tryz.prog 278 #[.agg #[.int .i64 x.mark,.int .i64 x.fr,.int .i64 x.to]] w fun e w'=>e=.returned (.bool true)/\Upd (fun _=>False) w w':=fun w=>(rvalid_any x w).mono fun e w' h=>⟨by rw [h.1,decide_eq_true hxo],h.2⟩
   refine region_upd (by kernel_rfl) (by kernel_rfl) ?_
   repeat (go_big_quiet_step ((go_at_call 278;exact Calls.upd_of (hv _))))
   refine wpQuiet_nil ?_
   intro _ hw1
   refine uw_out hw1 ?_
   rintro w1 u1 rfl
   have U1:=hid u1
   clear hw1 u1
   all_goals
    go_wp2_with fail
    go_roundg (l.length-(k+1))
    case measure=>have:=HG.out;omega
    case rel =>
     refine ⟨k+1,by omega,rfl,by go_num,fun i h hi=>?_,fun i h hi=>?_,U0.out.trans U1.out⟩
     · by_cases e:i=k
       · subst e;rw [HX.out];exact XO.out
       · exact OK.out i h (by omega)
     · have:=K0.out;omega
  have g1:decide ((0:Int)<(k:Int))=true:=decide_eq_true (by omega)
  have g2:decide (0<k)=true:=decide_eq_true (by omega)
  obtain ⟨j,hj⟩:∃ j,k=j+1:=⟨k-1,by omega⟩
  have hjl:j<l.length:=by omega
  have gs2:(k:Int)-1=(j:Int):=by omega
  have gs:IntKind.i64.wrap ((k:Int)-1)=(j:Int):=by rw [gs2];exact IntWalk.i64_in _ (by omega)
  have hjli:(j:Int)<l.length:=by omega
  obtain ⟨_,q0,_,q2⟩:=sp_cells HEL.out hjl
  have d0:=cell_kept q0 ((UU.out.trans UA.out).block b hbl id)
  have d2:=cell_kept q2 ((UU.out.trans UA.out).block b hbl id)
  clear q0 q2
  obtain ⟨y,hy⟩:∃ y,l[j]=y:=⟨_,rfl⟩
  rw [hy] at d0 d2
  have HGP:=hid (show ∀ h1 h2,gapP (l[j]'h1) (l[j+1]'h2)↔gapP y x from fun h1 h2=>by
   have hx:=HX.out
   subst hj
   rw [hy,hx])
  have HJ:=hid hj
  clear hy hj hk0
  have no:¬gapP y x->¬nrmP l:=fun h hn=>h ((HGP.out hjl (by have:=HJ.out;omega)).1 (((nrm_idx l).1 hn).2 j (by have:=HJ.out;omega)))
  have NO:=hid no;clear no
  by_cases h1:x.mark<y.mark
  case pos =>
   have HN:=hid (NO.out fun h=>by unfold gapP at h;omega)
   have t1:decide (x.mark<y.mark)=true:=decide_eq_true h1
   go_wp2_with fail
   have ec0:=fun p:UW wr=>p.cell c0
   have ec1:=fun p:UW wr=>p.cell c1
   have ec2:=fun p:UW wr=>p.cell c2
   have ed0:=fun p:UW wr=>p.cell d0
   have ed2:=fun p:UW wr=>p.cell d2
   have hv:∀ w,Calls Tryz.prog 278 #[.agg #[.int .i64 x.mark,.int .i64 x.fr,.int .i64 x.to]] w fun e w'=>e=.returned (.bool true)/\Upd (fun _=>False) w w':=fun w=>(rvalid_any x w).mono fun e w' h=>⟨by rw [h.1,decide_eq_true hxo],h.2⟩
   refine region_upd (by kernel_rfl) (by kernel_rfl) ?_
   repeat (go_big_quiet_step ((go_at_call 278;exact Calls.upd_of (hv _))))
   refine wpQuiet_nil ?_
   intro _ hw1
   refine uw_out hw1 ?_
   rintro w1 u1 rfl
   have U1:=hid u1
   clear hw1 u1
   all_goals
    go_wp2_with fail
    go_ret
    exact ⟨ret_f HN.out,U0.out.trans U1.out⟩
  have t1:decide (x.mark<y.mark)=false:=decide_eq_false h1
  by_cases h2:y.mark=x.mark
  case neg =>
   have t2:(y.mark==x.mark)=false:=beq_eq_false_iff_ne.2 h2
   have GP:=hid (show gapP y x from .inl (by omega))
   clear h1 h2
   go_wp2_with fail
   have ec0:=fun p:UW wr=>p.cell c0
   have ec1:=fun p:UW wr=>p.cell c1
   have ec2:=fun p:UW wr=>p.cell c2
   have ed0:=fun p:UW wr=>p.cell d0
   have ed2:=fun p:UW wr=>p.cell d2
   have hv:∀ w,Calls Tryz.prog 278 #[.agg #[.int .i64 x.mark,.int .i64 x.fr,.int .i64 x.to]] w fun e w'=>e=.returned (.bool true)/\Upd (fun _=>False) w w':=fun w=>(rvalid_any x w).mono fun e w' h=>⟨by rw [h.1,decide_eq_true hxo],h.2⟩
   refine region_upd (by kernel_rfl) (by kernel_rfl) ?_
   repeat (go_big_quiet_step ((go_at_call 278;exact Calls.upd_of (hv _))))
   refine wpQuiet_nil ?_
   intro _ hw1
   refine uw_out hw1 ?_
   rintro w1 u1 rfl
   have U1:=hid u1
   clear hw1 u1
   all_goals
    go_wp2_with fail
    go_roundg (l.length-(k+1))
    case measure=>have:=HG.out;omega
    case rel =>
     refine ⟨k+1,by omega,rfl,by go_num,fun i h hi=>?_,fun i h hi=>?_,U0.out.trans U1.out⟩
     · by_cases e:i=k
       · subst e;rw [HX.out];exact XO.out
       · exact OK.out i h (by omega)
     · by_cases e:i=j
       · subst e;exact (HGP.out _ _).2 GP.out
       · exact EQ.out i h (by have:=HJ.out;omega)
  have t2:(y.mark==x.mark)=true:=beq_iff_eq.2 h2
  by_cases h3:x.fr<=y.to
  case pos =>
   have HN:=hid (NO.out fun h=>by unfold gapP at h;omega)
   have t3:decide (x.fr<=y.to)=true:=decide_eq_true h3
   clear h2
   go_wp2_with fail
   have ec0:=fun p:UW wr=>p.cell c0
   have ec1:=fun p:UW wr=>p.cell c1
   have ec2:=fun p:UW wr=>p.cell c2
   have ed0:=fun p:UW wr=>p.cell d0
   have ed2:=fun p:UW wr=>p.cell d2
   have hv:∀ w,Calls Tryz.prog 278 #[.agg #[.int .i64 x.mark,.int .i64 x.fr,.int .i64 x.to]] w fun e w'=>e=.returned (.bool true)/\Upd (fun _=>False) w w':=fun w=>(rvalid_any x w).mono fun e w' h=>⟨by rw [h.1,decide_eq_true hxo],h.2⟩
   refine region_upd (by kernel_rfl) (by kernel_rfl) ?_
   repeat (go_big_quiet_step ((go_at_call 278;exact Calls.upd_of (hv _))))
   refine wpQuiet_nil ?_
   intro _ hw1
   refine uw_out hw1 ?_
   rintro w1 u1 rfl
   have U1:=hid u1
   clear hw1 u1
   all_goals
    go_wp2_with fail
    go_ret
    exact ⟨ret_f HN.out,U0.out.trans U1.out⟩
  have t3:decide (x.fr<=y.to)=false:=decide_eq_false h3
  have GP:=hid (show gapP y x from .inr ⟨h2,by omega⟩)
  clear h1 h2 h3
  go_wp2_with fail
  have ec0:=fun p:UW wr=>p.cell c0
  have ec1:=fun p:UW wr=>p.cell c1
  have ec2:=fun p:UW wr=>p.cell c2
  have ed0:=fun p:UW wr=>p.cell d0
  have ed2:=fun p:UW wr=>p.cell d2
  have hv:∀ w,Calls Tryz.prog 278 #[.agg #[.int .i64 x.mark,.int .i64 x.fr,.int .i64 x.to]] w fun e w'=>e=.returned (.bool true)/\Upd (fun _=>False) w w':=fun w=>(rvalid_any x w).mono fun e w' h=>⟨by rw [h.1,decide_eq_true hxo],h.2⟩
  refine region_upd (by kernel_rfl) (by kernel_rfl) ?_
  repeat (go_big_quiet_step ((go_at_call 278;exact Calls.upd_of (hv _))))
  refine wpQuiet_nil ?_
  intro _ hw1
  refine uw_out hw1 ?_
  rintro w1 u1 rfl
  have U1:=hid u1
  clear hw1 u1
  all_goals
   go_wp2_with fail
   go_roundg (l.length-(k+1))
   case measure=>have:=HG.out;omega
   case rel =>
    refine ⟨k+1,by omega,rfl,by go_num,fun i h hi=>?_,fun i h hi=>?_,U0.out.trans U1.out⟩
    · by_cases e:i=k
      · subst e;rw [HX.out];exact XO.out
      · exact OK.out i h (by omega)
    · by_cases e:i=j
      · subst e;exact (HGP.out _ _).2 GP.out
      · exact EQ.out i h (by have:=HJ.out;omega)
end Go.Proofs.YtjkmalddfoemhaaGreatDoor
namespace Go.Proofs.YtjkmalddfoemhaaGreatDoor
open Go.RowKit Go.Deep
theorem ruses_any (k:Int) (hk:0<=k/\k<21) (w:World):Calls Tryz.prog 233 #[.int .i64 k] w fun e w'=>e=.returned (.string ⟨(useF k).toArray⟩)/\w=w':=by
 rcases kinds hk with rfl | rfl | rfl | rfl | rfl | rfl | rfl | rfl | rfl | rfl | rfl | rfl | rfl | rfl | rfl | rfl | rfl | rfl | rfl | rfl | rfl<;>(
 clear hk
 go_enter Tryz.func233,Tryz.ntmps233
 go_wp2_with fail
 go_ret
 exact ⟨rfl,rfl⟩)
theorem rin_any (l:List UInt8) (c:UInt8) (r:Int) (hr:r=c.toNat) (hml:l.length<=1000) (w:World):Calls Tryz.prog 234 #[.string ⟨l.toArray⟩,.int .u8 r] w fun e w'=>e=.returned (.bool (decide (c∈l)))/\w=w':=by
 have HR:=hid hr
 clear hr
 go_enter Tryz.func234,Tryz.ntmps234
 go_wp2_with fail
 go_loopg [5] l.length (fun gg s5 wr=>∃ k:Nat,k<=l.length/\gg=l.length-k/\s5=.int .i64 k/\(∀ i (h:i<l.length),i<k->l[i]≠c)/\w=wr)
 case atStart=>exact ⟨0,Nat.zero_le _,rfl,rfl,fun i _ h=>absurd h (Nat.not_lt_zero _),rfl⟩
 case round =>
  obtain ⟨k,hk,hg,rfl,he,rfl⟩:=hrel
  have HG:=hid hg;have EQ:=hid he
  clear hg he
  by_cases hlt:k<l.length
  case neg =>
   have HN:=hid (show ¬c∈l from fun hx=>by
    obtain ⟨i,hi,e⟩:=List.mem_iff_getElem.1 hx
    exact EQ.out i hi (by omega) e)
   have hlti:¬(k:Int)<l.length:=by omega
   go_wp2_with fail
   go_ret
   exact ⟨ret_f HN.out,rfl⟩
  have hlti:(k:Int)<l.length:=by omega
  have hk1:(k:Int)+1<=9223372036854775807:=by omega
  have MEM:=hid (List.getElem_mem hlt)
  obtain ⟨x,hx⟩:∃ x,l[k]=x:=⟨_,rfl⟩
  have hix:∀ h,(ByteArray.mk l.toArray)[k]'h=x:=fun h=>hx
  have HX:=hid hx
  rw [hx] at MEM
  clear hx
  by_cases hxc:x=c
  case pos =>
   have q:((x.toNat:Int)==r)=true:=beq_iff_eq.2 (by rw [HR.out,hxc])
   have HY:=hid (show c∈l by rw [<-hxc];exact MEM.out)
   clear hxc
   go_wp2_with fail
   go_ret
   exact ⟨ret_t HY.out,rfl⟩
  have q:((x.toNat:Int)==r)=false:=beq_eq_false_iff_ne.2 fun h=>hxc (UInt8.toNat_inj.1 (by have:=HR.out;omega))
  have HNX:=hid hxc
  clear hxc
  go_wp2_with fail
  go_roundg (l.length-(k+1))
  case measure=>have:=HG.out;omega
  case rel =>
   refine ⟨k+1,by omega,rfl,by go_num,fun i h hi=>?_,rfl⟩
   by_cases e:i=k
   · subst e;rw [HX.out];exact HNX.out
   · exact EQ.out i h (by omega)
theorem ascTo_no {l:List Int} {m:Int} {k:Nat} (h:k<l.length) (hx:¬toP l[k] m):¬ascTo l m:=fun ha=>hx (ha.1 _ (List.getElem_mem h))
theorem rasc_any (A:Nat->Prop) (v:Value) (l:List Int) (m:Int) (w:World) (hl:kInts.rep A w [v] l) :
 Calls Tryz.prog 232 #[v,.int .i64 m] w fun e w'=>e=.returned (.bool (decide (ascTo l m)))/\Upd (fun _=>False) w w':=by
 obtain ⟨a,cap,rfl,p1,p2,p3⟩:=slice_open hl
 have p2:cap<=9223372036854775807:=p2
 have H:=hid p3
 clear hl p3
 go_enter Tryz.func232,Tryz.ntmps232
 go_wp2_with fail
 go_loopg [5] l.length (fun gg s5 wr=>∃ k:Nat,k<=l.length/\gg=l.length-k/\s5=.int .i64 k/\(∀ i (h:i<l.length),i<k->toP l[i] m)/\(∀ i (h:i+1<l.length),i+1<k->l[i]<l[i+1])/\Upd (fun _=>False) w wr)
 case atStart=>exact ⟨0,Nat.zero_le _,rfl,rfl,fun i _ h=>absurd h (Nat.not_lt_zero _),fun i _ h=>absurd h (Nat.not_lt_zero _),Upd.refl _ _⟩
 case round =>
  obtain ⟨k,hk,hg,rfl,ho,he,u⟩:=hrel
  have UU:=hid u;have HG:=hid hg;have OK:=hid ho;have EQ:=hid he
  clear u hg ho he
  by_cases hlt:k<l.length
  case neg =>
   have HY:=hid (show ascTo l m from ⟨fun x hx=>by
    obtain ⟨i,hi,rfl⟩:=List.mem_iff_getElem.1 hx
    exact OK.out i hi (by omega),(asc_idx l).2 fun i h=>EQ.out i h (by omega)⟩)
   have hlti:¬(k:Int)<l.length:=by omega
   go_wp2_with fail
   go_ret
   exact ⟨ret_t HY.out,UU.out⟩
  have hlti:(k:Int)<l.length:=by omega
  obtain ⟨b,o,rfl,hb,hel⟩:=H.out (by omega)
  have m0:=int_cells hel hlt
  have hbl:b<w.heap.size:=World.block_lt_of_cell? _ _ m0
  have m0:=cell_kept m0 (UU.out.block b hbl id)
  have HEL:=hid hel;clear hel
  have hbr:b<wr.heap.size:=Nat.lt_of_lt_of_le hbl UU.out.size
  obtain ⟨x,hx⟩:∃ x,l[k]=x:=⟨_,rfl⟩
  rw [hx] at m0
  have HX:=hid hx;clear hx
  by_cases hxo:toP x m
  case neg =>
   have HN:=hid (show ¬ascTo l m from ascTo_no hlt (by rw [HX.out];exact hxo))
   have hv:∀ w,Calls Tryz.prog 230 #[.int .i64 x,.int .i64 m] w fun e w'=>e=.returned (.bool false)/\w=w':=fun w=>(to_any x m w).mono fun e w' h=>⟨by rw [h.1,decide_eq_false hxo],h.2⟩
   go_wp2_with fail
   have em0:=fun p:UW wr=>p.cell m0
   refine region_upd (by kernel_rfl) (by kernel_rfl) ?_
   repeat (go_big_quiet_step ((go_at_call 230;exact Calls.upd_same (hv _))))
   refine wpQuiet_nil ?_
   intro w4 hw1
   obtain ⟨pw,hpw⟩:=hw1
   have uq:Upd (fun _=>False) wr w4:=by rw [hpw];exact pw.u
   clear hpw pw em0
   go_wp2_with fail
   go_ret
   exact ⟨ret_f HN.out,UU.out.trans uq⟩
  have XO:=hid hxo
  have hv:∀ w,Calls Tryz.prog 230 #[.int .i64 x,.int .i64 m] w fun e w'=>e=.returned (.bool true)/\w=w':=fun w=>(to_any x m w).mono fun e w' h=>⟨by rw [h.1,decide_eq_true hxo],h.2⟩
  by_cases hk0:k=0
  case pos =>
   have g1:decide ((0:Int)<(k:Int))=false:=decide_eq_false (by omega)
   have g2:decide (0<k)=false:=decide_eq_false (by omega)
   have K0:=hid hk0
   clear hk0
   go_wp2_with fail
   have em0:=fun p:UW wr=>p.cell m0
   refine region_upd (by kernel_rfl) (by kernel_rfl) ?_
   repeat (go_big_quiet_step ((go_at_call 230;exact Calls.upd_same (hv _))))
   refine wpQuiet_nil ?_
   intro w4 hw1
   obtain ⟨pw,hpw⟩:=hw1
   have uq:Upd (fun _=>False) wr w4:=by rw [hpw];exact pw.u
   clear hpw pw em0
   have U1:=hid (UU.out.trans uq)
   clear uq
   go_wp2_with fail
   go_roundg (l.length-(k+1))
   case measure=>have:=HG.out;omega
   case rel =>
    refine ⟨k+1,by omega,rfl,by go_num,fun i h hi=>?_,fun i h hi=>?_,U1.out⟩
    · by_cases e:i=k
      · subst e;rw [HX.out];exact XO.out
      · exact OK.out i h (by omega)
    · have:=K0.out;omega
  have g1:decide ((0:Int)<(k:Int))=true:=decide_eq_true (by omega)
  have g2:decide (0<k)=true:=decide_eq_true (by omega)
  obtain ⟨j,hj⟩:∃ j,k=j+1:=⟨k-1,by omega⟩
  have hjl:j<l.length:=by omega
  have gs2:(k:Int)-1=(j:Int):=by omega
  have gs:IntKind.i64.wrap ((k:Int)-1)=(j:Int):=by rw [gs2];exact IntWalk.i64_in _ (by omega)
  have hjli:(j:Int)<l.length:=by omega
  have d0:=cell_kept (int_cells HEL.out hjl) (UU.out.block b hbl id)
  obtain ⟨y,hy⟩:∃ y,l[j]=y:=⟨_,rfl⟩
  rw [hy] at d0
  have HGP:=hid (show ∀ h1 h2,(l[j]'h1<l[j+1]'h2)↔y<x from fun h1 h2=>by
   have hx:=HX.out
   subst hj
   rw [hy,hx])
  have HJ:=hid hj
  clear hy hj hk0
  by_cases h1:x<=y
  case pos =>
   have t1:decide (x<=y)=true:=decide_eq_true h1
   have HN:=hid (show ¬ascTo l m from fun h=>by
    have:=(HGP.out hjl (by have:=HJ.out;omega)).1 ((asc_idx l).1 h.2 j (by have:=HJ.out;omega))
    omega)
   clear h1
   go_wp2_with fail
   have em0:=fun p:UW wr=>p.cell m0
   have ed0:=fun p:UW wr=>p.cell d0
   refine region_upd (by kernel_rfl) (by kernel_rfl) ?_
   repeat (go_big_quiet_step ((go_at_call 230;exact Calls.upd_same (hv _))))
   refine wpQuiet_nil ?_
   intro w4 hw1
   obtain ⟨pw,hpw⟩:=hw1
   have uq:Upd (fun _=>False) wr w4:=by rw [hpw];exact pw.u
   clear hpw pw em0 ed0
   go_wp2_with fail
   go_ret
   exact ⟨ret_f HN.out,UU.out.trans uq⟩
  have t1:decide (x<=y)=false:=decide_eq_false h1
  have GP:=hid (show y<x by omega)
  clear h1
  go_wp2_with fail
  have em0:=fun p:UW wr=>p.cell m0
  have ed0:=fun p:UW wr=>p.cell d0
  refine region_upd (by kernel_rfl) (by kernel_rfl) ?_
  repeat (go_big_quiet_step ((go_at_call 230;exact Calls.upd_same (hv _))))
  refine wpQuiet_nil ?_
  intro w4 hw1
  obtain ⟨pw,hpw⟩:=hw1
  have uq:Upd (fun _=>False) wr w4:=by rw [hpw];exact pw.u
  clear hpw pw em0 ed0
  have U1:=hid (UU.out.trans uq)
  clear uq
  go_wp2_with fail
  go_roundg (l.length-(k+1))
  case measure=>have:=HG.out;omega
  case rel =>
   refine ⟨k+1,by omega,rfl,by go_num,fun i h hi=>?_,fun i h hi=>?_,U1.out⟩
   · by_cases e:i=k
     · subst e;rw [HX.out];exact XO.out
     · exact OK.out i h (by omega)
   · by_cases e:i=j
     · subst e;exact (HGP.out _ _).2 GP.out
     · exact EQ.out i h (by have:=HJ.out;omega)
end Go.Proofs.YtjkmalddfoemhaaGreatDoor
