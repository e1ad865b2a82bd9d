/- Walks: the reference's Text. -/
import Derived.Test.YtjkmalddfoemhaaGreatDoorCEnRtC
import Derived.Test.YtjkmalddfoemhaaGreatDoorJ6
import Derived.Test.YtjkmalddfoemhaaGreatDoorCWrR3
import Derived.Test.YtjkmalddfoemhaaGreatDoorJ14
import Derived.Test.YtjkmalddfoemhaaGreatDoorJ10
import Derived.Test.YtjkmalddfoemhaaGreatDoorJ4
import Derived.Test.YtjkmalddfoemhaaGreatDoorJ2
set_option maxRecDepth 100000
set_option maxHeartbeats 16000000
namespace Go.Proofs.YtjkmalddfoemhaaGreatDoor
open Go.RowKit Go.Deep
theorem rtext_any (e:En) (a1 a2 a3:Option Addr) (c1 c2 c3:Nat) (w:World) (hr:EnRep (· < w.heap.size) w e a1 a2 a3 c1 c2 c3) (hw:EnWf e) :
 Calls Tryz.prog 108 #[enV e a1 a2 a3 c1 c2 c3] w fun en w'=>en=.returned (.string ⟨(txtF e).toArray⟩)/\Upd (fun _=>False) w w':=by
 have HR:=hid hr;have HWF:=hid hw
 by_cases hR:RightE e
 case neg =>
  have ht:txtF e=[]:=if_neg hR
  rw [ht]
  have HN:=hid hR
  clear hr hR hw ht
  unfold enV
  go_enter Tryz.func108,Tryz.ntmps108
  go_wp2_with fail
  refine (rright_any e a1 a2 a3 c1 c2 c3 (· < w.heap.size) _ (HR.out.keep ((Upd.refl _ _).alloc _))).mono ?_
  rintro en w1 ⟨rfl,u⟩
  rw [decide_eq_false HN.out]
  have U:=hid (((Upd.refl (fun _=>False) w).alloc _).trans u)
  clear u
  go_wp2_with fail
  go_ret
  exact ⟨rfl,U.out⟩
 have ht:txtF e=encE e:=if_pos hR
 rw [ht]
 have hlen:=enc_len hR hw
 rw [enc_sum] at hlen
 obtain ⟨hs1,hs2⟩:=hR.sp
 have HS2:=hid hs2;have HRT:=hid hR
 have i0:I64 e.author:=by have:=hR.author;unfold keyP at this;unfold I64;omega
 have i1:I64 e.seq:=by have:=hR.seq;unfold I64;omega
 have i2:I64 e.day:=by have:=hR.day;unfold dayP at this;unfold I64;omega
 have i4:I64 e.kind:=by have:=hR.kind;unfold I64;omega
 have i5:I64 e.circle:=by have:=hR.circle;unfold markP at this;unfold I64;omega
 have i6:I64 e.who:=by have:=hR.who;unfold keyP at this;unfold I64;omega
 have i11:I64 (e.spans.length:Int):=by unfold I64;omega
 have I0:=hid i0;have I1:=hid i1;have I2:=hid i2;have I4:=hid i4;have I5:=hid i5;have I6:=hid i6;have I11:=hid i11
 have htx:=hR.text
 obtain ⟨q1,q2⟩:=slice_caps hr.knows
 obtain ⟨q3,q4⟩:=slice_caps hr.keys
 obtain ⟨q5,q6⟩:=slice_caps hr.spans
 have HTX:=hid htx
 have e2:=preT_last e
 have hpl:=fun k=>preT_len e k
 rw [enc_sum] at hpl
 obtain ⟨s1,z1⟩:∃ x,numE e.author++numE e.seq=x:=⟨_,rfl⟩
 have zl1:s1.length=(numE e.author).length+(numE e.seq).length:=by rw [<-z1,List.length_append]
 obtain ⟨s2,z2⟩:∃ x,s1++numE e.day=x:=⟨_,rfl⟩
 have zl2:s2.length=(s1).length+(numE e.day).length:=by rw [<-z2,List.length_append]
 obtain ⟨s3,z3⟩:∃ x,s2++numsE e.knows=x:=⟨_,rfl⟩
 have zl3:s3.length=(s2).length+(numsE e.knows).length:=by rw [<-z3,List.length_append]
 obtain ⟨s4,z4⟩:∃ x,s3++numE e.kind=x:=⟨_,rfl⟩
 have zl4:s4.length=(s3).length+(numE e.kind).length:=by rw [<-z4,List.length_append]
 obtain ⟨s5,z5⟩:∃ x,s4++numE e.circle=x:=⟨_,rfl⟩
 have zl5:s5.length=(s4).length+(numE e.circle).length:=by rw [<-z5,List.length_append]
 obtain ⟨s6,z6⟩:∃ x,s5++numE e.who=x:=⟨_,rfl⟩
 have zl6:s6.length=(s5).length+(numE e.who).length:=by rw [<-z6,List.length_append]
 obtain ⟨s7,z7⟩:∃ x,s6++intE e.n=x:=⟨_,rfl⟩
 have zl7:s7.length=(s6).length+(intE e.n).length:=by rw [<-z7,List.length_append]
 obtain ⟨s8,z8⟩:∃ x,s7++intE e.m=x:=⟨_,rfl⟩
 have zl8:s8.length=(s7).length+(intE e.m).length:=by rw [<-z8,List.length_append]
 obtain ⟨s9,z9⟩:∃ x,s8++intE e.ref=x:=⟨_,rfl⟩
 have zl9:s9.length=(s8).length+(intE e.ref).length:=by rw [<-z9,List.length_append]
 obtain ⟨s10,z10⟩:∃ x,s9++numsE e.keys=x:=⟨_,rfl⟩
 have zl10:s10.length=(s9).length+(numsE e.keys).length:=by rw [<-z10,List.length_append]
 obtain ⟨s11,z11⟩:∃ x,s10++numE e.spans.length=x:=⟨_,rfl⟩
 have zl11:s11.length=(s10).length+(numE e.spans.length).length:=by rw [<-z11,List.length_append]
 have pz:preT e 0=s11:=by subst z1 z2 z3 z4 z5 z6 z7 z8 z9 z10 z11;unfold preT;simp [List.append_assoc]
 have Z1:=hid z1
 have Z2:=hid z2
 have Z3:=hid z3
 have Z4:=hid z4
 have Z5:=hid z5
 have Z6:=hid z6
 have Z7:=hid z7
 have Z8:=hid z8
 have Z9:=hid z9
 have Z10:=hid z10
 have Z11:=hid z11
 have za1:∀ w,(Op.stringOp .add ⟨(numE e.author).toArray⟩ ⟨(numE e.seq).toArray⟩).run Tryz.prog w=.ok (.string ⟨s1.toArray⟩) w:=fun w=>by rw [<-Z1.out];exact add_lists _ _ (by have:=Z1.out;omega) w
 have za2:∀ w,(Op.stringOp .add ⟨(s1).toArray⟩ ⟨(numE e.day).toArray⟩).run Tryz.prog w=.ok (.string ⟨s2.toArray⟩) w:=fun w=>by rw [<-Z2.out];exact add_lists _ _ (by have:=Z2.out;omega) w
 have za3:∀ w,(Op.stringOp .add ⟨(s2).toArray⟩ ⟨(numsE e.knows).toArray⟩).run Tryz.prog w=.ok (.string ⟨s3.toArray⟩) w:=fun w=>by rw [<-Z3.out];exact add_lists _ _ (by have:=Z3.out;omega) w
 have za4:∀ w,(Op.stringOp .add ⟨(s3).toArray⟩ ⟨(numE e.kind).toArray⟩).run Tryz.prog w=.ok (.string ⟨s4.toArray⟩) w:=fun w=>by rw [<-Z4.out];exact add_lists _ _ (by have:=Z4.out;omega) w
 have za5:∀ w,(Op.stringOp .add ⟨(s4).toArray⟩ ⟨(numE e.circle).toArray⟩).run Tryz.prog w=.ok (.string ⟨s5.toArray⟩) w:=fun w=>by rw [<-Z5.out];exact add_lists _ _ (by have:=Z5.out;omega) w
 have za6:∀ w,(Op.stringOp .add ⟨(s5).toArray⟩ ⟨(numE e.who).toArray⟩).run Tryz.prog w=.ok (.string ⟨s6.toArray⟩) w:=fun w=>by rw [<-Z6.out];exact add_lists _ _ (by have:=Z6.out;omega) w
 have za7:∀ w,(Op.stringOp .add ⟨(s6).toArray⟩ ⟨(intE e.n).toArray⟩).run Tryz.prog w=.ok (.string ⟨s7.toArray⟩) w:=fun w=>by rw [<-Z7.out];exact add_lists _ _ (by have:=Z7.out;omega) w
 have za8:∀ w,(Op.stringOp .add ⟨(s7).toArray⟩ ⟨(intE e.m).toArray⟩).run Tryz.prog w=.ok (.string ⟨s8.toArray⟩) w:=fun w=>by rw [<-Z8.out];exact add_lists _ _ (by have:=Z8.out;omega) w
 have za9:∀ w,(Op.stringOp .add ⟨(s8).toArray⟩ ⟨(intE e.ref).toArray⟩).run Tryz.prog w=.ok (.string ⟨s9.toArray⟩) w:=fun w=>by rw [<-Z9.out];exact add_lists _ _ (by have:=Z9.out;omega) w
 have za10:∀ w,(Op.stringOp .add ⟨(s9).toArray⟩ ⟨(numsE e.keys).toArray⟩).run Tryz.prog w=.ok (.string ⟨s10.toArray⟩) w:=fun w=>by rw [<-Z10.out];exact add_lists _ _ (by have:=Z10.out;omega) w
 have za11:∀ w,(Op.stringOp .add ⟨(s10).toArray⟩ ⟨(numE e.spans.length).toArray⟩).run Tryz.prog w=.ok (.string ⟨s11.toArray⟩) w:=fun w=>by rw [<-Z11.out];exact add_lists _ _ (by have:=Z11.out;omega) w
 have HLK:Hid ((listE intE e.knows).length<=50000000):=hid (by have:=nums_list_le e.knows;omega)
 have HLY:Hid ((listE intE e.keys).length<=50000000):=hid (by have:=nums_list_le e.keys;omega)
 have PZ:=hid pz;have HE2:=hid e2;have HPL:=hid hpl;have HLEN:=hid hlen
 obtain ⟨W0,hW0⟩:∃ W0,W0=w.alloc (.cells (en13 e a1 a2 a3 c1 c2 c3) 72 (0,0)):=⟨_,rfl⟩
 have hb:W0.heap[w.heap.size]? = some (.cells (en13 e a1 a2 a3 c1 c2 c3) 72 (0,0)):=by rw [hW0];exact heap_alloc_new
 have u0:Upd (fun _=>False) w W0:=by rw [hW0];exact (Upd.refl _ _).alloc _
 have HB:=hid hb;have U:=hid u0;have HW0:=hid hW0
 clear hr hR hw ht pz e2 hpl hlen hs2 i0 i1 i2 i4 i5 i6 i11 htx hW0 hb u0 z1 zl1 Z1 z2 zl2 Z2 z3 zl3 Z3 z4 zl4 Z4 z5 zl5 Z5 z6 zl6 Z6 z7 zl7 Z7 z8 zl8 Z8 z9 zl9 Z9 z10 zl10 Z10 z11 zl11 Z11
 unfold enV
 go_enter Tryz.func108,Tryz.ntmps108
 go_wp2_with fail
 have hW:=HW0.out
 unfold en13 at hW
 rw [<-hW]
 clear hW HW0
 refine (rright_any e a1 a2 a3 c1 c2 c3 (· < w.heap.size) _ (HR.out.keep U.out)).mono ?_
 rintro en wR ⟨rfl,u⟩
 rw [decide_eq_true HRT.out]
 have hb:=(u.block _ (heap_lt HB.out) id).trans HB.out
 have UR:=hid (U.out.trans u)
 have HBR:=hid hb
 clear u
 go_wp2_with fail
 have hk:∀ p:UW wR,Calls Tryz.prog 175 #[.slice a1 e.knows.length c1] p.w fun e' w'=>e'=.returned (.string ⟨(numsE e.knows).toArray⟩)/\Upd (fun _=>False) p.w w':=fun p=>qNums_any _ e.knows _ (rep_keep HR.out.knows (UR.out.trans p.u)) HWF.out.knows.2 HLK.out
 obtain ⟨d0,d1,d2,d3,_,_,_,_,_,_,_,_,_⟩:=cells13 hb
 have e0:=fun p:UW wR=>p.cell d0
 have e1:=fun p:UW wR=>p.cell d1
 have e2:=fun p:UW wR=>p.cell d2
 have e3:=fun p:UW wR=>p.cell d3
 refine region_upd (by kernel_rfl) (by kernel_rfl) ?_
 repeat (go_big_quiet_step ((first | (go_at_call 163;with_reducible exact Calls.upd_of (qNum_any e.author I0.out _)) | (go_at_call 163;with_reducible exact Calls.upd_of (qNum_any e.seq I1.out _)) | (go_at_call 163;with_reducible exact Calls.upd_of (qNum_any e.day I2.out _)) | (go_at_call 175;with_reducible exact Calls.upd_of (hk _)))))
 refine wpQuiet_nil ?_
 intro w4 hw1
 obtain ⟨pw,hpw⟩:=hw1
 have uq:Upd (fun _=>False) wR w4:=by rw [hpw];exact pw.u
 clear hpw pw d0 e0 d1 e1 d2 e2 d3 e3
 clear hk
 have hb:=(uq.block _ (heap_lt hb) id).trans hb
 have UN:=hid (UR.out.trans uq)
 obtain ⟨wA,hW⟩:∃ z,z=w4:=⟨_,rfl⟩
 subst hW
 replace UR:=UN
 clear uq UN
 clear za1 za2 za3
 go_wp2_with fail
 obtain ⟨_,_,_,_,d4,d5,d6,_,_,_,_,_,_⟩:=cells13 hb
 have e4:=fun p:UW wA=>p.cell d4
 have e5:=fun p:UW wA=>p.cell d5
 have e6:=fun p:UW wA=>p.cell d6
 refine region_upd (by kernel_rfl) (by kernel_rfl) ?_
 repeat (go_big_quiet_step ((first | (go_at_call 163;with_reducible exact Calls.upd_of (qNum_any e.kind I4.out _)) | (go_at_call 163;with_reducible exact Calls.upd_of (qNum_any e.circle I5.out _)) | (go_at_call 163;with_reducible exact Calls.upd_of (qNum_any e.who I6.out _)))))
 refine wpQuiet_nil ?_
 intro w4 hw1
 obtain ⟨pw,hpw⟩:=hw1
 have uq:Upd (fun _=>False) wA w4:=by rw [hpw];exact pw.u
 clear hpw pw d4 e4 d5 e5 d6 e6
 have hb:=(uq.block _ (heap_lt hb) id).trans hb
 have UN:=hid (UR.out.trans uq)
 obtain ⟨wB,hW⟩:∃ z,z=w4:=⟨_,rfl⟩
 subst hW
 replace UR:=UN
 clear uq UN
 clear za4 za5 za6
 go_wp2_with fail
 have hk:∀ p:UW wB,Calls Tryz.prog 175 #[.slice a2 e.keys.length c2] p.w fun e' w'=>e'=.returned (.string ⟨(numsE e.keys).toArray⟩)/\Upd (fun _=>False) p.w w':=fun p=>qNums_any _ e.keys _ (rep_keep HR.out.keys (UR.out.trans p.u)) HWF.out.keys.2 HLY.out
 obtain ⟨_,_,_,_,_,_,_,d7,d8,d9,d10,d11,_⟩:=cells13 hb
 have e7:=fun p:UW wB=>p.cell d7
 have e8:=fun p:UW wB=>p.cell d8
 have e9:=fun p:UW wB=>p.cell d9
 have e10:=fun p:UW wB=>p.cell d10
 have e11:=fun p:UW wB=>p.cell d11
 refine region_upd (by kernel_rfl) (by kernel_rfl) ?_
 repeat (go_big_quiet_step ((first | (go_at_call 176;with_reducible exact Calls.upd_of (qInt_any e.n HWF.out.n _)) | (go_at_call 176;with_reducible exact Calls.upd_of (qInt_any e.m HWF.out.m _)) | (go_at_call 176;with_reducible exact Calls.upd_of (qInt_any e.ref HWF.out.ref _)) | (go_at_call 175;with_reducible exact Calls.upd_of (hk _)) | (go_at_call 163;with_reducible exact Calls.upd_of (qNum_any (e.spans.length:Int) I11.out _)))))
 refine wpQuiet_nil ?_
 intro w4 hw1
 obtain ⟨pw,hpw⟩:=hw1
 have uq:Upd (fun _=>False) wB w4:=by rw [hpw];exact pw.u
 clear hpw pw d7 e7 d8 e8 d9 e9 d10 e10 d11 e11
 clear hk
 have hb:=(uq.block _ (heap_lt hb) id).trans hb
 have UN:=hid (UR.out.trans uq)
 obtain ⟨wC,hW⟩:∃ z,z=w4:=⟨_,rfl⟩
 subst hW
 replace UR:=UN
 clear uq UN
 clear za7 za8 za9 za10 za11
 have HB0:=hid hb
 rw [<-PZ.out]
 clear PZ hb I0 I1 I2 I4 I5 I6 I11 HB HBR
 go_wp2_with fail
 go_loopg [3,4] e.spans.length (fun gg s3 s4 wr=>∃ k:Nat,k<=e.spans.length/\gg=e.spans.length-k/\s4=.int .i64 k/\s3=.string ⟨(preT e k).toArray⟩/\Upd (fun _=>False) wC wr)
 case atStart=>exact ⟨0,Nat.zero_le _,rfl,rfl,rfl,Upd.refl _ _⟩
 case round =>
  obtain ⟨k,hk,hg,rfl,rfl,u⟩:=hrel
  have HG:=hid hg;have UU:=hid u
  have hb:=(u.block _ (heap_lt HB0.out) id).trans HB0.out
  have HBW:=hid hb
  have hpk:=HPL.out k
  have hlen:=HLEN.out
  obtain ⟨_,_,_,_,_,_,_,_,_,_,_,d11,d12⟩:=cells13 hb
  clear hg u
  by_cases hlt:k<e.spans.length
  case neg =>
   obtain rfl:k=e.spans.length:=by omega
   have ya:∀ w,(Op.stringOp .add ⟨(preT e e.spans.length).toArray⟩ ⟨(textE e.text).toArray⟩).run Tryz.prog w=.ok (.string ⟨(encE e).toArray⟩) w:=fun w=>by rw [<-HE2.out];exact add_lists _ _ (by omega) w
   clear hb hpk hlen
   go_wp2_with (go_at_call 164;refine (qText_any e.text (Nat.le_trans HTX.out (by decide)) _).mono ?_;rintro ex wx ⟨rfl,u⟩;have UT:=hid u;clear u d11 d12)
   go_ret
   exact ⟨rfl,(UR.out.trans UU.out).trans UT.out⟩
  have hlti:(k:Int)<e.spans.length:=by omega
  have hk1:(k:Int)+1<=1000:=by omega
  have hsp:=HR.out.spans
  obtain ⟨b,o,hae,hbA,hel⟩:=slice_at hsp (by omega)
  obtain ⟨wfs,m0,m1,m2⟩:=sp_cells hel hlt
  have hbl:b<w.heap.size:=World.block_lt_of_cell? _ _ m0
  have uz:=UR.out.trans UU.out
  have m0:=cell_kept m0 (uz.block b hbl id)
  have m1:=cell_kept m1 (uz.block b hbl id)
  have m2:=cell_kept m2 (uz.block b hbl id)
  have hps:=preT_succ e hlt
  have hp1:=HPL.out (k+1)
  have oks:=HS2.out _ (List.getElem_mem hlt)
  subst hae
  clear hel hsp uz
  obtain ⟨x,hx⟩:∃ x,e.spans[k]=x:=⟨_,rfl⟩
  rw [hx] at m0 m1 m2 hps wfs
  have x0:=hid (show I64 x.mark from wfi wfs.mark);have x1:=hid (show I64 x.fr from wfi wfs.fr);have x2:=hid (show I64 x.to from wfi wfs.upto)
  obtain ⟨P,hP⟩:∃ P,preT e k=P:=⟨_,rfl⟩
  rw [hP] at hps hpk ⊢
  obtain ⟨g1,y1⟩:∃ g,P++numE x.mark=g:=⟨_,rfl⟩
  obtain ⟨g2,y2⟩:∃ g,g1++numE x.fr=g:=⟨_,rfl⟩
  have y3:g2++numE x.to=preT e (k+1):=by rw [hps,<-y2,<-y1];unfold spanE;simp [List.append_assoc]
  have yl1:g1.length=P.length+(numE x.mark).length:=by rw [<-y1,List.length_append]
  have yl2:g2.length=g1.length+(numE x.fr).length:=by rw [<-y2,List.length_append]
  have yl3:(preT e (k+1)).length=g2.length+(numE x.to).length:=by rw [<-y3,List.length_append]
  have Y1:=hid y1;have Y2:=hid y2;have Y3:=hid y3
  have ya1:∀ w,(Op.stringOp .add ⟨P.toArray⟩ ⟨(numE x.mark).toArray⟩).run Tryz.prog w=.ok (.string ⟨g1.toArray⟩) w:=fun w=>by rw [<-Y1.out];exact add_lists _ _ (by omega) w
  have ya2:∀ w,(Op.stringOp .add ⟨g1.toArray⟩ ⟨(numE x.fr).toArray⟩).run Tryz.prog w=.ok (.string ⟨g2.toArray⟩) w:=fun w=>by rw [<-Y2.out];exact add_lists _ _ (by omega) w
  have ya3:∀ w,(Op.stringOp .add ⟨g2.toArray⟩ ⟨(numE x.to).toArray⟩).run Tryz.prog w=.ok (.string ⟨(preT e (k+1)).toArray⟩) w:=fun w=>by rw [<-Y3.out];exact add_lists _ _ (by omega) w
  clear hps hp1 hx hP y1 y2 y3 yl1 yl2 yl3 Y1 Y2 Y3 wfs oks hpk hlen hb d12
  go_wp2_with fail
  have ed:=fun p:UW wr=>p.cell d11
  have em0:=fun p:UW wr=>p.cell m0
  have em1:=fun p:UW wr=>p.cell m1
  have em2:=fun p:UW wr=>p.cell m2
  refine region_upd (by kernel_rfl) (by kernel_rfl) ?_
  repeat (go_big_quiet_step ((first | (go_at_call 163;with_reducible exact Calls.upd_of (qNum_any x.mark x0.out _)) | (go_at_call 163;with_reducible exact Calls.upd_of (qNum_any x.fr x1.out _)) | (go_at_call 163;with_reducible exact Calls.upd_of (qNum_any x.to x2.out _)))))
  refine wpQuiet_nil ?_
  intro w4 hw1
  obtain ⟨pw,hpw⟩:=hw1
  have uq:Upd (fun _=>False) wr w4:=by rw [hpw];exact pw.u
  have U4:=hid (UU.out.trans uq)
  clear hpw pw ed em0 em1 em2 ya1 ya2 ya3 uq d11 m0 m1 m2
  go_wp2_with fail
  go_roundg (e.spans.length-(k+1))
  case measure=>have:=HG.out;omega
  case rel=>exact ⟨k+1,by omega,rfl,by go_num,rfl,U4.out⟩
end Go.Proofs.YtjkmalddfoemhaaGreatDoor
namespace Go.Proofs.YtjkmalddfoemhaaGreatDoor
open Go.RowKit Go.Deep
def poV (p:Po) (a1 a2 a3:Option Addr) (c1 c2 c3:Nat):Value:=.agg (poC p a1 a2 a3 c1 c2 c3).toArray
theorem po_box (p:Po) (a1 a2 a3:Option Addr) (c1 c2 c3:Nat) (w:World):(Instr.box 74 (poV p a1 a2 a3 c1 c2 c3)).run Tryz.prog w=.ok (.pointer (some ⟨w.heap.size,0,none⟩)) (w.alloc (.cells (poC p a1 a2 a3 c1 c2 c3).toArray 74 (0,0))):=by
 unfold poV poC en13
 unfold Instr.box
 go_simp
theorem words_any (p:Po) (a1 a2 a3:Option Addr) (c1 c2 c3:Nat) (w:World) (hr:EnRep (· < w.heap.size) w p.en a1 a2 a3 c1 c2 c3) (hw:EnWf p.en) (hl:p.raw.length<=maxLen) :
 Calls Tryz.prog 44 #[poV p a1 a2 a3 c1 c2 c3] w fun e w'=>e=.returned (.string ⟨(wordsF p).toArray⟩)/\Upd (fun _=>False) w w':=by
 obtain ⟨W,hW⟩:∃ W,W=w.alloc (.cells (poC p a1 a2 a3 c1 c2 c3).toArray 74 (0,0)):=⟨_,rfl⟩
 have hb:W.heap[w.heap.size]? = some (.cells (poC p a1 a2 a3 c1 c2 c3).toArray 74 (0,0)):=by rw [hW];exact heap_alloc_new
 have u:Upd (fun _=>False) w W:=by rw [hW];exact (Upd.refl _ _).alloc _
 have m1:W.cell? ⟨w.heap.size,1,none⟩=some (.int .i64 p.en.author):=by rw [cell_of_block hb];rfl
 have m2:W.cell? ⟨w.heap.size,2,none⟩=some (.int .i64 p.en.seq):=by rw [cell_of_block hb];rfl
 have m3:W.cell? ⟨w.heap.size,3,none⟩=some (.int .i64 p.en.day):=by rw [cell_of_block hb];rfl
 have m4:W.cell? ⟨w.heap.size,4,none⟩=some (.slice a1 p.en.knows.length c1):=by rw [cell_of_block hb];rfl
 have m5:W.cell? ⟨w.heap.size,5,none⟩=some (.int .i64 p.en.kind):=by rw [cell_of_block hb];rfl
 have m6:W.cell? ⟨w.heap.size,6,none⟩=some (.int .i64 p.en.circle):=by rw [cell_of_block hb];rfl
 have m7:W.cell? ⟨w.heap.size,7,none⟩=some (.int .i64 p.en.who):=by rw [cell_of_block hb];rfl
 have m8:W.cell? ⟨w.heap.size,8,none⟩=some (.int .i64 p.en.n):=by rw [cell_of_block hb];rfl
 have m9:W.cell? ⟨w.heap.size,9,none⟩=some (.int .i64 p.en.m):=by rw [cell_of_block hb];rfl
 have m10:W.cell? ⟨w.heap.size,10,none⟩=some (.int .i64 p.en.ref):=by rw [cell_of_block hb];rfl
 have m11:W.cell? ⟨w.heap.size,11,none⟩=some (.slice a2 p.en.keys.length c2):=by rw [cell_of_block hb];rfl
 have m12:W.cell? ⟨w.heap.size,12,none⟩=some (.slice a3 p.en.spans.length c3):=by rw [cell_of_block hb];rfl
 have m13:W.cell? ⟨w.heap.size,13,none⟩=some (.string ⟨p.en.text.toArray⟩):=by rw [cell_of_block hb];rfl
 have m14:W.cell? ⟨w.heap.size,14,none⟩=some (.string ⟨p.raw.toArray⟩):=by rw [cell_of_block hb];rfl
 have U:=hid u;have HWW:=hid hW
 have BOX:=hid (po_box p a1 a2 a3 c1 c2 c3 w)
 have REP:=hid ((hr.keep u).wide fun g hg=>Nat.lt_of_lt_of_le hg u.size)
 have WF:=hid hw
 have hl:p.raw.length<=9223372036854775807:=hl
 clear hW hb u hr hw
 by_cases h0:p.raw=[]
 · have t1:(p.raw==[])=true:=by rw [h0];rfl
   have HR:=hid (show wordsF p=txtF p.en from if_pos h0)
   have t2:(p.raw=[])=True:=eq_true h0
   clear h0
   go_enter Tryz.func44,Tryz.ntmps44
   go_upto_region 0 with (fail)
   refine wp_region_lit ?_
   refine op_box rfl _ _ rfl rfl BOX.out ?_
   rw [<-HWW.out]
   refine op_assign rfl _ rfl rfl ?_
   refine wpList_nil ?_
   (try go_frame)
   go_wp2_with fail
   refine (rtext_any p.en a1 a2 a3 c1 c2 c3 _ REP.out WF.out).mono ?_
   rintro e w1 ⟨rfl,u⟩
   have U1:=hid u
   clear u
   go_wp2_with fail
   go_ret
   exact ⟨by rw [HR.out];rfl,U.out.trans U1.out⟩
 · have t1:(p.raw==[])=false:=beq_eq_false_iff_ne.2 h0
   have HR:=hid (show wordsF p=p.raw from if_neg h0)
   have t2:(p.raw=[])=False:=eq_false h0
   clear h0
   go_enter Tryz.func44,Tryz.ntmps44
   go_upto_region 0 with (fail)
   refine wp_region_lit ?_
   refine op_box rfl _ _ rfl rfl BOX.out ?_
   rw [<-HWW.out]
   refine op_assign rfl _ rfl rfl ?_
   refine wpList_nil ?_
   (try go_frame)
   go_wp2_with fail
   go_ret
   exact ⟨by rw [HR.out];rfl,U.out⟩
end Go.Proofs.YtjkmalddfoemhaaGreatDoor
namespace Go.Proofs.YtjkmalddfoemhaaGreatDoor
open Go.RowKit Go.Deep
theorem turned_1 (s:Sg) (_:0<=s.key/\s.key<=1000) (hm:0<=s.mark/\s.mark<=1000000) (_:s.text.length<=1000000) (w:World) :
 Calls Tryz.prog 92 #[.agg #[.int .i64 s.key,.string ⟨s.text.toArray⟩,.int .i64 s.mark],.int .i64 1] w fun e w'=>e=.returned (.agg #[.int .i64 s.key,.string ⟨s.text.toArray⟩,.int .i64 (s.mark+1)])/\Upd (fun _=>False) w w':=by
 have b1:s.mark+1<=9223372036854775807:=by omega
 have b2:-9223372036854775808<=s.mark+1:=by omega
 have b3:(s.mark+1)<=2000000:=by omega
 clear hm
 go_enter Tryz.func92,Tryz.ntmps92
 go_wp2_with fail
 refine bodyPost_ret (v:=.agg #[.int .i64 s.key,.string ⟨s.text.toArray⟩,.int .i64 (s.mark+1)]) (by rw [results_cell1 rfl];go_simp) rfl ?_
 exact ⟨rfl,by repeat (first | exact Upd.refl _ _ | (refine Upd.alloc ?_ _) | (refine Upd.setCell ?_ _ _ (.inr ?_)) | (simp;done) | (simp;omega))⟩
theorem turned_2 (s:Sg) (_:0<=s.key/\s.key<=1000) (_:0<=s.mark/\s.mark<=1000000) (ht:s.text.length<=1000000) (w:World) :
 Calls Tryz.prog 92 #[.agg #[.int .i64 s.key,.string ⟨s.text.toArray⟩,.int .i64 s.mark],.int .i64 2] w fun e w'=>e=.returned (.agg #[.int .i64 s.key,.string ⟨(s.text++[120]).toArray⟩,.int .i64 s.mark])/\Upd (fun _=>False) w w':=by
 obtain ⟨t2,ht2⟩:∃ t2,s.text++[120]=t2:=⟨_,rfl⟩
 have za:∀ w,(Op.stringOp .add ⟨s.text.toArray⟩ ⟨#[120]⟩).run Tryz.prog w=.ok (.string ⟨t2.toArray⟩) w:=fun w=>by rw [<-ht2];exact add_lists s.text [120] (by simp;omega) w
 rw [ht2]
 clear ht2
 clear ht
 go_enter Tryz.func92,Tryz.ntmps92
 go_wp2_with fail
 refine bodyPost_ret (v:=.agg #[.int .i64 s.key,.string ⟨t2.toArray⟩,.int .i64 s.mark]) (by rw [results_cell1 rfl];go_simp) rfl ?_
 exact ⟨rfl,by repeat (first | exact Upd.refl _ _ | (refine Upd.alloc ?_ _) | (refine Upd.setCell ?_ _ _ (.inr ?_)) | (simp;done) | (simp;omega))⟩
theorem turned_3 (s:Sg) (hk:0<=s.key/\s.key<=1000) (_:0<=s.mark/\s.mark<=1000000) (_:s.text.length<=1000000) (w:World) :
 Calls Tryz.prog 92 #[.agg #[.int .i64 s.key,.string ⟨s.text.toArray⟩,.int .i64 s.mark],.int .i64 3] w fun e w'=>e=.returned (.agg #[.int .i64 (s.key+1),.string ⟨s.text.toArray⟩,.int .i64 s.mark])/\Upd (fun _=>False) w w':=by
 have b1:s.key+1<=9223372036854775807:=by omega
 have b2:-9223372036854775808<=s.key+1:=by omega
 have b3:(s.key+1)<=2000000:=by omega
 clear hk
 go_enter Tryz.func92,Tryz.ntmps92
 go_wp2_with fail
 refine bodyPost_ret (v:=.agg #[.int .i64 (s.key+1),.string ⟨s.text.toArray⟩,.int .i64 s.mark]) (by rw [results_cell1 rfl];go_simp) rfl ?_
 exact ⟨rfl,by repeat (first | exact Upd.refl _ _ | (refine Upd.alloc ?_ _) | (refine Upd.setCell ?_ _ _ (.inr ?_)) | (simp;done) | (simp;omega))⟩
theorem turned_4 (s:Sg) {odd:Int} (h1:odd≠1) (h2:odd≠2) (h3:odd≠3) (_:0<=s.key/\s.key<=1000) (_:0<=s.mark/\s.mark<=1000000) (_:s.text.length<=1000000) (w:World) :
 Calls Tryz.prog 92 #[.agg #[.int .i64 s.key,.string ⟨s.text.toArray⟩,.int .i64 s.mark],.int .i64 odd] w fun e w'=>e=.returned (.agg #[.int .i64 s.key,.string ⟨s.text.toArray⟩,.int .i64 s.mark])/\Upd (fun _=>False) w w':=by
 have t1:(odd==1)=false:=beq_eq_false_iff_ne.2 h1
 have t2:(odd==2)=false:=beq_eq_false_iff_ne.2 h2
 have t3:(odd==3)=false:=beq_eq_false_iff_ne.2 h3
 skip
 go_enter Tryz.func92,Tryz.ntmps92
 go_wp2_with fail
 refine bodyPost_ret (v:=.agg #[.int .i64 s.key,.string ⟨s.text.toArray⟩,.int .i64 s.mark]) (by rw [results_cell1 rfl];go_simp) rfl ?_
 exact ⟨rfl,by repeat (first | exact Upd.refl _ _ | (refine Upd.alloc ?_ _) | (refine Upd.setCell ?_ _ _ (.inr ?_)) | (simp;done) | (simp;omega))⟩
theorem turned_any (s:Sg) (odd:Int) (hk:0<=s.key/\s.key<=1000) (hm:0<=s.mark/\s.mark<=1000000) (ht:s.text.length<=1000000) (w:World) :
 Calls Tryz.prog 92 #[.agg #[.int .i64 s.key,.string ⟨s.text.toArray⟩,.int .i64 s.mark],.int .i64 odd] w fun e w'=>e=.returned (sgV (turnedF s odd))/\Upd (fun _=>False) w w':=by
 by_cases h1:odd=1
 · subst h1
   exact turned_1 s hk hm ht w
 by_cases h2:odd=2
 · subst h2
   exact turned_2 s hk hm ht w
 by_cases h3:odd=3
 · subst h3
   exact turned_3 s hk hm ht w
 · have e:turnedF s odd=s:=by unfold turnedF;rw [if_neg h1,if_neg h2,if_neg h3]
   rw [e]
   exact turned_4 s h1 h2 h3 hk hm ht w
theorem po_index {g o cap n k:Nat} (hk:k<n) (_:n<=cap) (_:cap<=9223372036854775807) (w:World):(Instr.indexAt 22 (.slice (some ⟨g,o,none⟩) n cap) (.int .i64 k)).run Tryz.prog w=.ok (.pointer (some ⟨g,o+k*16,none⟩)) w:=by
 have hki:(k:Int)<n:=by omega
 unfold Instr.indexAt
 go_simp
theorem po_field0 (g o:Nat) (w:World):(Instr.fieldAt 74 (.pointer (some ⟨g,o,none⟩)) 0).run Tryz.prog w=.ok (.pointer (some ⟨g,o,none⟩)) w:=by
 unfold Instr.fieldAt
 go_simp
theorem po_field3 (g o:Nat) (w:World):(Instr.fieldAt 74 (.pointer (some ⟨g,o,none⟩)) 3).run Tryz.prog w=.ok (.pointer (some ⟨g,o+15,none⟩)) w:=by
 unfold Instr.fieldAt
 go_simp
theorem int_load {w:World} {p:Addr} {x:Int} (h:w.cell? p=some (.int .i64 x)):(Instr.loadAt 3 (.pointer (some p))).run Tryz.prog w=.ok (.int .i64 x) w:=by
 unfold Instr.loadAt
 go_simp
theorem po_load {A:Nat->Prop} {w:World} {b q:Nat} {p:Po} {a1 a2 a3:Option Addr} {c1 c2 c3:Nat} (h:PoAt w A b q p a1 a2 a3 c1 c2 c3):(Instr.loadAt 74 (.pointer (some ⟨b,q,none⟩))).run Tryz.prog w=.ok (poV p a1 a2 a3 c1 c2 c3) w:=by
 have k:=h.cells
 have m0:w.cell? ⟨b,q,none⟩=some (.int .i64 p.key):=k 0 (by decide)
 have m1:w.cell? ⟨b,q+1,none⟩=some (.int .i64 p.en.author):=k 1 (by decide)
 have m2:w.cell? ⟨b,q+2,none⟩=some (.int .i64 p.en.seq):=k 2 (by decide)
 have m3:w.cell? ⟨b,q+3,none⟩=some (.int .i64 p.en.day):=k 3 (by decide)
 have m4:w.cell? ⟨b,q+4,none⟩=some (.slice a1 p.en.knows.length c1):=k 4 (by decide)
 have m5:w.cell? ⟨b,q+5,none⟩=some (.int .i64 p.en.kind):=k 5 (by decide)
 have m6:w.cell? ⟨b,q+6,none⟩=some (.int .i64 p.en.circle):=k 6 (by decide)
 have m7:w.cell? ⟨b,q+7,none⟩=some (.int .i64 p.en.who):=k 7 (by decide)
 have m8:w.cell? ⟨b,q+8,none⟩=some (.int .i64 p.en.n):=k 8 (by decide)
 have m9:w.cell? ⟨b,q+9,none⟩=some (.int .i64 p.en.m):=k 9 (by decide)
 have m10:w.cell? ⟨b,q+10,none⟩=some (.int .i64 p.en.ref):=k 10 (by decide)
 have m11:w.cell? ⟨b,q+11,none⟩=some (.slice a2 p.en.keys.length c2):=k 11 (by decide)
 have m12:w.cell? ⟨b,q+12,none⟩=some (.slice a3 p.en.spans.length c3):=k 12 (by decide)
 have m13:w.cell? ⟨b,q+13,none⟩=some (.string ⟨p.en.text.toArray⟩):=k 13 (by decide)
 have m14:w.cell? ⟨b,q+14,none⟩=some (.string ⟨p.raw.toArray⟩):=k 14 (by decide)
 have m15:w.cell? ⟨b,q+15,none⟩=some (.int .i64 p.odd):=k 15 (by decide)
 clear k h
 unfold poV poC en13
 unfold Instr.loadAt
 go_simp
end Go.Proofs.YtjkmalddfoemhaaGreatDoor
