/- Walks: posts played: a ring, signatures, and a history that takes them (play). -/
import Derived.Test.YtjkmalddfoemhaaGreatDoorRm
set_option maxRecDepth 100000
set_option maxHeartbeats 8000000
namespace Go.Proofs.YtjkmalddfoemhaaGreatDoor
open Go.RowKit Go.Deep
theorem row_lt {w:World} {B:Nat} {v:Value} {n s:Nat} {e:TypeId} {xs:List Value} (h:w.ownsRow B e s v n xs):∀ g,v.ownBlock=some g->B<=g/\g<w.heap.size:=by
 intro g hg
 rcases ownsRow_fits h with ⟨rfl,_⟩ | ⟨g',cap,rfl,h1,h2,_⟩
 · cases hg
 · cases hg;exact ⟨h1,h2⟩
theorem fewL_words {l:List Po} {n:Nat} (h:FewL l n) (hk:∀ p∈l,PoOk p):∀ p∈l,(wordsF p).length<=4000:=fun p hp=>words_len ((h.2 p hp).2.wf (hk p hp).en) (Nat.le_trans (h.2 p hp).1 (by decide))
theorem pos_ok {A:Nat->Prop} {w:World} {v:Value} {l:List Po} (h:kPos.rep A w [v] l):∀ p∈l,PoOk p:=by
 obtain ⟨a,cap,rfl,_,_,h3⟩:=slice_open h
 intro p hp
 obtain ⟨i,hi,rfl⟩:=List.getElem_of_mem hp
 obtain ⟨b,o,_,_,hel⟩:=h3 (Nat.lt_of_le_of_lt (Nat.zero_le _) hi)
 obtain ⟨_,_,_,_,_,_,q⟩:=po_at hel hi
 exact q.ok
def playF (l:List Po):Hs:=addAll rdF (signedF l).1 [] (signedF l).2
def playTo (R:Rg) (sl:List Sg) (k:Nat):Hs:=addAll rdF R [] (sl.take k)
theorem playTo_succ {R:Rg} {sl:List Sg} {k:Nat} (hk:k<sl.length):playTo R sl (k+1)=(addF rdF R (playTo R sl k) sl[k]).1:=by
 unfold playTo addAll
 rw [List.take_succ_eq_append_getElem hk,List.foldl_append];rfl
structure PlayAt (w0 w:World) (O Or:Nat->Prop) (b r:Nat) (v:Value) (l:List Po):Prop where
 pre:HPre w O Or b r (playF l) (signedF l).1
 sgs:SgsAt w w0.heap.size v (signedF l).2
 own:∀ k,O k->w0.heap.size<=k
 ring:∀ k,Or k->w0.heap.size<=k
 apart:∀ g,v.ownBlock=some g->¬O g
 small:∀ s∈(signedF l).2,SgSmall s
 len:(signedF l).2.length=l.length
 upd:Upd (fun _=>False) w0 w
def PlayPost (l:List Po) (w:World) (e:Ending) (w':World):Prop :=
 ∃ r v b O Or,e=.returned (.tuple #[v,.pointer (some ⟨b,0,none⟩)])/\PlayAt w w' O Or b r v l
theorem play_any (v:Value) (l:List Po) (w:World) (E:Env w) (hu:UsesIn w) (h:kPos.rep (· < w.heap.size) w [v] l) (hl:l.length<=60) (hf:FewL l l.length) (hz:6<=w.heap.size) :
 Calls Tryz.prog 40 #[v] w (PlayPost l w):=by
 have HW4:=hid (fewL_words hf (pos_ok h))
 obtain ⟨a,cap,rfl,p1,p2,p3⟩:=slice_open h
 have p2:cap<=9223372036854775807:=p2
 have P3:=hid p3;have HF:=hid hf.2;have HZ:=hid hz;have HE:=hid E;have HU:=hid hu
 have hl100:=hid hl
 have hl:l.length<=100:=by omega
 clear h p3 hf hz E hu
 go_enter Tryz.func40,Tryz.ntmps40
 go_wp2_with fail
 refine (rnew_any w HZ.out).mono ?_
 rintro e w1 ⟨rb,rfl,hrb,hri,u⟩
 have U1:=hid u;have HRI:=hid hri
 clear u hri
 go_wp2_with fail
 refine (hnew_any rb _ (Nat.le_trans HZ.out U1.out.size)).mono ?_
 rintro e w2 ⟨hb,rfl,hhb,hn,u⟩
 obtain ⟨O0,hO0⟩:∃ O:Nat->Prop,(fun k=>w1.heap.size<=k/\k<w2.heap.size)=O:=⟨_,rfl⟩
 rw [hO0] at hn
 have HO0:=hid (show ∀ k,O0 k->w1.heap.size<=k by rw [<-hO0];exact fun k hk=>hk.1)
 have HNH:=hid hn;have U2:=hid u
 clear hn u hO0 hhb
 go_wp2_with fail
 go_loopg [6,7] l.length (fun gg s6 s7 wr=>∃ k:Nat,k<=l.length/\gg=l.length-k/\s7=.int .i64 k/\(∃ Or,IsRing wr Or rb (signedTo l k).1/\(∀ j,Or j->w.heap.size<=j)/\(∀ g,Value.ownBlock s6=some g->¬Or g)/\∀ j,Or j->¬O0 j)/\SgsAt wr w.heap.size s6 (signedTo l k).2/\IsHis wr O0 hb rb []/\(∀ g,Value.ownBlock s6=some g->¬O0 g)/\Upd (fun _=>False) w wr)
 case atStart=>exact ⟨0,Nat.zero_le _,rfl,rfl,⟨_,HRI.out.keep U2.out,fun j hj=>hj.1,fun g hg=>(nomatch hg),fun j hj q=>by have:=HO0.out j q;omega⟩,SgsAt.nil,HNH.out,fun g hg=>(nomatch hg),U1.out.trans U2.out⟩
 case round =>
  obtain ⟨k,hk,hg,rfl,hr,hs,hi,hap,u⟩:=hrel
  have UU:=hid u;have HG:=hid hg;have HR:=hid hr;have SG:=hid hs;have HI:=hid hi;have HAP:=hid hap
  clear u hg hr hs hi hap
  by_cases hlt:k<l.length
  case neg =>
   have hlti:¬(k:Int)<l.length:=by omega
   have HK:=hid (show signedTo l k=signedF l by rw [<-signedTo_all,show k=l.length by omega])
   have HSL:=hid (signed_len l)
   have HSM:=hid (signed_small l (by omega) HW4.out)
   obtain ⟨Or,s1,s2,s3,s4⟩:=HR.out
   have s5:=SG.out
   rw [HK.out] at s1 s5
   obtain ⟨R,hR⟩:∃ R,(signedF l).1=R:=⟨_,rfl⟩
   obtain ⟨sl,hsl⟩:∃ sl,(signedF l).2=sl:=⟨_,rfl⟩
   have HRE:=hid hR;have HSLE:=hid hsl
   rw [hR] at s1
   rw [hsl] at s5
   obtain ⟨aS,cs,e7,hs1,hs2⟩:=own_slice s5
   have hs2:cs<=9223372036854775807:=hs2
   subst e7
   have hsl60:sl.length<=60:=by rw [<-hsl,HSL.out.1];exact hl100.out
   have START:=hid (show ∃ O,HPre wr O Or hb rb (playTo R sl 0) R/\SgsAt wr w.heap.size (.slice aS sl.length cs) sl/\(∀ k,O k->w.heap.size<=k)/\(∀ g,Value.ownBlock (.slice aS sl.length cs)=some g->¬O g)/\Upd (fun _=>False) w wr from
    ⟨O0,⟨HI.out,⟨s1,HE.out.keep0 UU.out,HU.out.keep UU.out,Nat.le_trans HZ.out UU.out.size⟩,His.nil,s4,by rw [<-hR];have:=HSL.out.2;have:=hl100.out;omega⟩,s5,fun k hk=>by have:=HO0.out k hk;have:=U1.out.size;omega,HAP.out,UU.out⟩)
   have HS2:=hid s2
   clear s1 s2 s3 s4 s5 hR hsl HI HAP SG HR UU
   go_wp2_with fail
   go_loopg [8] sl.length (fun gg s8 wx=>∃ k:Nat,k<=sl.length/\gg=sl.length-k/\s8=.int .i64 k/\∃ O,HPre wx O Or hb rb (playTo R sl k) R/\SgsAt wx w.heap.size (.slice aS sl.length cs) sl/\(∀ k,O k->w.heap.size<=k)/\(∀ g,Value.ownBlock (.slice aS sl.length cs)=some g->¬O g)/\Upd (fun _=>False) w wx)
   case atStart=>exact ⟨0,Nat.zero_le _,rfl,rfl,START.out⟩
   case round =>
    obtain ⟨j,hj,hg,rfl,O,q1,q2,q3,q4,q5⟩:=hrel
    have PR:=hid q1;have SG:=hid q2;have OW:=hid q3;have AP:=hid q4;have UU:=hid q5;have HGJ:=hid hg
    clear q1 q2 q3 q4 q5 hg START
    by_cases hlj:j<sl.length
    case neg =>
     have hlji:¬(j:Int)<sl.length:=by omega
     have HPL:=hid (show playTo R sl j=playF l by unfold playTo playF;rw [List.take_of_length_le (by omega),HRE.out,HSLE.out])
     go_wp2_with fail
     go_ret2
     refine ⟨rb,.slice aS sl.length cs,hb,O,Or,rfl,?_,?_,OW.out,HS2.out,AP.out,HSM.out,HSL.out.1,UU.out⟩
     · rw [<-HPL.out,HRE.out];exact PR.out
     · rw [HSLE.out];exact SG.out
    have hlji:(j:Int)<sl.length:=by omega
    have hj1:(j:Int)+1<=1000:=by omega
    obtain ⟨g,cap2,e1,_,_,_,_,hc⟩:=SgsAt.get SG.out (Nat.lt_of_le_of_lt (Nat.zero_le _) hlj)
    cases e1
    obtain ⟨m0,m1,m2⟩:=hc j hlj
    obtain ⟨s,hse⟩:∃ s,sl[j]=s:=⟨_,rfl⟩
    have SM:=hid (show SgSmall s from HSM.out s (by rw [HSLE.out,<-hse];exact List.getElem_mem hlj))
    have STEP:=hid (show playTo R sl (j+1)=(addF rdF R (playTo R sl j) s).1 by rw [playTo_succ hlj,hse])
    rw [hse] at m0 m1 m2
    clear hc hse
    go_wp2_with fail
    refine (add_any (sg_pre PR.out SM.out)).mono ?_
    rintro en y1 ⟨rfl,O',q1,q2,q3⟩
    have P2:=hid (PR.out.grown q3 q1 (PR.out.plain.add s) q2)
    have G2:=hid (ownsRow_upd SG.out q3 AP.out)
    have Q2:=hid q2
    have UY:=hid (UU.out.comp q3 fun i hi e=>by have:=OW.out i e;omega)
    have US:=hid q3.size
    clear q1 q2 q3 m0 m1 m2
    go_wp2_with fail
    go_roundg (sl.length-(j+1))
    case measure=>have:=HGJ.out;omega
    case rel =>
     refine ⟨j+1,by omega,rfl,by go_num,O',?_,G2.out,fun k hk=>?_,fun g hg hk=>?_,UY.out⟩
     · rw [STEP.out];exact P2.out
     · rcases Q2.out k hk with c | c
       · exact OW.out k c
       · have:=UU.out.size;omega
     · rcases Q2.out g hk with c | c
       · exact AP.out g hg c
       · have:=(row_lt SG.out g hg).2;omega
  have hlti:(k:Int)<l.length:=by omega
  have hdl:decide ((k:Int)<l.length)=true:=decide_eq_true hlti
  obtain ⟨b,o,rfl,_,hel⟩:=P3.out (by omega)
  obtain ⟨a1,a2,a3,c1,c2,c3,hpo0⟩:=po_at hel hlt
  have HPO:=hid hpo0
  obtain ⟨p,hp⟩:∃ p,l[k]=p:=⟨_,rfl⟩
  rw [hp] at HPO
  have HFP:=hid (show FewPo p from hp ▸ HF.out _ (List.getElem_mem hlt))
  have HSU:=hid (show signedTo l (k+1)=signStep (signedTo l k) p by rw [signedTo_succ l hlt,hp])
  have HLK:=hid (signedTo_len l k (Nat.le_of_lt hlt))
  clear hel hpo0 hp
  have hk1:(k:Int)+1<=1000:=by omega
  go_upto_region 9 with (fail)
  refine wp_region_g (fun w'=>PoAt w' (· < w.heap.size) b (o+k*16) p a1 a2 a3 c1 c2 c3) 21 (by kernel_rfl) ?_
  have KEEP:=hid (fun (w':World) (u:Upd (fun _=>False) w w')=>(HPO.out.keep u id (fun _ _=>id):PoAt w' (· < w.heap.size) b (o+k*16) p a1 a2 a3 c1 c2 c3))
  obtain ⟨W0,hW0⟩:∃ W0,wr.drew=W0:=⟨_,rfl⟩
  have Y0:=hid (show Upd (fun _=>False) w W0 by rw [<-hW0];exact UU.out.drew)
  have SG0:=hid (show SgsAt W0 w.heap.size u6 (signedTo l k).2 by rw [<-hW0];exact SG.out)
  obtain ⟨Or,s1,s2,s3,s4⟩:=HR.out
  have S4:=hid s4
  have I0:=hid (show IsHis W0 O0 hb rb [] by rw [<-hW0];exact HI.out.keep ((Upd.refl _ _).drew))
  have R0:=hid (show IsRing W0 Or rb (signedTo l k).1 by rw [<-hW0];exact s1.keep ((Upd.refl _ _).drew))
  have S2:=hid s2;have S3:=hid s3
  rw [hW0]
  clear hW0 s1 s2 s3 s4
  have hS:=KEEP.out W0 Y0.out
  refine g_take0 (i:=0) rfl (by kernel_rfl) (by kernel_rfl) (by kernel_rfl) (by decide) (fun _ _ _ h=>h) (yields_move (by kernel_rfl) _ rfl rfl) (fun _=>hS) ?_
  (try simp only [List.getElem_toArray,List.getElem_cons_zero])
  (try go_frame)
  refine g_take0 (i:=1) rfl (by kernel_rfl) (by kernel_rfl) (by kernel_rfl) (by decide) (fun _ _ _ h=>h) (yields_move (by kernel_rfl) _ rfl rfl) (fun _=>hS) ?_
  (try simp only [List.getElem_toArray,List.getElem_cons_zero,List.getElem_cons_succ])
  (try go_frame)
  refine g_take0 (i:=2) rfl (by kernel_rfl) (by kernel_rfl) (by kernel_rfl) (by decide) (fun _ _ _ h=>h) (yields_move (by kernel_rfl) _ rfl rfl) (fun _=>hS) ?_
  (try simp only [List.getElem_toArray,List.getElem_cons_zero,List.getElem_cons_succ])
  (try go_frame)
  refine g_take0 (i:=3) rfl (by kernel_rfl) (by kernel_rfl) (by kernel_rfl) (by decide) (fun _ _ _ h=>h) (yields_move (by kernel_rfl) _ rfl rfl) (fun _=>hS) ?_
  (try simp only [List.getElem_toArray,List.getElem_cons_zero,List.getElem_cons_succ])
  (try go_frame)
  refine g_take0 (i:=4) rfl (by kernel_rfl) (by kernel_rfl) (by kernel_rfl) (by decide) (fun _ _ _ h=>h) (yields_index (by kernel_rfl) _ _ _ rfl rfl rfl (fun w _=>po_index hlt p1 p2 w)) (fun _=>hS) ?_
  (try simp only [List.getElem_toArray,List.getElem_cons_zero,List.getElem_cons_succ])
  (try go_frame)
  refine g_take0 (i:=5) rfl (by kernel_rfl) (by kernel_rfl) (by kernel_rfl) (by decide) (fun _ _ _ h=>h) (yields_field (by kernel_rfl) _ _ _ rfl rfl (fun w _=>po_field0 _ _ w)) (fun _=>hS) ?_
  (try simp only [List.getElem_toArray,List.getElem_cons_zero,List.getElem_cons_succ])
  (try go_frame)
  refine g_take (i:=6) rfl (by kernel_rfl) (by kernel_rfl) (by kernel_rfl) (by kernel_rfl) (fun _ _ _ h=>h) (yields_load (by kernel_rfl) _ _ rfl rfl (fun w hw=>int_load (x:=p.key) (hw.cells 0 (by decide)))) hS ?_
  (try simp only [List.getElem_toArray,List.getElem_cons_zero,List.getElem_cons_succ])
  (try go_frame)
  refine g_take0 (i:=7) rfl (by kernel_rfl) (by kernel_rfl) (by kernel_rfl) (by decide) (fun _ _ _ h=>h) (yields_move (by kernel_rfl) _ rfl rfl) (fun _=>hS) ?_
  (try simp only [List.getElem_toArray,List.getElem_cons_zero,List.getElem_cons_succ])
  (try go_frame)
  refine g_take0 (i:=8) rfl (by kernel_rfl) (by kernel_rfl) (by kernel_rfl) (by decide) (fun _ _ _ h=>h) (yields_move (by kernel_rfl) _ rfl rfl) (fun _=>hS) ?_
  (try simp only [List.getElem_toArray,List.getElem_cons_zero,List.getElem_cons_succ])
  (try go_frame)
  refine g_take0 (i:=9) rfl (by kernel_rfl) (by kernel_rfl) (by kernel_rfl) (by decide) (fun _ _ _ h=>h) (yields_index (by kernel_rfl) _ _ _ rfl rfl rfl (fun w _=>po_index hlt p1 p2 w)) (fun _=>hS) ?_
  (try simp only [List.getElem_toArray,List.getElem_cons_zero,List.getElem_cons_succ])
  (try go_frame)
  refine g_take (i:=10) rfl (by kernel_rfl) (by kernel_rfl) (by kernel_rfl) (by kernel_rfl) (fun _ _ _ h=>h) (yields_load (by kernel_rfl) _ _ rfl rfl (fun w hw=>po_load hw)) hS ?_
  (try simp only [List.getElem_toArray,List.getElem_cons_zero,List.getElem_cons_succ])
  (try go_frame)
  refine g_take0 (i:=13) rfl (by kernel_rfl) (by kernel_rfl) (by kernel_rfl) (by decide) (fun _ _ _ h=>h) (yields_move (by kernel_rfl) _ rfl rfl) (fun _=>hS) ?_
  (try simp only [List.getElem_toArray,List.getElem_cons_zero,List.getElem_cons_succ])
  (try go_frame)
  refine g_take0 (i:=14) rfl (by kernel_rfl) (by kernel_rfl) (by kernel_rfl) (by decide) (fun _ _ _ h=>h) (yields_move (by kernel_rfl) _ rfl rfl) (fun _=>hS) ?_
  (try simp only [List.getElem_toArray,List.getElem_cons_zero,List.getElem_cons_succ])
  (try go_frame)
  refine g_take0 (i:=15) rfl (by kernel_rfl) (by kernel_rfl) (by kernel_rfl) (by decide) (fun _ _ _ h=>h) (yields_index (by kernel_rfl) _ _ _ rfl rfl rfl (fun w _=>po_index hlt p1 p2 w)) (fun _=>hS) ?_
  (try simp only [List.getElem_toArray,List.getElem_cons_zero,List.getElem_cons_succ])
  (try go_frame)
  refine g_take0 (i:=16) rfl (by kernel_rfl) (by kernel_rfl) (by kernel_rfl) (by decide) (fun _ _ _ h=>h) (yields_field (by kernel_rfl) _ _ _ rfl rfl (fun w _=>po_field3 _ _ w)) (fun _=>hS) ?_
  (try simp only [List.getElem_toArray,List.getElem_cons_zero,List.getElem_cons_succ])
  (try go_frame)
  refine g_take (i:=17) rfl (by kernel_rfl) (by kernel_rfl) (by kernel_rfl) (by kernel_rfl) (fun _ _ _ h=>h) (yields_load (by kernel_rfl) _ _ rfl rfl (fun w hw=>int_load (x:=p.odd) (hw.cells 15 (by decide)))) hS ?_
  (try simp only [List.getElem_toArray,List.getElem_cons_zero,List.getElem_cons_succ])
  (try go_frame)
  refine g_op (i:=11) (by kernel_rfl) rfl ?_
  go_wp2_with fail
  refine (words_any p a1 a2 a3 c1 c2 c3 _ (hS.rep.wide fun g hg=>Nat.lt_of_lt_of_le hg Y0.out.size) (HFP.out.2.wf hS.ok.en) hS.ok.raw).mono ?_
  rintro e y1 ⟨rfl,u⟩
  have Y1:=hid (Y0.out.trans u);have V1:=hid u
  clear u
  have hS1:=KEEP.out y1 Y1.out
  obtain ⟨tx,htx⟩:∃ tx,wordsF p=tx:=⟨_,rfl⟩
  have HTX:=hid htx
  have HTL:=hid (show tx.length<=4000 by rw [<-htx];exact words_len (HFP.out.2.wf hS.ok.en) (Nat.le_trans HFP.out.1 (by decide)))
  rw [htx]
  clear htx
  go_wp2_with fail
  try with_reducible refine And.intro (fun _=>hS1) ?_
  refine g_op (i:=12) (by kernel_rfl) rfl ?_
  go_wp2_with fail
  refine (sign_any (R0.out.keep V1.out) p.key tx hS.ok.key (Nat.le_trans HTL.out (by decide)) (by have:=HLK.out.2;omega)).mono ?_
  rintro e y2 ⟨rfl,O2,q1,q2,q3⟩
  obtain ⟨sg,hsg⟩:∃ sg,(signF (signedTo l k).1 p.key tx).2=sg:=⟨_,rfl⟩
  have HSG:=hid hsg
  have HSS:=hid (show (0<=sg.key/\sg.key<=1000)/\(0<=sg.mark/\sg.mark<=1000000)/\sg.text.length<=1000000 by
   have q:=sign_sg (signedTo l k).1 p.key tx
   rw [hsg] at q
   have:=HLK.out.2;have:=HTL.out;have:=hl100.out
   omega)
  rw [hsg]
  have R2:=hid q1;have Q2:=hid q2;have V2:=hid q3
  have Y2:=hid (Y1.out.comp q3 fun i hi e=>by have:=S2.out i e;omega)
  clear hsg q1 q2 q3
  have hS2:=KEEP.out y2 Y2.out
  go_wp2_with fail
  try with_reducible refine And.intro (fun _=>hS2) ?_
  refine g_op (i:=18) (by kernel_rfl) rfl ?_
  go_wp2_with fail
  refine (turned_any sg p.odd HSS.out.1 HSS.out.2.1 HSS.out.2.2 _).mono ?_
  rintro e y3 ⟨rfl,u⟩
  obtain ⟨tg,htg⟩:∃ tg,turnedF sg p.odd=tg:=⟨_,rfl⟩
  have HTG:=hid htg
  rw [htg]
  unfold sgV
  have V3:=hid u
  have Y3:=hid (Y2.out.trans u)
  clear u htg
  have hS3:=KEEP.out y3 Y3.out
  go_wp2_with fail
  try with_reducible refine And.intro (fun _=>hS3) ?_
  refine g_op (i:=19) (by kernel_rfl) rfl ?_
  have own3:=ownsRow_upd (ownsRow_upd (ownsRow_upd SG0.out V1.out fun _ _=>id) V2.out fun g hg=>S3.out g hg) V3.out fun _ _=>id
  obtain ⟨v',w4,r4,o4,u4,n4⟩:=append_one elemSg own3 #[.int .i64 tg.key,.string ⟨tg.text.toArray⟩,.int .i64 tg.mark] rfl (by simp [Value.oneCell']) (by have:=HLK.out.1;unfold maxLen;omega) (by have:=HLK.out.1;omega) Y3.out.size 62 (0,0)
  have O4:=hid o4;have U4:=hid u4;have N4:=hid n4
  have Y4:=hid (Y3.out.comp u4 fun i hi e=>by
   rcases ownsRow_fits own3 with ⟨q,_⟩ | ⟨g',cap,q,q1,_⟩
   · rw [q] at e;cases e
   · rw [q] at e
     injection e with e
     have e:g'=i:=e
     omega)
  clear own3 o4 u4 n4
  have hS3A:=KEEP.out (y3.alloc (.cells #[.int .i64 tg.key,.string ⟨tg.text.toArray⟩,.int .i64 tg.mark] 49 (0,0))) (Y3.out.alloc _)
  have hS4:=KEEP.out w4 Y4.out
  go_wp2_with fail
  try with_reducible refine And.intro (fun _=>hS3A) ?_
  refine g_op (i:=20) (by kernel_rfl) rfl ?_
  refine wpList_append_run rfl _ _ _ _ rfl rfl rfl r4 ?_
  go_wp2_with fail
  try with_reducible refine And.intro (fun _=>hS4) ?_
  refine g_op (i:=21) (by kernel_rfl) rfl ?_
  go_wp2_with fail
  try with_reducible refine And.intro (fun h=>absurd h (by simp)) ?_
  refine g_done (by kernel_rfl) ?_
  go_wp2_with fail
  go_roundg (l.length-(k+1))
  case measure=>have:=HG.out;omega
  case rel =>
   have z0:=Y0.out.size;have z1:=V1.out.size;have z2:=V2.out.size;have z3:=V3.out.size;have z4:=U4.out.size
   have hst:signedTo l (k+1)=((signF (signedTo l k).1 p.key tx).1,(signedTo l k).2++[tg]):=by
    rw [HSU.out]
    unfold signStep
    rw [HTX.out,HSG.out,HTG.out]
   have hown:∀ g,Value.ownBlock u6=some g->w.heap.size<=g/\g<W0.heap.size:=fun g hg=>by
    rcases ownsRow_fits SG0.out with ⟨q,_⟩ | ⟨g',cap,q,q1,q2,_⟩
    · rw [q] at hg;cases hg
    · rw [q] at hg;cases hg;exact ⟨q1,q2⟩
   have hsep:∀ g,Value.ownBlock u6=some g->¬O2 g:=fun g hg q=>by
    rcases Q2.out g q with q | q
    · exact S3.out g hg q
    · have:=(hown g hg).2;omega
   have hisl:=fun j (hj:O0 j)=>(I0.out.lt j hj).2
   refine ⟨k+1,by omega,rfl,by go_num,⟨O2,?_,fun j hj=>?_,fun g hg q=>?_,fun j hj q=>?_⟩,?_,?_,fun g hg q=>?_,Y4.out⟩
   · rw [hst]
     exact (R2.out.keep V3.out).upd U4.out fun j hj e=>hsep j e hj
   · rcases Q2.out j hj with q | q
     · exact S2.out j q
     · omega
   · rcases N4.out with e | ⟨g',e,h'⟩
     · exact hsep g (by rw [<-e];exact hg) q
     · rw [e] at hg;cases hg
       have:=(R2.out.lt g q).2
       omega
   · rcases Q2.out j hj with c | c
     · exact S4.out j c q
     · have:=hisl j q;omega
   · rw [hst]
     unfold SgsAt
     rw [sgFlat_snoc,List.length_append]
     exact O4.out
   · exact (((I0.out.keep V1.out).upd V2.out fun j hj q=>S4.out j q hj).keep V3.out).upd U4.out fun j hj e=>HAP.out j e hj
   · rcases N4.out with e | ⟨g',e,h'⟩
     · exact HAP.out g (by rw [<-e];exact hg) q
     · rw [e] at hg;cases hg
       have:=hisl g q
       omega
end Go.Proofs.YtjkmalddfoemhaaGreatDoor
