/- Rows of nodes and of numbers; clones of rows of nodes. -/
import Derived.Test.YtjkmalddfoemhaaGreatDoorJ11
import Derived.Test.YtjkmalddfoemhaaGreatDoorJ10
import Derived.Test.YtjkmalddfoemhaaGreatDoorJ4
import Derived.Test.YtjkmalddfoemhaaGreatDoorJ12
set_option maxRecDepth 100000
set_option maxHeartbeats 2000000
namespace Go.Proofs.YtjkmalddfoemhaaGreatDoor
open Go.RowKit Go.Deep
theorem ints_rep {w:World} {B:Nat} {v:Value} {l:List Int} (h:w.ownsRow B 3 1 v l.length (l.map fun x=>.int .i64 x)) (hw:∀ x∈l,I64 x):kInts.rep (fun g=>B<=g/\g<w.heap.size) w [v] l :=
 ownsRow_rep1 (K:=kInt .i64) rfl (fun x=>Value.int .i64 x) h (fun x hx=>⟨rfl,iwf (hw x hx)⟩) fun g hg=>own_lt h g hg
theorem row_nodes {w:World} {B:Nat} {v:Value} {L:List NdC} (h:w.ownsRow B 136 18 v L.length (ndFlat L)) (hpos:0<L.length) :
 ∃ g cap,v=.slice (some ⟨g,0,none⟩) L.length cap/\L.length<=cap/\cap<=maxLen/\B<=g/\g<w.heap.size/\∀ i c,L[i]? = some c->NodeAt w g (i*18) c:=by
 obtain ⟨h1,⟨h2,h3⟩ | ⟨g,cap,cur,hv,hb,hg,hn,hc,hs,ht⟩⟩:=h
 · omega
 · refine ⟨g,cap,hv,hn,hc,hb,heap_lt hg,fun i c hic=>?_⟩
   obtain ⟨hi,e⟩:=List.getElem?_eq_some_iff.1 hic
   subst e
   have k:∀ j,j<18->w.cell? ⟨g,i*18+j,none⟩=L[i].cells[j]?:=fun j hj=>by
    rw [cell_of_block hg,<-ndFlat_get L i hi j hj,<-ht,List.getElem?_take,if_pos,Array.getElem?_toList]
    calc i*18+j<i*18+18:=by omega
     _=(i+1)*18:=by omega
     _<=L.length*18:=Nat.mul_le_mul_right _ hi
   exact ⟨k 0 (by decide),k 1 (by decide),k 2 (by decide),k 3 (by decide),k 4 (by decide),k 5 (by decide),k 6 (by decide),k 7 (by decide),k 8 (by decide),k 9 (by decide),k 10 (by decide),k 11 (by decide),k 12 (by decide),k 13 (by decide),k 14 (by decide),k 15 (by decide),k 16 (by decide),k 17 (by decide)⟩
theorem his_field (b:Nat) (w:World):(Instr.fieldAt 131 (.pointer (some ⟨b,0,none⟩)) 1).run Tryz.prog w=.ok (.pointer (some ⟨b,1,none⟩)) w:=by
 unfold Instr.fieldAt
 go_simp
theorem his_load {w:World} {b:Nat} {v:Value} {a:Option Addr} {n c:Nat} (hv:v=.slice a n c) (h:w.cell? ⟨b,1,none⟩=some v):(Instr.loadAt 128 (.pointer (some ⟨b,1,none⟩))).run Tryz.prog w=.ok v w:=by
 subst hv
 unfold Instr.loadAt
 go_simp
end Go.Proofs.YtjkmalddfoemhaaGreatDoor
namespace Go.Proofs.YtjkmalddfoemhaaGreatDoor
open Go.RowKit Go.Deep
structure HPre (w:World) (O Or:Nat->Prop) (b r:Nat) (hs:Hs) (R:Rg):Prop where
 his:IsHis w O b r hs
 gnd:Gnd w Or r R
 plain:His rdF R hs
 apart:∀ k,Or k->¬O k
 few:R.length<=60
abbrev BitsOf (w:World) (v:Value) (p:Nat->Bool):Prop:=∃ x,BitsAt w v x/\∀ j,x.testBit j=p j
theorem HPre.keep {w w':World} {O Or:Nat->Prop} {b r:Nat} {hs:Hs} {R:Rg} (h:HPre w O Or b r hs R) (u:Upd (fun _=>False) w w'):HPre w' O Or b r hs R:=⟨h.his.keep u,h.gnd.keep u,h.plain,h.apart,h.few⟩
theorem HPre.upd {S:Nat->Prop} {w w':World} {O Or:Nat->Prop} {b r:Nat} {hs:Hs} {R:Rg} (h:HPre w O Or b r hs R) (u:Upd S w w') (hO:∀ k,O k->¬S k) (hr:∀ k,Or k->¬S k) (h6:∀ k,S k->6<=k):HPre w' O Or b r hs R:=⟨h.his.upd u hO,h.gnd.upd u hr h6,h.plain,h.apart,h.few⟩
theorem HPre.made {w w':World} {O Or O':Nat->Prop} {b r b':Nat} {hs h':Hs} {R:Rg} (h:HPre w O Or b r hs R) (u:Upd (fun _=>False) w w') (h1:IsHis w' O' b' r h') (h2:His rdF R h') (hn:∀ k,O' k->w.heap.size<=k):HPre w' O' Or b' r h' R :=
 ⟨h1,h.gnd.keep u,h2,fun k hk hk'=>by have:=(h.gnd.ring.lt k hk).2;have:=hn k hk';omega,h.few⟩
theorem HPre.grown {w w':World} {O Or O':Nat->Prop} {b r:Nat} {hs h':Hs} {R:Rg} (h:HPre w O Or b r hs R) (u:Upd O w w') (h1:IsHis w' O' b r h') (h2:His rdF R h') (hn:∀ k,O' k->O k\/w.heap.size<=k):HPre w' O' Or b r h' R :=
 ⟨h1,h.gnd.upd u h.apart fun k hk=>(h.his.lt k hk).1,h2,fun k hk hk'=>by
  rcases hn k hk' with q | q
  · exact h.apart k hk q
  · have:=(h.gnd.ring.lt k hk).2;omega,h.few⟩
def NewHPost (_:Rg) (r:Nat) (hs:Hs) (w:World) (e:Ending) (w':World):Prop :=
 ∃ b O,e=.returned (.pointer (some ⟨b,0,none⟩))/\IsHis w' O b r hs/\(∀ k,O k->w.heap.size<=k)/\Upd (fun _=>False) w w'
theorem hrestrict_any {O Or:Nat->Prop} {b r:Nat} {hs:Hs} {R:Rg} {w:World} (h:HPre w O Or b r hs R) (A:Nat->Prop) (vm:Value) (ms:List Int) (hm:kInts.rep A w [vm] ms):Calls Tryz.prog 19 #[.pointer (some ⟨b,0,none⟩),vm] w (NewHPost R r (restrictF rdF R hs ms) w):=by
 have HP:=hid h;have HM:=hid hm
 obtain ⟨D,vn,mb,l,L,H,rfl⟩:=h.his
 obtain ⟨c0,c1,c2,cf⟩:=cells3 H.head
 have HH:=hid H
 have HLL:=hid (show (L.map NdC.n).length=L.length from List.length_map ..)
 clear H h hm
 go_enter Tryz.func19,Tryz.ntmps19
 go_wp2_with fail
 refine (hnew_any r w HP.out.gnd.six).mono ?_
 rintro e w1 ⟨b',rfl,hb',hn,u⟩
 have HN:=hid hn;have U1:=hid u;have HB:=hid hb'
 clear hn u hb' c0 c1 c2 cf
 go_wp2_with fail
 refine (down_any (HP.out.his.keep U1.out) A vm ms (kInts.keep HM.out (Same.of_upd U1.out fun _ _=>id))).mono ?_
 rintro e w2 ⟨v,rfl,nb,u⟩
 have NB:=hid nb;have U2:=hid (U1.out.trans u);have UD:=hid u
 clear nb u
 obtain ⟨p,hp⟩:∃ p,(downF (L.map NdC.n) ms).1=p:=⟨_,rfl⟩
 have HPE:=hid hp
 rw [hp] at NB
 clear hp
 have H2:=HH.out.upd U2.out fun _ _=>id
 obtain ⟨c0,c1,c2,cf⟩:=cells3 H2.head
 have HH2:=hid H2
 have FIN:=hid (show restrictTo rdF R (L.map NdC.n) p L.length=restrictF rdF R (L.map NdC.n) ms by rw [<-HPE.out,<-HLL.out,restrictTo_all])
 have START:Hid (∃ O',IsHis w2 O' b' r (restrictTo rdF R (L.map NdC.n) p 0)/\(∀ k,O' k->w.heap.size<=k)/\(∀ g,v.ownBlock=some g->¬O' g)) :=
  ⟨_,HN.out.keep UD.out,fun k hk=>hk.1,fun g hg hk=>by have:=NB.out.new g hg;omega⟩
 clear H2
 rcases HH2.out.at_ with ⟨rfl,h0⟩ | ⟨g,cap,rfl,h1,h2,hgl,_⟩
 · have H0:=hid h0
   clear h0
   go_wp2_with fail
   go_loopg [26] 0 (fun gg s wr=>s=.int .i64 0/\w2=wr)
   case atStart=>exact ⟨rfl,rfl⟩
   case round =>
    obtain ⟨rfl,rfl⟩:=hrel
    go_wp2_with fail
    go_ret
    obtain ⟨O',s1,s2,_⟩:=START.out
    refine ⟨b',O',rfl,?_,s2,U2.out⟩
    rw [<-FIN.out,H0.out]
    rw [H0.out] at s1
    exact s1
 · have h2:cap<=9223372036854775807:=h2
   have hfew:=HH2.out.few
   have HGL:=hid hgl
   clear hgl
   go_wp2_with fail
   go_loopg [26] L.length (fun gg s wr=>∃ k:Nat,k<=L.length/\gg=L.length-k/\s=.int .i64 k/\(∃ O',IsHis wr O' b' r (restrictTo rdF R (L.map NdC.n) p k)/\(∀ k,O' k->w.heap.size<=k)/\(∀ g,v.ownBlock=some g->¬O' g))/\BitsOf wr v p/\Upd (fun _=>False) w wr)
   case atStart=>exact ⟨0,Nat.zero_le _,rfl,rfl,START.out,NB.out.bits,U2.out⟩
   case round =>
    obtain ⟨k,hk,hg,rfl,ho,hbt,u⟩:=hrel
    have UU:=hid u;have HG:=hid hg;have HO:=hid ho;have HBT:=hid hbt
    clear u hg ho hbt
    by_cases hlt:k<L.length
    case neg =>
     have hlti:¬(k:Int)<L.length:=by omega
     have hke:k=L.length:=by omega
     have HK:=hid hke
     clear hke
     go_wp2_with fail
     go_ret
     obtain ⟨O',s1,s2,_⟩:=HO.out
     refine ⟨b',O',rfl,?_,s2,UU.out⟩
     rw [<-FIN.out,<-HK.out]
     exact s1
    have hlti:(k:Int)<L.length:=by omega
    obtain ⟨c,hc⟩:∃ c,L[k]? = some c:=⟨_,List.getElem?_eq_getElem hlt⟩
    obtain ⟨g',cap',e1,_,_,_,hn⟩:=(HH.out.upd UU.out fun _ _=>id).node (Nat.lt_of_le_of_lt (Nat.zero_le _) hlt)
    cases e1
    have NK:=hid (hn k c hc)
    have HC:=hid (HH.out.nd hc)
    have NO:=hid (HH.out.nodes c (List.mem_of_getElem? hc))
    obtain ⟨W1,hW1⟩:∃ W1,W1=wr.alloc (.cells c.cells.toArray 136 (0,0)):=⟨_,rfl⟩
    have u1:Upd (fun _=>False) wr W1:=by rw [hW1];exact (Upd.refl _ _).alloc _
    have hb1:W1.heap[wr.heap.size]? = some (.cells c.cells.toArray 136 (0,0)):=by rw [hW1];exact heap_alloc_new
    obtain ⟨q0,q1,q2,_⟩:=node_at0 hb1
    have q3:W1.frozen? ⟨wr.heap.size,0,none⟩=false:=frozen_of_block hb1
    have HW1:=hid hW1;have U1':=hid u1;have UW1:=hid (UU.out.trans u1)
    have h64:k<64:=by omega
    obtain ⟨x,hx,hxp⟩:=HBT.out
    have HT:=hid (test_any v x k W1 (hx.upd u1 fun _ _=>id) h64)
    have HXP:=hid hxp;have HX:=hid hx
    clear hW1 hb1 hn hc u1 hx hxp
    cases hp:p k with
    | false =>
      have HN':=hid (restrictTo_no (rd:=rdF) (R:=R) HC.out hp)
      have HXK:=hid ((HXP.out k).trans hp)
      clear hp
      go_upto_region 5 with (fail)
      refine wp_region_lit ?_
      refine op_move rfl _ rfl rfl ?_
      refine op_index rfl _ _ _ rfl rfl rfl (node_index hlt h1 h2 _) ?_
      refine op_load rfl _ _ rfl rfl (node_load NK.out) ?_
      refine op_alloc rfl _ rfl (node_alloc _) ?_
      refine op_assign rfl _ rfl rfl ?_
      refine op_store rfl _ _ _ rfl rfl rfl (node_store _ _) ?_
      rw [<-HW1.out]
      refine wpList_nil ?_
      (try go_frame)
      go_wp2_with fail
      refine HT.out.mono ?_
      rintro e w' ⟨rfl,rfl⟩
      rw [HXK.out]
      go_wp2_with fail
      go_roundg (L.length-(k+1))
      case measure=>have:=HG.out;omega
      case rel =>
       obtain ⟨O',s1,s2,s3⟩:=HO.out
       exact ⟨k+1,by omega,rfl,by go_num,⟨O',by rw [HN'.out];exact s1.keep U1'.out,s2,s3⟩,⟨x,HX.out.upd U1'.out fun _ _=>id,HXP.out⟩,UW1.out⟩
    | true =>
      have HN':=hid (restrictTo_yes (rd:=rdF) (R:=R) HC.out hp)
      have HXK:=hid ((HXP.out k).trans hp)
      obtain ⟨O',s1,s2,s3⟩:=HO.out
      have S2:=hid s2;have S3:=hid s3
      have no:=NO.out
      have HA:=hid (add_any (w:=W1) (s:=c.n.sg) (O:=O') ⟨s1.keep U1'.out,HP.out.gnd.keep UW1.out,His.restrictTo _ _ _,fun k hk hk'=>by have h1:=(HP.out.gnd.ring.lt k hk).2;have h2:=s2 k hk';omega,by have:=no.key;unfold I64;omega,by have:=no.mark;unfold I64;omega,no.text,Nat.lt_of_le_of_lt (His.restrictTo (rd:=rdF) (R:=R) (L.map NdC.n) p k).len (by have:=HP.out.few;omega),by have:=HP.out.few;omega⟩)
      clear hp s1 s2 s3 no
      go_upto_region 5 with (fail)
      refine wp_region_lit ?_
      refine op_move rfl _ rfl rfl ?_
      refine op_index rfl _ _ _ rfl rfl rfl (node_index hlt h1 h2 _) ?_
      refine op_load rfl _ _ rfl rfl (node_load NK.out) ?_
      refine op_alloc rfl _ rfl (node_alloc _) ?_
      refine op_assign rfl _ rfl rfl ?_
      refine op_store rfl _ _ _ rfl rfl rfl (node_store _ _) ?_
      rw [<-HW1.out]
      refine wpList_nil ?_
      (try go_frame)
      go_wp2_with fail
      refine HT.out.mono ?_
      rintro e w' ⟨rfl,rfl⟩
      rw [HXK.out]
      go_wp2_with fail
      refine HA.out.mono ?_
      rintro e w3 ⟨rfl,O2,s4,s5,s6⟩
      have S4:=hid s4;have S5:=hid s5;have S6:=hid s6
      clear s4 s5 s6
      go_wp2_with fail
      go_roundg (L.length-(k+1))
      case measure=>have:=HG.out;omega
      case rel =>
       refine ⟨k+1,by omega,rfl,by go_num,⟨O2,by rw [HN'.out];exact S4.out,fun j hj=>?_,fun g hg hj=>?_⟩,⟨x,(HX.out.upd U1'.out fun _ _=>id).upd S6.out S3.out,HXP.out⟩,UW1.out.comp S6.out fun i hi e=>by have:=S2.out i e;omega⟩
       · rcases S5.out j hj with q | q
         · exact S2.out j q
         · exact Nat.le_trans UW1.out.size q
       · rcases S5.out g hj with q | q
         · exact S3.out g hg q
         · have h1:=HX.out.lt g hg
           have h2:=U1'.out.size
           omega
end Go.Proofs.YtjkmalddfoemhaaGreatDoor
namespace Go.Proofs.YtjkmalddfoemhaaGreatDoor
open Go.RowKit Go.Deep
end Go.Proofs.YtjkmalddfoemhaaGreatDoor
