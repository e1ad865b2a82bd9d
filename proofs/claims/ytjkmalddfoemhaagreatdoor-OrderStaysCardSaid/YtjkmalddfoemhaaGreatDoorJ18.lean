/- Walks: marks in the canonical order (Sorted). -/
import Derived.Test.YtjkmalddfoemhaaGreatDoorJ11
import Derived.Test.YtjkmalddfoemhaaGreatDoorJ4
import Derived.Test.YtjkmalddfoemhaaGreatDoorJ10
import Derived.Test.YtjkmalddfoemhaaGreatDoorJ13
import Derived.Test.YtjkmalddfoemhaaGreatDoorJ17
namespace Go.Proofs.YtjkmalddfoemhaaGreatDoor
open Go.RowKit Go.Deep
end Go.Proofs.YtjkmalddfoemhaaGreatDoor
set_option maxRecDepth 100000
set_option maxHeartbeats 4000000
namespace Go.Proofs.YtjkmalddfoemhaaGreatDoor
open Go.RowKit Go.Deep
theorem zeroB (w:World):(zeroValue 4).run Tryz.prog w=.ok (.bool false) w:=by kernel_rfl
structure SeenAt (w:World) (sb:Nat) (S:List Int) (n:Nat):Prop where
 map:∃ lm,MapIs Tryz.prog 3 w sb lm/\(∀ m,lm.lookup m=if m∈S then some (.bool true) else none)/\lm.length<=n
theorem SeenAt.no {w:World} {sb:Nat} {S:List Int} {n:Nat} (h:SeenAt w sb S n) {m:Int} (hm:(Lit.int .i64 m).wf=true) (hn:m∉S):(Instr.lookup 164 (.map (some sb)) (.int .i64 m) false).run Tryz.prog w=.ok (.bool false) w:=by
 obtain ⟨lm,h1,h2,_⟩:=h.map
 have:=h1.get Tryz.underlying3 Tryz.underlying164 (zeroB w) hm
 rw [h2,if_neg hn] at this
 exact this
theorem SeenAt.yes {w:World} {sb:Nat} {S:List Int} {n:Nat} (h:SeenAt w sb S n) {m:Int} (hm:(Lit.int .i64 m).wf=true) (hn:m∈S):(Instr.lookup 164 (.map (some sb)) (.int .i64 m) false).run Tryz.prog w=.ok (.bool true) w:=by
 obtain ⟨lm,h1,h2,_⟩:=h.map
 have:=h1.get Tryz.underlying3 Tryz.underlying164 (zeroB w) hm
 rw [h2,if_pos hn] at this
 exact this
theorem SeenAt.upd {S:Nat->Prop} {w w':World} {sb:Nat} {l:List Int} {n k:Nat} (h:SeenAt w sb l n) (u:Upd S w w') (hS:¬S sb) (hk:n<=k):SeenAt w' sb l k:=by
 obtain ⟨lm,h1,h2,h3⟩:=h.map
 exact ⟨lm,h1.upd u hS,h2,Nat.le_trans h3 hk⟩
theorem SeenAt.put {w:World} {sb:Nat} {S:List Int} {n:Nat} (h:SeenAt w sb S n) {m:Int} (hm:(Lit.int .i64 m).wf=true) (hn:n<maxLen) :
 ∃ w',(Instr.mapUpdate 164 (.map (some sb)) (.int .i64 m) (.bool true)).run Tryz.prog w=.ok () w'/\SeenAt w' sb (m::S) (n+1)/\Upd (· = sb) w w':=by
 obtain ⟨lm,h1,h2,h3⟩:=h.map
 obtain ⟨w',r,m',u⟩:=h1.put Tryz.underlying3 Tryz.underlying164 (Nat.lt_of_le_of_lt h3 hn) hm (.bool true)
 refine ⟨w',r,⟨_,m',fun x=>?_,?_⟩,u⟩
 · rw [lookup_put,h2]
   by_cases e:x=m
   · subst e;simp
   · rw [if_neg e]
     by_cases q:x∈S<;>simp [q,e]
 · rw [len_put h1.1]
   split<;>omega
structure FirstsAt (w0 w:World) (v:Value) (LL:List NdC) (N:List Nd):Prop where
 row:w.ownsRow w0.heap.size 136 18 v LL.length (ndFlat LL)
 nds:LL.map NdC.n=N
 small:LL.length<=64
theorem hsorted_any {O:Nat->Prop} {b r:Nat} {hs:Hs} {R:Rg} {w:World} (h:IsHis w O b r hs) (HX:His rdF R hs) (hR:R.length<=60) (A:Nat->Prop) (vm:Value) (ms:List Int) (hm:kInts.rep A w [vm] ms):Calls Tryz.prog 104 #[.pointer (some ⟨b,0,none⟩),vm] w (IntsPost (sortedF hs ms) w):=by
 obtain ⟨D,vn,mb,l,L,H,rfl⟩:=h
 obtain ⟨am,capm,rfl,p1,p2,p3⟩:=slice_open hm
 have p2:capm<=9223372036854775807:=p2
 have HW:=hid (ints_wf hm)
 have HLL:=hid (show (L.map NdC.n).length=L.length from List.length_map ..)
 have hbl:=heap_lt H.head
 have HH:=hid H;have P3:=hid p3;have HFL:=hid (fun k=>firstsTo_len HX ms k);have HRR:=hid hR
 have hmk:∀ w,(Instr.makeMap 164 none).run Tryz.prog w=.ok (.map (some w.heap.size)) (w.alloc (.map #[] 0)):=fun w=>run_makeMap _ w
 obtain ⟨W0,hW0⟩:∃ W0,W0=w.alloc (.map #[] 0):=⟨_,rfl⟩
 have u0:Upd (fun _=>False) w W0:=by rw [hW0];exact (Upd.refl _ _).alloc _
 have S0:=hid (show SeenAt W0 w.heap.size [] 0 from ⟨[],by rw [hW0];exact MapIs.made w,fun m=>by simp,Nat.le_refl _⟩)
 have HW0:=hid hW0;have U0:=hid u0
 obtain ⟨sb,hsb⟩:∃ sb,w.heap.size=sb:=⟨_,rfl⟩
 have HSB:=hid hsb
 clear hm p3 H HX hR hW0 u0
 go_enter Tryz.func104,Tryz.ntmps104
 go_upto_region 3 with (fail)
 rw [<-HW0.out]
 rw [HSB.out] at S0
 try rw [HSB.out]
 clear HW0 hmk hsb
 go_wp2_with fail
 go_loopg [6,17] ms.length (fun gg s6 s17 wr=>∃ k:Nat,k<=ms.length/\gg=ms.length-k/\s17=.int .i64 k/\(∃ LL,FirstsAt w wr s6 LL (firstsTo (L.map NdC.n) ms k).2)/\SeenAt wr sb (firstsTo (L.map NdC.n) ms k).1 k/\(∀ g,Value.ownBlock s6=some g->g≠sb)/\Upd (fun _=>False) w wr)
 case atStart=>exact ⟨0,Nat.zero_le _,rfl,rfl,⟨[],World.ownsRow_nil _ _ _ _,rfl,Nat.zero_le _⟩,S0.out,fun g hg=>(nomatch hg),U0.out⟩
 case round =>
  obtain ⟨k,hk,hg,rfl,hf,hs,hap,u⟩:=hrel
  have UU:=hid u;have HG:=hid hg;have FF:=hid hf;have SS:=hid hs;have HAP:=hid hap
  clear u hg hf hs hap
  by_cases hlt:k<ms.length
  case neg =>
   as_aux_lemma =>
   have hlti:¬(k:Int)<ms.length:=by omega
   have HE:=hid (show (firstsTo (L.map NdC.n) ms k).2=firstsF (L.map NdC.n) ms by rw [<-firstsTo_all,show k=ms.length by omega])
   obtain ⟨LL,hLL⟩:=FF.out
   have FN':=hid ((HFL.out k).2.2)
   have LLA:=hid hLL
   have hll:=hLL.small
   clear hLL
   go_wp2_with fail
   refine (sortN_any u6 LL _ (ownsRow_base LLA.out.row (Nat.zero_le _)) (by omega)).mono ?_
   rintro e w2 ⟨rfl,⟨K,hp,hsK,hoK⟩,u⟩
   have hKl:K.length=LL.length:=hp.length_eq
   have HKS:=hid (show (K.map NdC.n).map Nd.mark=sortedF (L.map NdC.n) ms by
    unfold sortedF
    rw [<-HE.out,<-LLA.out.nds]
    congr 1
    exact sortN_of (by rw [LLA.out.nds];exact FN'.out) (hp.map NdC.n) (by rw [List.pairwise_map];exact hsK))
   have hnew:∀ g,Value.ownBlock u6=some g->w.heap.size<=g:=fun g hg=>by
    rcases ownsRow_fits LLA.out.row with ⟨e,_⟩ | ⟨g',cap,e,q1,_⟩
    · rw [e] at hg;cases hg
    · rw [e] at hg;cases hg;exact q1
   obtain ⟨vl,hvl⟩:∃ vl,u6=vl:=⟨_,rfl⟩
   rw [hvl] at hoK hnew u ⊢
   have ROW:=hid (show w2.ownsRow w.heap.size 136 18 vl K.length (ndFlat K) from by
    obtain ⟨q1,⟨q2,q3⟩ | ⟨g,cap,cur,hv,hb,q⟩⟩:=hoK
    · exact ⟨q1,.inl ⟨q2,q3⟩⟩
    · exact ⟨q1,.inr ⟨g,cap,cur,hv,hnew g (by rw [hv];rfl),q⟩⟩)
   have U2:=hid (show Upd (fun _=>False) w w2 from UU.out.comp u fun i hi e=>by have:=hnew i e;omega)
   have hK64:K.length<=64:=by omega
   clear hp hsK hoK u hnew hKl hll LLA FF SS HAP hvl hlt hlti UU
   rcases Nat.eq_zero_or_pos K.length with hz | hz
   · have hk0:K=[]:=List.length_eq_zero_iff.1 hz
     have hv0:∃ a c,vl=.slice a 0 c:=by
      rcases ownsRow_fits ROW.out with ⟨q,_⟩ | ⟨g',cap,q,_⟩
      · exact ⟨_,_,q⟩
      · exact ⟨_,_,by rw [q,hz]⟩
     have HK0:=hid hk0
     obtain ⟨a0,c0,rfl⟩:=hv0
     clear hk0 hz
     go_wp2_with fail
     go_loopg [11,54] 0 (fun gg s11 s54 wr=>s11=.slice none 0 0/\s54=.int .i64 0/\w2=wr)
     case atStart=>exact ⟨rfl,rfl,rfl⟩
     case round =>
      obtain ⟨rfl,rfl,rfl⟩:=hrel
      go_wp2_with fail
      go_ret
      rw [<-HKS.out,HK0.out]
      exact IntsPost.nil U2.out
   · obtain ⟨g,cap,rfl,h1,h2,hgB,hgl,hn⟩:=row_nodes ROW.out hz
     have h2:cap<=9223372036854775807:=h2
     have HN:=hid hn;have HGL:=hid hgl
     clear hn hz hgl
     go_wp2_with fail
     go_loopg [11,54] K.length (fun gg s11 s54 wr=>∃ k:Nat,k<=K.length/\gg=K.length-k/\s54=.int .i64 k/\wr.ownsRow w2.heap.size 3 1 s11 (((K.map NdC.n).map Nd.mark).take k).length ((((K.map NdC.n).map Nd.mark).take k).map fun x=>.int .i64 x)/\Upd (fun _=>False) w2 wr)
     case atStart=>exact ⟨0,Nat.zero_le _,rfl,rfl,World.ownsRow_nil _ _ _ _,Upd.refl _ _⟩
     case round =>
      obtain ⟨k,hk,hg,rfl,hown,u⟩:=hrel
      have UU:=hid u;have HG:=hid hg;have OWN:=hid hown
      clear u hg hown
      have HLK:=hid (show (((K.map NdC.n).map Nd.mark).take k).length<=64 by rw [List.length_take];omega)
      by_cases hlt:k<K.length
      case neg =>
       have hlti:¬(k:Int)<K.length:=by omega
       have HE2:=hid (show ((K.map NdC.n).map Nd.mark).take k=sortedF (L.map NdC.n) ms by rw [<-HKS.out,List.take_of_length_le (by simp;omega)])
       go_wp2_with fail
       go_ret
       have o:=OWN.out
       rw [HE2.out] at o
       exact ⟨_,rfl,ownsRow_base o U2.out.size,U2.out.trans UU.out⟩
      have hlti:(k:Int)<K.length:=by omega
      obtain ⟨c,hc⟩:∃ c,K[k]? = some c:=⟨_,List.getElem?_eq_getElem hlt⟩
      have NK:=hid ((HN.out k c hc).keep UU.out id)
      have HTK:=hid (show ((K.map NdC.n).map Nd.mark).take (k+1)=((K.map NdC.n).map Nd.mark).take k++[c.n.sg.mark] by
       rw [List.take_succ_eq_append_getElem (by simpa using hlt),List.getElem_map,List.getElem_map]
       obtain ⟨_,e⟩:=List.getElem?_eq_some_iff.1 hc
       rw [e];rfl)
      obtain ⟨W1,hW1⟩:∃ W1,W1=wr.alloc (.cells c.cells.toArray 136 (0,0)):=⟨_,rfl⟩
      have u1:Upd (fun _=>False) wr W1:=by rw [hW1];exact (Upd.refl _ _).alloc _
      have HW1:=hid hW1;have U1:=hid (UU.out.trans u1)
      have OW:=hid (ownsRow_upd OWN.out u1 fun _ _=>id)
      obtain ⟨v',w4,r4,o4,u4,n4⟩:=append_one elemI OW.out #[.int .i64 c.n.sg.mark] rfl (by simp [Value.oneCell']) (by have:=HLK.out;unfold maxLen;omega) (by have:=HLK.out;omega) U1.out.size 30 (0,0)
      have O4:=hid o4;have U4:=hid u4
      have hb1:W1.heap[wr.heap.size]? = some (.cells c.cells.toArray 136 (0,0)):=by rw [hW1];exact heap_alloc_new
      have q2:W1.cell? ⟨wr.heap.size,2,none⟩=some (.int .i64 c.n.sg.mark):=by rw [cell_of_block hb1];rfl
      clear o4 u4 n4 hW1 hb1 hc u1
      go_upto_region 15 with (fail)
      refine wp_region_lit ?_
      refine op_index rfl _ _ _ rfl rfl rfl (node_index hlt h1 h2 _) ?_
      (try go_frame)
      refine op_load rfl _ _ rfl rfl (node_load NK.out) ?_
      (try go_frame)
      refine op_alloc rfl _ rfl (node_alloc _) ?_
      (try go_frame)
      refine op_store rfl _ _ _ rfl rfl rfl (node_store _ _) ?_
      (try go_frame)
      rw [<-HW1.out]
      refine wpList_nil ?_
      (try go_frame)
      go_wp2_with (at_builtin;refine wpList_append_run rfl _ _ _ _ rfl rfl rfl r4 ?_)
      go_roundg (K.length-(k+1))
      case measure=>have:=HG.out;omega
      case rel =>
       refine ⟨k+1,by omega,rfl,by go_num,?_,U1.out.comp U4.out fun i hi e=>by have:=(own_lt OW.out i e).1;omega⟩
       rw [HTK.out,List.length_append,List.map_append]
       exact O4.out
  as_aux_lemma =>
  have hlti:(k:Int)<ms.length:=by omega
  obtain ⟨bm,o,rfl,hb,hel⟩:=P3.out (by omega)
  have m0:=int_cells hel hlt
  have hbm:=World.block_lt_of_cell? _ _ m0
  have m0:=cell_kept m0 (UU.out.block bm hbm id)
  have hwf:=HW.out _ (List.getElem_mem hlt)
  have H1:=HH.out.upd UU.out fun _ _=>id
  obtain ⟨d0,d1,d2,df⟩:=cells3 H1.head
  have HH1:=hid H1
  cases hi:idxF (L.map NdC.n) ms[k] with
  | none =>
    have hl:=H1.look_no (iwf hwf) hi
    have HN:=hid (firstsTo_no hlt hi)
    obtain ⟨m,hme⟩:∃ m,ms[k]=m:=⟨_,rfl⟩
    rw [hme] at hl m0
    clear hi H1 hel hme hwf
    go_wp2_with fail
    go_roundg (ms.length-(k+1))
    case measure=>have:=HG.out;omega
    case rel=>exact ⟨k+1,by omega,rfl,by go_num,by rw [HN.out];exact FF.out,by rw [HN.out];exact SS.out.upd (Upd.refl (fun _=>False) _) id (Nat.le_succ _),HAP.out,UU.out⟩
  | some i =>
    have hl:=H1.look_yes (iwf hwf) hi
    obtain ⟨hil,h64⟩:=H1.idx hi
    obtain ⟨c,hc⟩:∃ c,L[i]? = some c:=⟨_,List.getElem?_eq_getElem hil⟩
    by_cases hse:ms[k]∈(firstsTo (L.map NdC.n) ms k).1
    · have hs2:=SS.out.yes (iwf hwf) hse
      have HN:=hid (firstsTo_seen hlt hi hse)
      obtain ⟨m,hme⟩:∃ m,ms[k]=m:=⟨_,rfl⟩
      rw [hme] at hl m0 hs2
      clear hi H1 hel hme hwf hse hc
      go_wp2_with fail
      go_roundg (ms.length-(k+1))
      case measure=>have:=HG.out;omega
      case rel=>exact ⟨k+1,by omega,rfl,by go_num,by rw [HN.out];exact FF.out,by rw [HN.out];exact SS.out.upd (Upd.refl (fun _=>False) _) id (Nat.le_succ _),HAP.out,UU.out⟩
    · have hs2:=SS.out.no (iwf hwf) hse
      have HN:=hid (firstsTo_new hlt hi (H1.nd hc) hse)
      obtain ⟨w5,r5,s5,u5⟩:=SS.out.put (iwf hwf) (Nat.lt_of_lt_of_le hlt (Nat.le_trans p1 p2))
      obtain ⟨LL,hLL⟩:=FF.out
      have hU5:Upd (fun _=>False) w w5:=UU.out.comp u5 fun i hi e=>by have:=HSB.out;omega
      have H5:=HH.out.upd hU5 fun _ _=>id
      obtain ⟨g,cap',hvn,h1,h2,hgl,hn⟩:=H5.node (Nat.lt_of_le_of_lt (Nat.zero_le _) hil)
      have NK:=hid (hn i c hc)
      obtain ⟨f0,f1,f2,ff⟩:=cells3 H5.head
      have hll64:LL.length<=60:=by
       have q1:=(HFL.out k).1
       rw [<-hLL.nds,List.length_map] at q1
       have:=HRR.out;omega
      obtain ⟨v',w4,r4,o4,u4,n4⟩:=append_one elemNode (w:=w5) (ownsRow_upd hLL.row u5 fun g hg e=>HAP.out g hg e) c.cells.toArray (by simp [NdC.len]) (cells_one c) (by unfold maxLen;omega) (by omega) hU5.size 128 (0,0)
      have R4:=hid r4;have O4:=hid o4;have U4:=hid u4;have N4:=hid n4;have S5:=hid s5;have U5:=hid hU5;have U5':=hid u5;have LLA:=hid hLL;have HF1:=hid f1;have HVN:=hid hvn
      obtain ⟨m,hme⟩:∃ m,ms[k]=m:=⟨_,rfl⟩
      have HME:=hid hme
      rw [hme] at hl m0 hs2 r5
      have h2:cap'<=9223372036854775807:=h2
      have hsz5:w.heap.size<=w5.heap.size:=hU5.size
      clear hi H1 hel hme hwf hse hn r4 o4 u4 n4 s5 hU5 u5 hLL f0 f1 f2 ff hvn H5
      go_upto_region 9 with (fail)
      refine wp_region_lit ?_
      refine op_move rfl _ rfl rfl ?_
      (try go_frame)
      refine op_move rfl _ rfl rfl ?_
      (try go_frame)
      refine op_nilp rfl _ rfl rfl ?_
      (try go_frame)
      refine op_field rfl _ _ _ rfl rfl (his_field _ _) ?_
      (try go_frame)
      refine op_load rfl _ _ rfl rfl (his_load HVN.out HF1.out) ?_
      (try go_frame)
      refine op_move rfl _ rfl rfl ?_
      (try go_frame)
      refine op_index rfl _ _ _ rfl (by rw [HVN.out];rfl) rfl (node_index hil h1 h2 _) ?_
      (try go_frame)
      refine op_load rfl _ _ rfl rfl (node_load NK.out) ?_
      (try go_frame)
      refine op_buildSlice rfl _ _ _ rfl (vs:=[(0,.agg c.cells.toArray)]) rfl (node_slice c _) ?_
      (try go_frame)
      refine wpList_append_run rfl _ _ _ _ rfl rfl rfl R4.out ?_
      (try go_frame)
      refine op_assign rfl _ rfl rfl ?_
      (try go_frame)
      refine wpList_nil ?_
      (try go_frame)
      go_wp2_with fail
      go_roundg (ms.length-(k+1))
      case measure=>have:=HG.out;omega
      case rel =>
       have z1:=UU.out.size
       have hu4:∀ i,Value.ownBlock u6=some i->w.heap.size<=i:=fun i e=>by
        rcases ownsRow_fits LLA.out.row with ⟨q,_⟩ | ⟨g',cap,q,q1,_⟩
        · rw [q] at e;cases e
        · rw [q] at e;cases e;exact q1
       refine ⟨k+1,by omega,rfl,by go_num,⟨LL++[c],⟨?_,?_,?_⟩⟩,?_,fun g hg=>?_,U5.out.comp U4.out fun i hi e=>by have:=hu4 i e;omega⟩
       · rw [ndFlat_snoc,List.length_append]
         exact ownsRow_base O4.out (Nat.le_refl _)
       · rw [HN.out,List.map_append,LLA.out.nds];rfl
       · rw [List.length_append];simp;omega
       · rw [HN.out]
         exact S5.out.upd U4.out (fun e=>HAP.out sb e rfl) (Nat.le_refl _)
       · rcases N4.out with e | ⟨g',e,h'⟩
         · exact HAP.out g (by rw [<-e];exact hg)
         · rw [e] at hg;cases hg
           have q:=HSB.out
           intro e2
           omega
end Go.Proofs.YtjkmalddfoemhaaGreatDoor
namespace Go.Proofs.YtjkmalddfoemhaaGreatDoor
open Go.RowKit Go.Deep
theorem sg_pre {w:World} {O Or:Nat->Prop} {b r:Nat} {hs:Hs} {R:Rg} (h:HPre w O Or b r hs R) {s:Sg} (q:SgSmall s):AddPre w O Or b r hs R s :=
 ⟨h.his,h.gnd,h.plain,h.apart,by have:=q.key;unfold I64;omega,by have:=q.mark;unfold I64;omega,Nat.le_trans q.text (by decide),Nat.lt_of_le_of_lt h.plain.len (by have:=h.few;omega),by have:=h.few;omega⟩
end Go.Proofs.YtjkmalddfoemhaaGreatDoor
