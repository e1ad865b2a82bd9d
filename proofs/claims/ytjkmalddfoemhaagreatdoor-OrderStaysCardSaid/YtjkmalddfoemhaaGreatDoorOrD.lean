/- Walk: the proposals and voices of some entries (see). -/
import Derived.Test.YtjkmalddfoemhaaGreatDoorRm
import Derived.Test.YtjkmalddfoemhaaGreatDoorOrC
set_option maxRecDepth 100000
set_option maxHeartbeats 8000000
namespace Go.Proofs.YtjkmalddfoemhaaGreatDoor
open Go.RowKit Go.Deep
def vwCells (s:Stp) (ak:Option Addr) (ck:Nat) (av:Option Addr) (n cv:Nat):Array Value:=#[.slice ak s.keys.length ck,.int .i64 s.liars,.int .i64 s.seed,.slice av n cv]
theorem view_load {w:World} {p:Nat} {s:Stp} {ak av:Option Addr} {ck n cv:Nat} (h:w.heap[p]? = some (.cells (vwCells s ak ck av n cv) 167 (0,0))):(Instr.loadAt 167 (.pointer (some ⟨p,0,none⟩))).run Tryz.prog w=.ok (viewV s ak ck av n cv) w:=by
 obtain ⟨m0,m1,m2,m3⟩:=cells4 h
 unfold viewV
 unfold Instr.loadAt
 go_simp
theorem view_put {w:World} {q:Nat} {s:Stp} {ak av bv:Option Addr} {ck n cv m dv:Nat} (h:w.heap[q]? = some (.cells (vwCells s ak ck av n cv) 167 (0,0))) :
 ∃ w',(Instr.storeAt 165 (.pointer (some ⟨q,3,none⟩)) (.slice bv m dv)).run Tryz.prog w=.ok () w'/\w'.heap[q]? = some (.cells (vwCells s ak ck bv m dv) 167 (0,0))/\Upd (· = q) w w':=by
 refine ⟨w.setCells q 3 [.slice bv m dv],?_,?_,upd_setCells' (S:=fun k=>k=q) q (.inl rfl) _ 3 w (Upd.refl _ _)⟩
 · obtain ⟨m0,m1,m2,m3⟩:=cells4 h
   have hf:∀ o,w.frozen? ⟨q,o,none⟩=false:=fun o=>frozen_of_block h
   clear h
   unfold Instr.storeAt
   go_simp
   rfl
 · have:=heap_setCells q 167 (0,0) [.slice bv m dv] 3 w (vwCells s ak ck av n cv).toList (by simpa using h) (by simp [vwCells])
   rw [this]
   rfl
theorem view_old {w:World} {p:Nat} {s:Stp} {ak av:Option Addr} {ck n cv:Nat} {a b c d:Value} (h:w.heap[p]? = some (.cells #[a,b,c,d] 167 (0,0))) :
 ∃ w',(Instr.storeAt 167 (.pointer (some ⟨p,0,none⟩)) (viewV s ak ck av n cv)).run Tryz.prog w=.ok () w'/\w'.heap[p]? = some (.cells (vwCells s ak ck av n cv) 167 (0,0))/\Upd (· = p) w w':=by
 refine ⟨w.setCells p 0 (vwCells s ak ck av n cv).toList,?_,?_,upd_setCells' (S:=fun k=>k=p) p (.inl rfl) _ 0 w (Upd.refl _ _)⟩
 · obtain ⟨m0,m1,m2,m3⟩:=cells4 h
   have hf:∀ o,w.frozen? ⟨p,o,none⟩=false:=fun o=>frozen_of_block h
   clear h
   unfold viewV vwCells
   unfold Instr.storeAt
   go_simp
   rfl
 · have:=heap_setCells p 167 (0,0) (vwCells s ak ck av n cv).toList 0 w [a,b,c,d] (by simpa using h) (by simp [vwCells])
   rw [this]
   rfl
theorem act_load0 {w:World} {b:Nat} {c:AcC} (h:w.heap[b]? = some (.cells c.cells.toArray 184 (0,0))):(Instr.loadAt 184 (.pointer (some ⟨b,0,none⟩))).run Tryz.prog w=.ok (.agg c.cells.toArray) w :=
 act_load ⟨fun j hj=>by rw [cell_of_block h];simp⟩
theorem value_i64 {w:World} {O:Nat->Prop} {b r:Nat} {hs:Hs} (h:IsHis w O b r hs) {m:Int} (hm:I64 m):I64 (valueF hs m):=by
 unfold valueF
 split
 · split
   · exact hm
   · exact (his_wf h m).2.ref
 · unfold I64;decide
theorem see_any {O Or A AM:Nat->Prop} {b r:Nat} {hs:Hs} {R:Rg} {s:Stp} {ak am:Option Addr} {ck cm:Nat} {ms:List Int} {w:World} (h:HPre w O Or b r hs R) (_:StpAt w A s ak ck) (_:∀ g,A g->g<w.heap.size)
 (hm:kInts.rep AM w [.slice am ms.length cm] ms) (_:∀ g,AM g->g<w.heap.size) (hml:ms.length<=1000) (hmw:∀ x∈ms,I64 x) :
 Calls Tryz.prog 120 #[.pointer (some ⟨b,0,none⟩),stpV s ak ck,.slice am ms.length cm] w (SeePost hs s ak ck ms w):=by
 obtain ⟨W1,hW1⟩:∃ W1,W1=w.alloc (.cells #[.slice ak s.keys.length ck,.int .i64 s.liars,.int .i64 s.seed] 60 (0,0)):=⟨_,rfl⟩
 obtain ⟨W2,hW2⟩:∃ W2,W2=W1.alloc (.cells #[.slice none 0 0,.int .i64 0,.int .i64 0,.slice none 0 0] 167 (0,0)):=⟨_,rfl⟩
 obtain ⟨W3,hW3⟩:∃ W3,W3=W2.alloc (.cells #[.slice ak s.keys.length ck,.int .i64 s.liars,.int .i64 s.seed,.slice none 0 0] 167 (0,0)):=⟨_,rfl⟩
 have u1:Upd (fun _=>False) w W1:=by rw [hW1];exact (Upd.refl _ _).alloc _
 have u2:Upd (fun _=>False) W1 W2:=by rw [hW2];exact (Upd.refl _ _).alloc _
 have u3:Upd (fun _=>False) W2 W3:=by rw [hW3];exact (Upd.refl _ _).alloc _
 have s1:W1.heap.size=w.heap.size+1:=by rw [hW1];simp
 have s2:W2.heap.size=w.heap.size+1+1:=by rw [hW2];simp [s1]
 have s3:W3.heap.size=w.heap.size+1+1+1:=by rw [hW3];simp [s2]
 have hb1:W1.heap[w.heap.size]? = some (.cells #[.slice ak s.keys.length ck,.int .i64 s.liars,.int .i64 s.seed] 60 (0,0)):=by rw [hW1];exact heap_alloc_new
 have hb2:W2.heap[w.heap.size+1]? = some (.cells #[.slice none 0 0,.int .i64 0,.int .i64 0,.slice none 0 0] 167 (0,0)):=by rw [<-s1,hW2];exact heap_alloc_new
 have hb3:W3.heap[w.heap.size+1+1]? = some (.cells (vwCells s ak ck none 0 0) 167 (0,0)):=by rw [<-s2,hW3];exact heap_alloc_new
 have B1:=hid ((u2.block _ (heap_lt hb1) id).trans hb1)
 have SZ2:=hid s2
 have B2:=hid ((u3.block _ (heap_lt hb2) id).trans hb2)
 have B3:=hid hb3
 have US:=hid ((u1.trans u2).trans u3)
 have HH:=hid (h.keep US.out)
 have OL:=hid (fun k (hk:O k)=>(h.his.lt k hk).2)
 have RL:=hid (fun k (hk:Or k)=>(h.gnd.ring.lt k hk).2)
 have P6:=hid h.gnd.six
 have CM:=hid (fun (y:World) (u:Upd (fun _=>False) w y) (hp:0<ms.length)=>(show ∃ g o,am=some ⟨g,o,none⟩/\∀ k (hk:k<ms.length),y.cell? ⟨g,o+k,none⟩=some (.int .i64 ms[k]) from by
  obtain ⟨a,c,e,_,_,h3⟩:=slice_open (kInts.keep hm (Same.of_upd u fun _ _=>id))
  obtain ⟨g,o,ea,hg,hel⟩:=h3 hp
  injection e with e1 _ _
  exact ⟨g,o,by rw [e1,ea],fun k hk=>int_cells hel hk⟩))
 obtain ⟨_,cmx,ev,hm1,hm2,_⟩:=slice_open hm
 have ev:cm=cmx:=by injection ev
 subst ev
 have hm2:cm<=9223372036854775807:=hm2
 have HW1:=hid hW1;have HW2:=hid hW2;have HW3:=hid hW3;have S3:=hid s3;have MW:=hid hmw
 obtain ⟨N,hN⟩:∃ N,ms.length=N:=⟨_,rfl⟩
 have HN:=hid hN
 rw [hN] at hm1 hml ⊢
 obtain ⟨p,hp⟩:∃ p,w.heap.size=p:=⟨_,rfl⟩
 have HP:=hid hp
 rw [hp] at B1 B2 B3 S3 SZ2 OL RL P6
 clear h hm hmw hN hW1 hW2 hW3 u1 u2 u3 s1 s2 s3 hb1 hb2 hb3 hp
 unfold stpV
 go_enter Tryz.func120,Tryz.ntmps120
 go_upto_region 1 with (fail)
 rw [<-HW1.out]
 rw [<-HW2.out]
 try rw [HP.out]
 obtain ⟨m0,m1,m2⟩:=cells3s B1.out
 go_upto_region 2 with (fail)
 rw [<-HW3.out]
 try rw [SZ2.out]
 try rw [HP.out]
 clear m0 m1 m2 HW1 HW2 HW3 B1 SZ2
 have HX0:=hid (fun (y:World) (u:Upd (fun j=>j=p+1+1) W3 y)=>(show HPre y O Or b r hs R from HH.out.upd u (fun k hk e=>by have:=OL.out k hk;omega) (fun k hk e=>by have:=RL.out k hk;omega) fun k e=>by have:=P6.out;omega))
 go_wp2_with fail
 go_loopg [19] N (fun gg s19 wr=>∃ k:Nat,k<=N/\gg=N-k/\s19=.int .i64 k/\∃ av cv L,wr.heap[p+1+1]? = some (.cells (vwCells s ak ck av (List.length L) cv) 167 (0,0))/\ActsAt wr (p+1+1+1) (.slice av L.length cv) L/\actsOf L=seeTo hs ms k/\(∀ c∈L,I64 c.a.en.n/\I64 c.a.en.m/\I64 c.a.en.kind/\(Lit.int .i64 c.a.en.author).wf=true/\(Lit.int .i64 c.a.value).wf=true)/\Upd (fun j=>j=p+1+1) W3 wr)
 case atStart=>exact ⟨0,Nat.zero_le _,rfl,rfl,none,0,[],B3.out,ActsAt.nil,rfl,(fun c hc=>by cases hc),Upd.refl _ _⟩
 case round =>
  obtain ⟨k,hk,hg,rfl,av,cv,L,hv,ha,hs',hw',hu⟩:=hrel
  have HG:=hid hg;have HV:=hid hv;have HA:=hid ha;have HS:=hid hs';have HWF:=hid hw';have HU:=hid hu
  clear hg hv ha hs' hw' hu
  have UW:=hid (US.out.comp HU.out fun i hi e=>by have:=HP.out;omega)
  have HL:=hid (show L.length<=k from by have h1:=seeTo_len hs ms k;rw [<-HS.out] at h1;unfold actsOf at h1;rwa [List.length_map] at h1)
  by_cases hlt:k<N
  case neg =>
   as_aux_lemma =>
   have hlti:¬(k:Int)<N:=by omega
   have KE:=hid (seeTo_all (h:=hs) (ms:=ms) (k:=k) (by rw [HN.out];omega))
   have b2:wr.heap[p+1]? = some (.cells #[.slice none 0 0,.int .i64 0,.int .i64 0,.slice none 0 0] 167 (0,0)):=(HU.out.block _ (heap_lt B2.out) (by omega)).trans B2.out
   obtain ⟨w4,r4,b4,u4⟩:=view_old (s:=s) (ak:=ak) (av:=av) (ck:=ck) (n:=L.length) (cv:=cv) b2
   have R4:=hid r4;have B4:=hid b4;have U4:=hid u4
   clear b2 r4 b4 u4
   go_upto_region 17 with (fail)
   refine wp_region_lit ?_
   refine op_load rfl _ _ rfl rfl (view_load HV.out) ?_
   (try go_frame)
   refine op_store rfl _ _ _ rfl rfl rfl R4.out ?_
   refine wpList_nil ?_
   go_frame
   obtain ⟨z0,z1,z2,z3⟩:=cells4 B4.out
   go_wp2_with fail
   refine bodyPost_ret (v:=viewV s ak ck av L.length cv) (by rw [results_cell1 rfl];unfold viewV;go_simp) rfl ?_
   exact ⟨av,cv,L,rfl,by rw [HS.out,KE.out],ownsRow_base (ownsRow_upd HA.out U4.out fun g hg e=>by have:=(World.ownsRow.lt HA.out g hg).1;omega) (by have:=HP.out;omega),HWF.out,UW.out.comp U4.out fun i hi e=>by have:=HP.out;omega⟩
  as_aux_lemma =>
  have hlti:(k:Int)<N:=by omega
  have hk1:(k:Int)+1<=100000:=by omega
  have hkl:k<ms.length:=by rw [HN.out];exact hlt
  obtain ⟨g,o,rfl,hcell⟩:=CM.out _ UW.out (by rw [HN.out];omega)
  have c0:=hcell k hkl
  have NO:=hid (seeTo_no (h:=hs) hkl)
  have YES:=hid (fun a e=>seeTo_yes (h:=hs) (a:=a) hkl e)
  have MK:=hid (MW.out _ (List.getElem_mem hkl))
  obtain ⟨m,hm⟩:∃ m,ms[k]=m:=⟨_,rfl⟩
  rw [hm] at c0 NO YES MK
  have MWF:=hid (show (Lit.int .i64 m).wf=true from iwf MK.out)
  have HX:=hid (HX0.out _ HU.out)
  have HIW:=hid (his_wf HX.out.his m)
  clear hcell hm
  go_wp2_with fail
  refine (hentry_any HX.out.his HX.out.plain m MWF.out).mono ?_
  rintro en y1 ⟨a1,a2,a3,c1,c2,c3,rfl,_,u⟩
  have AF:=hid (show actF hs m=if (entryM hs m).1.kind=18 then some ⟨m,(entryM hs m).1,valueF hs m⟩ else if (entryM hs m).1.kind=19\/(entryM hs m).1.kind=20 then some ⟨m,(entryM hs m).1,if VoteP hs (entryM hs m).1 then valueF hs (entryM hs m).1.ref else -1⟩ else none from rfl)
  obtain ⟨x,hx⟩:∃ x,(entryM hs m).1=x:=⟨_,rfl⟩
  obtain ⟨is,his⟩:∃ x,(entryM hs m).2=x:=⟨_,rfl⟩
  rw [hx] at AF HIW
  rw [hx,his]
  obtain ⟨W4,hW4⟩:∃ W4,W4=y1.alloc (.cells (en13 x a1 a2 a3 c1 c2 c3) 72 (0,0)):=⟨_,rfl⟩
  obtain ⟨W5,hW5⟩:∃ W5,W5=W4.alloc (.cells (AcC.mk ⟨m,x,-1⟩ a1 a2 a3 c1 c2 c3).cells.toArray 184 (0,0)):=⟨_,rfl⟩
  have u4:Upd (fun _=>False) y1 W4:=by rw [hW4];exact (Upd.refl _ _).alloc _
  have u5:Upd (fun _=>False) W4 W5:=by rw [hW5];exact (Upd.refl _ _).alloc _
  obtain ⟨eb,heb⟩:∃ eb,y1.heap.size=eb:=⟨_,rfl⟩
  have s4:W4.heap.size=eb+1:=by rw [hW4,<-heb];simp
  have e4:W4.heap[eb]? = some (.cells (en13 x a1 a2 a3 c1 c2 c3) 72 (0,0)):=by rw [hW4,<-heb];exact heap_alloc_new
  have e5:W5.heap[eb+1]? = some (.cells (AcC.mk ⟨m,x,-1⟩ a1 a2 a3 c1 c2 c3).cells.toArray 184 (0,0)):=by rw [<-s4,hW5];exact heap_alloc_new
  have EB:=hid ((u5.block _ (heap_lt e4) id).trans e4)
  have E4:=hid e4;have EA:=hid e5;have S4:=hid s4
  have U5:=hid ((u.trans u4).trans u5)
  have EW:=hid (show wr.heap.size<=eb by rw [<-heb];exact u.size)
  have HW4:=hid hW4;have HW5:=hid hW5;have HEB:=hid heb
  clear hx his hW4 hW5 heb u u4 u5 s4 e4 e5 c0
  unfold enV
  go_upto_region 6 with (fail)
  rw [<-(show W4=y1.alloc (.cells #[.int .i64 x.author,.int .i64 x.seq,.int .i64 x.day,.slice a1 x.knows.length c1,.int .i64 x.kind,.int .i64 x.circle,.int .i64 x.who,.int .i64 x.n,.int .i64 x.m,.int .i64 x.ref,.slice a2 x.keys.length c2,.slice a3 x.spans.length c3,.string ⟨x.text.toArray⟩] 72 (0,0)) from HW4.out)]
  try rw [HEB.out]
  refine wp_region_lit ?_
  refine op_move rfl _ rfl rfl ?_
  (try go_frame)
  refine op_load rfl _ _ rfl rfl (en_load1 E4.out) ?_
  (try go_frame)
  refine op_build rfl _ _ rfl (vs:=[(0,.int .i64 m),(1,enV x a1 a2 a3 c1 c2 c3),(2,.int .i64 (-1))]) rfl (act_make m x a1 a2 a3 c1 c2 c3 (-1) _) ?_
  (try go_frame)
  refine op_alloc rfl _ rfl (act_alloc _) ?_
  (try go_frame)
  refine op_store rfl _ _ _ rfl rfl rfl (act_store _ _) ?_
  rw [<-HW5.out]
  refine wpList_nil ?_
  go_frame
  try rw [S4.out]
  clear HW4 HW5 HEB E4
  obtain ⟨r0,r1,r2,r3,r4,r5,r6,r7,r8,r9,r10,r11,r12⟩:=cells13 EB.out
  by_cases t18:x.kind=18
  case pos =>
   have d18:(x.kind==18)=true:=beq_iff_eq.2 t18
   have AE:=hid (show actF hs m=some ⟨m,x,valueF hs m⟩ by rw [AF.out];exact if_pos t18)
   go_wp2_with fail
   refine (value_any (HX.out.keep U5.out) m MWF.out).mono ?_
   rintro en y2 ⟨rfl,u⟩
   have UY:=hid u
   have eA:=(u.block _ (heap_lt EA.out) id).trans EA.out
   have q14:y2.cell? ⟨eb+1,14,none⟩=some (.int .i64 (-1)):=by rw [cell_of_block eA];rfl
   have f14:y2.frozen? ⟨eb+1,14,none⟩=false:=frozen_of_block eA
   obtain ⟨vv,hvv⟩:∃ z,valueF hs m=z:=⟨_,rfl⟩
   have VWF:=hid (show (Lit.int .i64 vv).wf=true by rw [<-hvv];exact iwf (value_i64 HX.out.his MK.out))
   rw [hvv] at AE ⊢
   obtain ⟨W6,hW6⟩:∃ W6,W6=y2.setCell ⟨eb+1,14,none⟩ (.int .i64 vv):=⟨_,rfl⟩
   have u6:Upd (· = eb + 1) y2 W6:=by rw [hW6];exact (Upd.refl _ _).at_ _ _
   have e6:W6.heap[eb+1]? = some (.cells (AcC.mk ⟨m,x,vv⟩ a1 a2 a3 c1 c2 c3).cells.toArray 184 (0,0)):=by
    rw [hW6]
    exact heap_setCell_same (p:=⟨eb+1,14,none⟩) (u:=.int .i64 vv) rfl eA
   have E6:=hid e6
   have U6:=hid ((U5.out.trans u).comp u6 fun i hi e=>by have:=EW.out;omega)
   have HW6:=hid hW6
   clear hvv hW6 u6 e6 eA u
   go_upto_region 15 with (fail)
   try rw [<-HW6.out]
   clear q14 f14 HW6
   have ST:=hid (YES.out _ AE.out)
   obtain ⟨c,hc⟩:∃ c,AcC.mk ⟨m,x,vv⟩ a1 a2 a3 c1 c2 c3=c:=⟨_,rfl⟩
   have CA:=hid (show c.a=⟨m,x,vv⟩ by rw [<-hc])
   have b7:=E6.out
   rw [hc] at b7
   have BA:=hid b7
   have VB:=hid ((U6.out.block _ (heap_lt HV.out) id).trans HV.out)
   have OW:=hid (show ActsAt W6 (p+1+1+1) (.slice av L.length cv) L from ownsRow_upd HA.out U6.out fun _ _=>id)
   have hb:=U6.out.size;have hb2:=HU.out.size;have hb3:=S3.out
   obtain ⟨v',w7,r7,o7,u7,n7⟩:=append_one elemAc OW.out c.cells.toArray rfl (by unfold AcC.cells en13;simp [Value.oneCell']) (by have:=HL.out;unfold maxLen;omega) (by have:=HL.out;omega) (by omega) 165 (0,0)
   have O7:=hid (show ActsAt w7 (p+1+1+1) v' (L++[c]) from by unfold ActsAt;rw [acFlat_snoc,List.length_append];exact o7)
   have R7:=hid r7;have U7:=hid u7
   have OL7:=hid (fun g hg=>(World.ownsRow.lt OW.out g hg).1)
   obtain ⟨av7,cv7,hv7,_,_⟩:=own_slice O7.out
   subst hv7
   have v7:w7.heap[p+1+1]? = _:=(U7.out.block _ (heap_lt VB.out) (fun e=>by have:=OL7.out _ e;omega)).trans VB.out
   obtain ⟨w8,r8,b8,u8⟩:=view_put (bv:=av7) (m:=(L++[c]).length) (dv:=cv7) v7
   have R8:=hid r8;have B8:=hid b8;have U8:=hid u8
   clear hc b7 o7 u7 n7 r7 v7 r8 b8 u8
   go_upto_region 15 with (fail)
   refine wp_region_lit ?_
   refine op_field rfl _ _ _ rfl rfl (view_field1 _ _) ?_
   (try go_frame)
   refine op_load rfl _ _ rfl rfl (sl_load (cells4 VB.out).2.2.2) ?_
   (try go_frame)
   refine op_load rfl _ _ rfl rfl (act_load0 BA.out) ?_
   (try go_frame)
   refine op_buildSlice rfl _ _ _ rfl (vs:=[(0,.agg c.cells.toArray)]) rfl (act_slice c _) ?_
   (try go_frame)
   refine wpList_append_run rfl _ _ _ _ rfl rfl rfl R7.out ?_
   (try go_frame)
   refine op_field rfl _ _ _ rfl rfl (view_field1 _ _) ?_
   (try go_frame)
   refine op_store rfl _ _ _ rfl rfl rfl R8.out ?_
   refine wpList_nil ?_
   go_frame
   go_wp2_with fail
   go_roundg (N-(k+1))
   case measure=>have:=HG.out;omega
   case rel =>
    refine ⟨k+1,by omega,rfl,by go_num,av7,cv7,L++[c],B8.out,ownsRow_upd O7.out U8.out (fun g hg e=>?_),?_,?_,?_⟩
    · have:=(World.ownsRow.lt O7.out g hg).1;omega
    · unfold actsOf;rw [List.map_append,List.map_singleton];have:=HS.out;unfold actsOf at this;rw [this,ST.out,CA.out]
    · intro d hd
      rcases List.mem_append.1 hd with q | q
      · exact HWF.out d q
      · rw [List.mem_singleton.1 q,CA.out]
        exact ⟨HIW.out.2.n,HIW.out.2.m,HIW.out.2.kind,iwf HIW.out.2.author,VWF.out⟩
    · exact ((HU.out.comp U6.out fun _ _ e=>e.elim).comp U7.out fun i hi e=>by have:=OL7.out _ e;have:=S3.out;omega).comp U8.out fun i hi e=>e
  have d18:(x.kind==18)=false:=beq_eq_false_iff_ne.2 t18
  by_cases t19:x.kind=19\/x.kind=20
  case neg =>
   have d19:(x.kind==19)=false:=beq_eq_false_iff_ne.2 fun q=>t19 (.inl q)
   have d20:(x.kind==20)=false:=beq_eq_false_iff_ne.2 fun q=>t19 (.inr q)
   have AE:=hid (show actF hs m=none by rw [AF.out,if_neg t18,if_neg t19])
   have ST:=hid (NO.out AE.out)
   go_wp2_with fail
   go_roundg (N-(k+1))
   case measure=>have:=HG.out;omega
   case rel=>exact ⟨k+1,by omega,rfl,by go_num,av,cv,L,(U5.out.block _ (heap_lt HV.out) id).trans HV.out,ownsRow_upd HA.out U5.out (fun _ _=>id),by rw [HS.out,ST.out],HWF.out,HU.out.comp U5.out fun _ _ e=>e.elim⟩
  have AE0:=hid (show actF hs m=some ⟨m,x,if VoteP hs x then valueF hs x.ref else -1⟩ by rw [AF.out,if_neg t18,if_pos t19])
  have RWF:=hid (show (Lit.int .i64 x.ref).wf=true from iwf HIW.out.2.ref)
  have VP:=hid (show VoteP hs x↔(entryM hs x.ref).2=true/\(entryM hs x.ref).1.kind=18/\(entryM hs x.ref).1.m=x.m/\(entryM hs x.ref).1.n=x.n from Iff.rfl)
  have VWR:=hid (show I64 (valueF hs x.ref) from value_i64 HX.out.his HIW.out.2.ref)
  obtain ⟨q,hq⟩:∃ q,(entryM hs x.ref).1=q:=⟨_,rfl⟩
  obtain ⟨iq,hiq⟩:∃ q,(entryM hs x.ref).2=q:=⟨_,rfl⟩
  have HQ:=hid hq;have HIQ:=hid hiq
  rw [hq,hiq] at VP
  clear AF hq hiq
  by_cases t20:x.kind=19
  case pos =>
   have d19:(x.kind==19)=true:=beq_iff_eq.2 t20
   go_wp2_with fail
   refine (hentry_any (HX.out.keep U5.out).his (HX.out.keep U5.out).plain x.ref RWF.out).mono ?_
   rintro en y2 ⟨b1,b2,b3,f1,f2,f3,rfl,_,u⟩
   rw [HQ.out,HIQ.out]
   obtain ⟨W6,hW6⟩:∃ W6,W6=y2.alloc (.cells (en13 q b1 b2 b3 f1 f2 f3) 72 (0,0)):=⟨_,rfl⟩
   have u6:Upd (fun _=>False) y2 W6:=by rw [hW6];exact (Upd.refl _ _).alloc _
   obtain ⟨fb,hfb⟩:∃ fb,y2.heap.size=fb:=⟨_,rfl⟩
   have FB:=hid (show W6.heap[fb]? = some (.cells (en13 q b1 b2 b3 f1 f2 f3) 72 (0,0)) by rw [hW6,<-hfb];exact heap_alloc_new)
   have EB6:=hid (((u.trans u6).block _ (heap_lt EB.out) id).trans EB.out)
   have EA6:=hid (((u.trans u6).block _ (heap_lt EA.out) id).trans EA.out)
   have UX6:=hid (U5.out.trans (u.trans u6))
   have HW6:=hid hW6;have HFB:=hid hfb
   clear hW6 u6 hfb u r0 r1 r2 r3 r4 r5 r6 r7 r8 r9 r10 r11 r12
   unfold enV
   go_upto_region 13 with (fail)
   rw [<-(show W6=y2.alloc (.cells #[.int .i64 q.author,.int .i64 q.seq,.int .i64 q.day,.slice b1 q.knows.length f1,.int .i64 q.kind,.int .i64 q.circle,.int .i64 q.who,.int .i64 q.n,.int .i64 q.m,.int .i64 q.ref,.slice b2 q.keys.length f2,.slice b3 q.spans.length f3,.string ⟨q.text.toArray⟩] 72 (0,0)) from HW6.out)]
   try rw [HFB.out]
   clear HW6 HFB
   obtain ⟨r0,r1,r2,r3,r4,r5,r6,r7,r8,r9,r10,r11,r12⟩:=cells13 EB6.out
   obtain ⟨p0,p1,p2,p3,p4,p5,p6,p7,p8,p9,p10,p11,p12⟩:=cells13 FB.out
   cases iq with
   | false =>
     have AE:=hid (show actF hs m=some ⟨m,x,-1⟩ by rw [AE0.out,if_neg fun z=>nomatch (VP.out.1 z).1])
     go_upto_region 15 with (fail)
     have ST:=hid (YES.out _ AE.out)
     obtain ⟨c,hc⟩:∃ c,AcC.mk ⟨m,x,(-1)⟩ a1 a2 a3 c1 c2 c3=c:=⟨_,rfl⟩
     have CA:=hid (show c.a=⟨m,x,(-1)⟩ by rw [<-hc])
     have b7:=EA6.out
     rw [hc] at b7
     have BA:=hid b7
     have VB:=hid ((UX6.out.block _ (heap_lt HV.out) id).trans HV.out)
     have OW:=hid (show ActsAt W6 (p+1+1+1) (.slice av L.length cv) L from ownsRow_upd HA.out UX6.out fun _ _=>id)
     have hb:=UX6.out.size;have hb2:=HU.out.size;have hb3:=S3.out
     obtain ⟨v',w7,r7,o7,u7,n7⟩:=append_one elemAc OW.out c.cells.toArray rfl (by unfold AcC.cells en13;simp [Value.oneCell']) (by have:=HL.out;unfold maxLen;omega) (by have:=HL.out;omega) (by omega) 165 (0,0)
     have O7:=hid (show ActsAt w7 (p+1+1+1) v' (L++[c]) from by unfold ActsAt;rw [acFlat_snoc,List.length_append];exact o7)
     have R7:=hid r7;have U7:=hid u7
     have OL7:=hid (fun g hg=>(World.ownsRow.lt OW.out g hg).1)
     obtain ⟨av7,cv7,hv7,_,_⟩:=own_slice O7.out
     subst hv7
     have v7:w7.heap[p+1+1]? = _:=(U7.out.block _ (heap_lt VB.out) (fun e=>by have:=OL7.out _ e;omega)).trans VB.out
     obtain ⟨w8,r8,b8,u8⟩:=view_put (bv:=av7) (m:=(L++[c]).length) (dv:=cv7) v7
     have R8:=hid r8;have B8:=hid b8;have U8:=hid u8
     clear hc b7 o7 u7 n7 r7 v7 r8 b8 u8
     go_upto_region 15 with (fail)
     refine wp_region_lit ?_
     refine op_field rfl _ _ _ rfl rfl (view_field1 _ _) ?_
     (try go_frame)
     refine op_load rfl _ _ rfl rfl (sl_load (cells4 VB.out).2.2.2) ?_
     (try go_frame)
     refine op_load rfl _ _ rfl rfl (act_load0 BA.out) ?_
     (try go_frame)
     refine op_buildSlice rfl _ _ _ rfl (vs:=[(0,.agg c.cells.toArray)]) rfl (act_slice c _) ?_
     (try go_frame)
     refine wpList_append_run rfl _ _ _ _ rfl rfl rfl R7.out ?_
     (try go_frame)
     refine op_field rfl _ _ _ rfl rfl (view_field1 _ _) ?_
     (try go_frame)
     refine op_store rfl _ _ _ rfl rfl rfl R8.out ?_
     refine wpList_nil ?_
     go_frame
     go_wp2_with fail
     go_roundg (N-(k+1))
     case measure=>have:=HG.out;omega
     case rel =>
      refine ⟨k+1,by omega,rfl,by go_num,av7,cv7,L++[c],B8.out,ownsRow_upd O7.out U8.out (fun g hg e=>?_),?_,?_,?_⟩
      · have:=(World.ownsRow.lt O7.out g hg).1;omega
      · unfold actsOf;rw [List.map_append,List.map_singleton];have:=HS.out;unfold actsOf at this;rw [this,ST.out,CA.out]
      · intro d hd
        rcases List.mem_append.1 hd with q | q
        · exact HWF.out d q
        · rw [List.mem_singleton.1 q,CA.out]
          exact ⟨HIW.out.2.n,HIW.out.2.m,HIW.out.2.kind,iwf HIW.out.2.author,(show (Lit.int .i64 (-1)).wf=true by decide)⟩
      · exact ((HU.out.comp UX6.out fun _ _ e=>e.elim).comp U7.out fun i hi e=>by have:=OL7.out _ e;have:=S3.out;omega).comp U8.out fun i hi e=>e
   | true =>
     by_cases v0:q.kind=18
     case neg =>
      have w0:(q.kind==18)=false:=beq_eq_false_iff_ne.2 v0
      have AE:=hid (show actF hs m=some ⟨m,x,-1⟩ by rw [AE0.out,if_neg fun z=>v0 (VP.out.1 z).2.1])
      go_upto_region 15 with (fail)
      have ST:=hid (YES.out _ AE.out)
      obtain ⟨c,hc⟩:∃ c,AcC.mk ⟨m,x,(-1)⟩ a1 a2 a3 c1 c2 c3=c:=⟨_,rfl⟩
      have CA:=hid (show c.a=⟨m,x,(-1)⟩ by rw [<-hc])
      have b7:=EA6.out
      rw [hc] at b7
      have BA:=hid b7
      have VB:=hid ((UX6.out.block _ (heap_lt HV.out) id).trans HV.out)
      have OW:=hid (show ActsAt W6 (p+1+1+1) (.slice av L.length cv) L from ownsRow_upd HA.out UX6.out fun _ _=>id)
      have hb:=UX6.out.size;have hb2:=HU.out.size;have hb3:=S3.out
      obtain ⟨v',w7,r7,o7,u7,n7⟩:=append_one elemAc OW.out c.cells.toArray rfl (by unfold AcC.cells en13;simp [Value.oneCell']) (by have:=HL.out;unfold maxLen;omega) (by have:=HL.out;omega) (by omega) 165 (0,0)
      have O7:=hid (show ActsAt w7 (p+1+1+1) v' (L++[c]) from by unfold ActsAt;rw [acFlat_snoc,List.length_append];exact o7)
      have R7:=hid r7;have U7:=hid u7
      have OL7:=hid (fun g hg=>(World.ownsRow.lt OW.out g hg).1)
      obtain ⟨av7,cv7,hv7,_,_⟩:=own_slice O7.out
      subst hv7
      have v7:w7.heap[p+1+1]? = _:=(U7.out.block _ (heap_lt VB.out) (fun e=>by have:=OL7.out _ e;omega)).trans VB.out
      obtain ⟨w8,r8,b8,u8⟩:=view_put (bv:=av7) (m:=(L++[c]).length) (dv:=cv7) v7
      have R8:=hid r8;have B8:=hid b8;have U8:=hid u8
      clear hc b7 o7 u7 n7 r7 v7 r8 b8 u8
      go_upto_region 15 with (fail)
      refine wp_region_lit ?_
      refine op_field rfl _ _ _ rfl rfl (view_field1 _ _) ?_
      (try go_frame)
      refine op_load rfl _ _ rfl rfl (sl_load (cells4 VB.out).2.2.2) ?_
      (try go_frame)
      refine op_load rfl _ _ rfl rfl (act_load0 BA.out) ?_
      (try go_frame)
      refine op_buildSlice rfl _ _ _ rfl (vs:=[(0,.agg c.cells.toArray)]) rfl (act_slice c _) ?_
      (try go_frame)
      refine wpList_append_run rfl _ _ _ _ rfl rfl rfl R7.out ?_
      (try go_frame)
      refine op_field rfl _ _ _ rfl rfl (view_field1 _ _) ?_
      (try go_frame)
      refine op_store rfl _ _ _ rfl rfl rfl R8.out ?_
      refine wpList_nil ?_
      go_frame
      go_wp2_with fail
      go_roundg (N-(k+1))
      case measure=>have:=HG.out;omega
      case rel =>
       refine ⟨k+1,by omega,rfl,by go_num,av7,cv7,L++[c],B8.out,ownsRow_upd O7.out U8.out (fun g hg e=>?_),?_,?_,?_⟩
       · have:=(World.ownsRow.lt O7.out g hg).1;omega
       · unfold actsOf;rw [List.map_append,List.map_singleton];have:=HS.out;unfold actsOf at this;rw [this,ST.out,CA.out]
       · intro d hd
         rcases List.mem_append.1 hd with q | q
         · exact HWF.out d q
         · rw [List.mem_singleton.1 q,CA.out]
           exact ⟨HIW.out.2.n,HIW.out.2.m,HIW.out.2.kind,iwf HIW.out.2.author,(show (Lit.int .i64 (-1)).wf=true by decide)⟩
       · exact ((HU.out.comp UX6.out fun _ _ e=>e.elim).comp U7.out fun i hi e=>by have:=OL7.out _ e;have:=S3.out;omega).comp U8.out fun i hi e=>e
     have w0:(q.kind==18)=true:=beq_iff_eq.2 v0
     by_cases v1:q.m=x.m
     case neg =>
      have w1:(q.m==x.m)=false:=beq_eq_false_iff_ne.2 v1
      have AE:=hid (show actF hs m=some ⟨m,x,-1⟩ by rw [AE0.out,if_neg fun z=>v1 (VP.out.1 z).2.2.1])
      go_upto_region 15 with (fail)
      have ST:=hid (YES.out _ AE.out)
      obtain ⟨c,hc⟩:∃ c,AcC.mk ⟨m,x,(-1)⟩ a1 a2 a3 c1 c2 c3=c:=⟨_,rfl⟩
      have CA:=hid (show c.a=⟨m,x,(-1)⟩ by rw [<-hc])
      have b7:=EA6.out
      rw [hc] at b7
      have BA:=hid b7
      have VB:=hid ((UX6.out.block _ (heap_lt HV.out) id).trans HV.out)
      have OW:=hid (show ActsAt W6 (p+1+1+1) (.slice av L.length cv) L from ownsRow_upd HA.out UX6.out fun _ _=>id)
      have hb:=UX6.out.size;have hb2:=HU.out.size;have hb3:=S3.out
      obtain ⟨v',w7,r7,o7,u7,n7⟩:=append_one elemAc OW.out c.cells.toArray rfl (by unfold AcC.cells en13;simp [Value.oneCell']) (by have:=HL.out;unfold maxLen;omega) (by have:=HL.out;omega) (by omega) 165 (0,0)
      have O7:=hid (show ActsAt w7 (p+1+1+1) v' (L++[c]) from by unfold ActsAt;rw [acFlat_snoc,List.length_append];exact o7)
      have R7:=hid r7;have U7:=hid u7
      have OL7:=hid (fun g hg=>(World.ownsRow.lt OW.out g hg).1)
      obtain ⟨av7,cv7,hv7,_,_⟩:=own_slice O7.out
      subst hv7
      have v7:w7.heap[p+1+1]? = _:=(U7.out.block _ (heap_lt VB.out) (fun e=>by have:=OL7.out _ e;omega)).trans VB.out
      obtain ⟨w8,r8,b8,u8⟩:=view_put (bv:=av7) (m:=(L++[c]).length) (dv:=cv7) v7
      have R8:=hid r8;have B8:=hid b8;have U8:=hid u8
      clear hc b7 o7 u7 n7 r7 v7 r8 b8 u8
      go_upto_region 15 with (fail)
      refine wp_region_lit ?_
      refine op_field rfl _ _ _ rfl rfl (view_field1 _ _) ?_
      (try go_frame)
      refine op_load rfl _ _ rfl rfl (sl_load (cells4 VB.out).2.2.2) ?_
      (try go_frame)
      refine op_load rfl _ _ rfl rfl (act_load0 BA.out) ?_
      (try go_frame)
      refine op_buildSlice rfl _ _ _ rfl (vs:=[(0,.agg c.cells.toArray)]) rfl (act_slice c _) ?_
      (try go_frame)
      refine wpList_append_run rfl _ _ _ _ rfl rfl rfl R7.out ?_
      (try go_frame)
      refine op_field rfl _ _ _ rfl rfl (view_field1 _ _) ?_
      (try go_frame)
      refine op_store rfl _ _ _ rfl rfl rfl R8.out ?_
      refine wpList_nil ?_
      go_frame
      go_wp2_with fail
      go_roundg (N-(k+1))
      case measure=>have:=HG.out;omega
      case rel =>
       refine ⟨k+1,by omega,rfl,by go_num,av7,cv7,L++[c],B8.out,ownsRow_upd O7.out U8.out (fun g hg e=>?_),?_,?_,?_⟩
       · have:=(World.ownsRow.lt O7.out g hg).1;omega
       · unfold actsOf;rw [List.map_append,List.map_singleton];have:=HS.out;unfold actsOf at this;rw [this,ST.out,CA.out]
       · intro d hd
         rcases List.mem_append.1 hd with q | q
         · exact HWF.out d q
         · rw [List.mem_singleton.1 q,CA.out]
           exact ⟨HIW.out.2.n,HIW.out.2.m,HIW.out.2.kind,iwf HIW.out.2.author,(show (Lit.int .i64 (-1)).wf=true by decide)⟩
       · exact ((HU.out.comp UX6.out fun _ _ e=>e.elim).comp U7.out fun i hi e=>by have:=OL7.out _ e;have:=S3.out;omega).comp U8.out fun i hi e=>e
     have w1:(q.m==x.m)=true:=beq_iff_eq.2 v1
     by_cases v2:q.n=x.n
     case neg =>
      have w2:(q.n==x.n)=false:=beq_eq_false_iff_ne.2 v2
      have AE:=hid (show actF hs m=some ⟨m,x,-1⟩ by rw [AE0.out,if_neg fun z=>v2 (VP.out.1 z).2.2.2])
      go_upto_region 15 with (fail)
      have ST:=hid (YES.out _ AE.out)
      obtain ⟨c,hc⟩:∃ c,AcC.mk ⟨m,x,(-1)⟩ a1 a2 a3 c1 c2 c3=c:=⟨_,rfl⟩
      have CA:=hid (show c.a=⟨m,x,(-1)⟩ by rw [<-hc])
      have b7:=EA6.out
      rw [hc] at b7
      have BA:=hid b7
      have VB:=hid ((UX6.out.block _ (heap_lt HV.out) id).trans HV.out)
      have OW:=hid (show ActsAt W6 (p+1+1+1) (.slice av L.length cv) L from ownsRow_upd HA.out UX6.out fun _ _=>id)
      have hb:=UX6.out.size;have hb2:=HU.out.size;have hb3:=S3.out
      obtain ⟨v',w7,r7,o7,u7,n7⟩:=append_one elemAc OW.out c.cells.toArray rfl (by unfold AcC.cells en13;simp [Value.oneCell']) (by have:=HL.out;unfold maxLen;omega) (by have:=HL.out;omega) (by omega) 165 (0,0)
      have O7:=hid (show ActsAt w7 (p+1+1+1) v' (L++[c]) from by unfold ActsAt;rw [acFlat_snoc,List.length_append];exact o7)
      have R7:=hid r7;have U7:=hid u7
      have OL7:=hid (fun g hg=>(World.ownsRow.lt OW.out g hg).1)
      obtain ⟨av7,cv7,hv7,_,_⟩:=own_slice O7.out
      subst hv7
      have v7:w7.heap[p+1+1]? = _:=(U7.out.block _ (heap_lt VB.out) (fun e=>by have:=OL7.out _ e;omega)).trans VB.out
      obtain ⟨w8,r8,b8,u8⟩:=view_put (bv:=av7) (m:=(L++[c]).length) (dv:=cv7) v7
      have R8:=hid r8;have B8:=hid b8;have U8:=hid u8
      clear hc b7 o7 u7 n7 r7 v7 r8 b8 u8
      go_upto_region 15 with (fail)
      refine wp_region_lit ?_
      refine op_field rfl _ _ _ rfl rfl (view_field1 _ _) ?_
      (try go_frame)
      refine op_load rfl _ _ rfl rfl (sl_load (cells4 VB.out).2.2.2) ?_
      (try go_frame)
      refine op_load rfl _ _ rfl rfl (act_load0 BA.out) ?_
      (try go_frame)
      refine op_buildSlice rfl _ _ _ rfl (vs:=[(0,.agg c.cells.toArray)]) rfl (act_slice c _) ?_
      (try go_frame)
      refine wpList_append_run rfl _ _ _ _ rfl rfl rfl R7.out ?_
      (try go_frame)
      refine op_field rfl _ _ _ rfl rfl (view_field1 _ _) ?_
      (try go_frame)
      refine op_store rfl _ _ _ rfl rfl rfl R8.out ?_
      refine wpList_nil ?_
      go_frame
      go_wp2_with fail
      go_roundg (N-(k+1))
      case measure=>have:=HG.out;omega
      case rel =>
       refine ⟨k+1,by omega,rfl,by go_num,av7,cv7,L++[c],B8.out,ownsRow_upd O7.out U8.out (fun g hg e=>?_),?_,?_,?_⟩
       · have:=(World.ownsRow.lt O7.out g hg).1;omega
       · unfold actsOf;rw [List.map_append,List.map_singleton];have:=HS.out;unfold actsOf at this;rw [this,ST.out,CA.out]
       · intro d hd
         rcases List.mem_append.1 hd with q | q
         · exact HWF.out d q
         · rw [List.mem_singleton.1 q,CA.out]
           exact ⟨HIW.out.2.n,HIW.out.2.m,HIW.out.2.kind,iwf HIW.out.2.author,(show (Lit.int .i64 (-1)).wf=true by decide)⟩
       · exact ((HU.out.comp UX6.out fun _ _ e=>e.elim).comp U7.out fun i hi e=>by have:=OL7.out _ e;have:=S3.out;omega).comp U8.out fun i hi e=>e
     have w2:(q.n==x.n)=true:=beq_iff_eq.2 v2
     have AE:=hid (show actF hs m=some ⟨m,x,valueF hs x.ref⟩ by rw [AE0.out,if_pos (VP.out.2 ⟨rfl,v0,v1,v2⟩)])
     go_wp2_with fail
     refine (value_any (HX.out.keep UX6.out) x.ref RWF.out).mono ?_
     rintro en y3 ⟨rfl,u⟩
     have eA:=(u.block _ (heap_lt EA6.out) id).trans EA6.out
     have q14:y3.cell? ⟨eb+1,14,none⟩=some (.int .i64 (-1)):=by rw [cell_of_block eA];rfl
     have f14:y3.frozen? ⟨eb+1,14,none⟩=false:=frozen_of_block eA
     obtain ⟨vv,hvv⟩:∃ z,valueF hs x.ref=z:=⟨_,rfl⟩
     have VWF:=hid (show (Lit.int .i64 vv).wf=true by rw [<-hvv];exact iwf VWR.out)
     rw [hvv] at AE ⊢
     obtain ⟨W7,hW7⟩:∃ W7,W7=y3.setCell ⟨eb+1,14,none⟩ (.int .i64 vv):=⟨_,rfl⟩
     have u7:Upd (· = eb + 1) y3 W7:=by rw [hW7];exact (Upd.refl _ _).at_ _ _
     have e7:W7.heap[eb+1]? = some (.cells (AcC.mk ⟨m,x,vv⟩ a1 a2 a3 c1 c2 c3).cells.toArray 184 (0,0)):=by
      rw [hW7]
      exact heap_setCell_same (p:=⟨eb+1,14,none⟩) (u:=.int .i64 vv) rfl eA
     have E7:=hid e7
     have U6:=hid ((UX6.out.trans u).comp u7 fun i hi e=>by have:=EW.out;omega)
     have HW7:=hid hW7
     clear hvv hW7 u7 e7 eA u
     go_upto_region 15 with (fail)
     try rw [<-HW7.out]
     clear q14 f14 HW7
     have ST:=hid (YES.out _ AE.out)
     obtain ⟨c,hc⟩:∃ c,AcC.mk ⟨m,x,vv⟩ a1 a2 a3 c1 c2 c3=c:=⟨_,rfl⟩
     have CA:=hid (show c.a=⟨m,x,vv⟩ by rw [<-hc])
     have b7:=E7.out
     rw [hc] at b7
     have BA:=hid b7
     have VB:=hid ((U6.out.block _ (heap_lt HV.out) id).trans HV.out)
     have OW:=hid (show ActsAt W7 (p+1+1+1) (.slice av L.length cv) L from ownsRow_upd HA.out U6.out fun _ _=>id)
     have hb:=U6.out.size;have hb2:=HU.out.size;have hb3:=S3.out
     obtain ⟨v',w7,r7,o7,u7,n7⟩:=append_one elemAc OW.out c.cells.toArray rfl (by unfold AcC.cells en13;simp [Value.oneCell']) (by have:=HL.out;unfold maxLen;omega) (by have:=HL.out;omega) (by omega) 165 (0,0)
     have O7:=hid (show ActsAt w7 (p+1+1+1) v' (L++[c]) from by unfold ActsAt;rw [acFlat_snoc,List.length_append];exact o7)
     have R7:=hid r7;have U7:=hid u7
     have OL7:=hid (fun g hg=>(World.ownsRow.lt OW.out g hg).1)
     obtain ⟨av7,cv7,hv7,_,_⟩:=own_slice O7.out
     subst hv7
     have v7:w7.heap[p+1+1]? = _:=(U7.out.block _ (heap_lt VB.out) (fun e=>by have:=OL7.out _ e;omega)).trans VB.out
     obtain ⟨w8,r8,b8,u8⟩:=view_put (bv:=av7) (m:=(L++[c]).length) (dv:=cv7) v7
     have R8:=hid r8;have B8:=hid b8;have U8:=hid u8
     clear hc b7 o7 u7 n7 r7 v7 r8 b8 u8
     go_upto_region 15 with (fail)
     refine wp_region_lit ?_
     refine op_field rfl _ _ _ rfl rfl (view_field1 _ _) ?_
     (try go_frame)
     refine op_load rfl _ _ rfl rfl (sl_load (cells4 VB.out).2.2.2) ?_
     (try go_frame)
     refine op_load rfl _ _ rfl rfl (act_load0 BA.out) ?_
     (try go_frame)
     refine op_buildSlice rfl _ _ _ rfl (vs:=[(0,.agg c.cells.toArray)]) rfl (act_slice c _) ?_
     (try go_frame)
     refine wpList_append_run rfl _ _ _ _ rfl rfl rfl R7.out ?_
     (try go_frame)
     refine op_field rfl _ _ _ rfl rfl (view_field1 _ _) ?_
     (try go_frame)
     refine op_store rfl _ _ _ rfl rfl rfl R8.out ?_
     refine wpList_nil ?_
     go_frame
     go_wp2_with fail
     go_roundg (N-(k+1))
     case measure=>have:=HG.out;omega
     case rel =>
      refine ⟨k+1,by omega,rfl,by go_num,av7,cv7,L++[c],B8.out,ownsRow_upd O7.out U8.out (fun g hg e=>?_),?_,?_,?_⟩
      · have:=(World.ownsRow.lt O7.out g hg).1;omega
      · unfold actsOf;rw [List.map_append,List.map_singleton];have:=HS.out;unfold actsOf at this;rw [this,ST.out,CA.out]
      · intro d hd
        rcases List.mem_append.1 hd with q | q
        · exact HWF.out d q
        · rw [List.mem_singleton.1 q,CA.out]
          exact ⟨HIW.out.2.n,HIW.out.2.m,HIW.out.2.kind,iwf HIW.out.2.author,VWF.out⟩
      · exact ((HU.out.comp U6.out fun _ _ e=>e.elim).comp U7.out fun i hi e=>by have:=OL7.out _ e;have:=S3.out;omega).comp U8.out fun i hi e=>e
  have t21:x.kind=20:=t19.resolve_left t20
  have d19:(x.kind==19)=false:=beq_eq_false_iff_ne.2 t20
  have d20:(x.kind==20)=true:=beq_iff_eq.2 t21
  go_wp2_with fail
  refine (hentry_any (HX.out.keep U5.out).his (HX.out.keep U5.out).plain x.ref RWF.out).mono ?_
  rintro en y2 ⟨b1,b2,b3,f1,f2,f3,rfl,_,u⟩
  rw [HQ.out,HIQ.out]
  obtain ⟨W6,hW6⟩:∃ W6,W6=y2.alloc (.cells (en13 q b1 b2 b3 f1 f2 f3) 72 (0,0)):=⟨_,rfl⟩
  have u6:Upd (fun _=>False) y2 W6:=by rw [hW6];exact (Upd.refl _ _).alloc _
  obtain ⟨fb,hfb⟩:∃ fb,y2.heap.size=fb:=⟨_,rfl⟩
  have FB:=hid (show W6.heap[fb]? = some (.cells (en13 q b1 b2 b3 f1 f2 f3) 72 (0,0)) by rw [hW6,<-hfb];exact heap_alloc_new)
  have EB6:=hid (((u.trans u6).block _ (heap_lt EB.out) id).trans EB.out)
  have EA6:=hid (((u.trans u6).block _ (heap_lt EA.out) id).trans EA.out)
  have UX6:=hid (U5.out.trans (u.trans u6))
  have HW6:=hid hW6;have HFB:=hid hfb
  clear hW6 u6 hfb u r0 r1 r2 r3 r4 r5 r6 r7 r8 r9 r10 r11 r12
  unfold enV
  go_upto_region 13 with (fail)
  rw [<-(show W6=y2.alloc (.cells #[.int .i64 q.author,.int .i64 q.seq,.int .i64 q.day,.slice b1 q.knows.length f1,.int .i64 q.kind,.int .i64 q.circle,.int .i64 q.who,.int .i64 q.n,.int .i64 q.m,.int .i64 q.ref,.slice b2 q.keys.length f2,.slice b3 q.spans.length f3,.string ⟨q.text.toArray⟩] 72 (0,0)) from HW6.out)]
  try rw [HFB.out]
  clear HW6 HFB
  obtain ⟨r0,r1,r2,r3,r4,r5,r6,r7,r8,r9,r10,r11,r12⟩:=cells13 EB6.out
  obtain ⟨p0,p1,p2,p3,p4,p5,p6,p7,p8,p9,p10,p11,p12⟩:=cells13 FB.out
  cases iq with
  | false =>
    have AE:=hid (show actF hs m=some ⟨m,x,-1⟩ by rw [AE0.out,if_neg fun z=>nomatch (VP.out.1 z).1])
    go_upto_region 15 with (fail)
    have ST:=hid (YES.out _ AE.out)
    obtain ⟨c,hc⟩:∃ c,AcC.mk ⟨m,x,(-1)⟩ a1 a2 a3 c1 c2 c3=c:=⟨_,rfl⟩
    have CA:=hid (show c.a=⟨m,x,(-1)⟩ by rw [<-hc])
    have b7:=EA6.out
    rw [hc] at b7
    have BA:=hid b7
    have VB:=hid ((UX6.out.block _ (heap_lt HV.out) id).trans HV.out)
    have OW:=hid (show ActsAt W6 (p+1+1+1) (.slice av L.length cv) L from ownsRow_upd HA.out UX6.out fun _ _=>id)
    have hb:=UX6.out.size;have hb2:=HU.out.size;have hb3:=S3.out
    obtain ⟨v',w7,r7,o7,u7,n7⟩:=append_one elemAc OW.out c.cells.toArray rfl (by unfold AcC.cells en13;simp [Value.oneCell']) (by have:=HL.out;unfold maxLen;omega) (by have:=HL.out;omega) (by omega) 165 (0,0)
    have O7:=hid (show ActsAt w7 (p+1+1+1) v' (L++[c]) from by unfold ActsAt;rw [acFlat_snoc,List.length_append];exact o7)
    have R7:=hid r7;have U7:=hid u7
    have OL7:=hid (fun g hg=>(World.ownsRow.lt OW.out g hg).1)
    obtain ⟨av7,cv7,hv7,_,_⟩:=own_slice O7.out
    subst hv7
    have v7:w7.heap[p+1+1]? = _:=(U7.out.block _ (heap_lt VB.out) (fun e=>by have:=OL7.out _ e;omega)).trans VB.out
    obtain ⟨w8,r8,b8,u8⟩:=view_put (bv:=av7) (m:=(L++[c]).length) (dv:=cv7) v7
    have R8:=hid r8;have B8:=hid b8;have U8:=hid u8
    clear hc b7 o7 u7 n7 r7 v7 r8 b8 u8
    go_upto_region 15 with (fail)
    refine wp_region_lit ?_
    refine op_field rfl _ _ _ rfl rfl (view_field1 _ _) ?_
    (try go_frame)
    refine op_load rfl _ _ rfl rfl (sl_load (cells4 VB.out).2.2.2) ?_
    (try go_frame)
    refine op_load rfl _ _ rfl rfl (act_load0 BA.out) ?_
    (try go_frame)
    refine op_buildSlice rfl _ _ _ rfl (vs:=[(0,.agg c.cells.toArray)]) rfl (act_slice c _) ?_
    (try go_frame)
    refine wpList_append_run rfl _ _ _ _ rfl rfl rfl R7.out ?_
    (try go_frame)
    refine op_field rfl _ _ _ rfl rfl (view_field1 _ _) ?_
    (try go_frame)
    refine op_store rfl _ _ _ rfl rfl rfl R8.out ?_
    refine wpList_nil ?_
    go_frame
    go_wp2_with fail
    go_roundg (N-(k+1))
    case measure=>have:=HG.out;omega
    case rel =>
     refine ⟨k+1,by omega,rfl,by go_num,av7,cv7,L++[c],B8.out,ownsRow_upd O7.out U8.out (fun g hg e=>?_),?_,?_,?_⟩
     · have:=(World.ownsRow.lt O7.out g hg).1;omega
     · unfold actsOf;rw [List.map_append,List.map_singleton];have:=HS.out;unfold actsOf at this;rw [this,ST.out,CA.out]
     · intro d hd
       rcases List.mem_append.1 hd with q | q
       · exact HWF.out d q
       · rw [List.mem_singleton.1 q,CA.out]
         exact ⟨HIW.out.2.n,HIW.out.2.m,HIW.out.2.kind,iwf HIW.out.2.author,(show (Lit.int .i64 (-1)).wf=true by decide)⟩
     · exact ((HU.out.comp UX6.out fun _ _ e=>e.elim).comp U7.out fun i hi e=>by have:=OL7.out _ e;have:=S3.out;omega).comp U8.out fun i hi e=>e
  | true =>
    by_cases v0:q.kind=18
    case neg =>
     have w0:(q.kind==18)=false:=beq_eq_false_iff_ne.2 v0
     have AE:=hid (show actF hs m=some ⟨m,x,-1⟩ by rw [AE0.out,if_neg fun z=>v0 (VP.out.1 z).2.1])
     go_upto_region 15 with (fail)
     have ST:=hid (YES.out _ AE.out)
     obtain ⟨c,hc⟩:∃ c,AcC.mk ⟨m,x,(-1)⟩ a1 a2 a3 c1 c2 c3=c:=⟨_,rfl⟩
     have CA:=hid (show c.a=⟨m,x,(-1)⟩ by rw [<-hc])
     have b7:=EA6.out
     rw [hc] at b7
     have BA:=hid b7
     have VB:=hid ((UX6.out.block _ (heap_lt HV.out) id).trans HV.out)
     have OW:=hid (show ActsAt W6 (p+1+1+1) (.slice av L.length cv) L from ownsRow_upd HA.out UX6.out fun _ _=>id)
     have hb:=UX6.out.size;have hb2:=HU.out.size;have hb3:=S3.out
     obtain ⟨v',w7,r7,o7,u7,n7⟩:=append_one elemAc OW.out c.cells.toArray rfl (by unfold AcC.cells en13;simp [Value.oneCell']) (by have:=HL.out;unfold maxLen;omega) (by have:=HL.out;omega) (by omega) 165 (0,0)
     have O7:=hid (show ActsAt w7 (p+1+1+1) v' (L++[c]) from by unfold ActsAt;rw [acFlat_snoc,List.length_append];exact o7)
     have R7:=hid r7;have U7:=hid u7
     have OL7:=hid (fun g hg=>(World.ownsRow.lt OW.out g hg).1)
     obtain ⟨av7,cv7,hv7,_,_⟩:=own_slice O7.out
     subst hv7
     have v7:w7.heap[p+1+1]? = _:=(U7.out.block _ (heap_lt VB.out) (fun e=>by have:=OL7.out _ e;omega)).trans VB.out
     obtain ⟨w8,r8,b8,u8⟩:=view_put (bv:=av7) (m:=(L++[c]).length) (dv:=cv7) v7
     have R8:=hid r8;have B8:=hid b8;have U8:=hid u8
     clear hc b7 o7 u7 n7 r7 v7 r8 b8 u8
     go_upto_region 15 with (fail)
     refine wp_region_lit ?_
     refine op_field rfl _ _ _ rfl rfl (view_field1 _ _) ?_
     (try go_frame)
     refine op_load rfl _ _ rfl rfl (sl_load (cells4 VB.out).2.2.2) ?_
     (try go_frame)
     refine op_load rfl _ _ rfl rfl (act_load0 BA.out) ?_
     (try go_frame)
     refine op_buildSlice rfl _ _ _ rfl (vs:=[(0,.agg c.cells.toArray)]) rfl (act_slice c _) ?_
     (try go_frame)
     refine wpList_append_run rfl _ _ _ _ rfl rfl rfl R7.out ?_
     (try go_frame)
     refine op_field rfl _ _ _ rfl rfl (view_field1 _ _) ?_
     (try go_frame)
     refine op_store rfl _ _ _ rfl rfl rfl R8.out ?_
     refine wpList_nil ?_
     go_frame
     go_wp2_with fail
     go_roundg (N-(k+1))
     case measure=>have:=HG.out;omega
     case rel =>
      refine ⟨k+1,by omega,rfl,by go_num,av7,cv7,L++[c],B8.out,ownsRow_upd O7.out U8.out (fun g hg e=>?_),?_,?_,?_⟩
      · have:=(World.ownsRow.lt O7.out g hg).1;omega
      · unfold actsOf;rw [List.map_append,List.map_singleton];have:=HS.out;unfold actsOf at this;rw [this,ST.out,CA.out]
      · intro d hd
        rcases List.mem_append.1 hd with q | q
        · exact HWF.out d q
        · rw [List.mem_singleton.1 q,CA.out]
          exact ⟨HIW.out.2.n,HIW.out.2.m,HIW.out.2.kind,iwf HIW.out.2.author,(show (Lit.int .i64 (-1)).wf=true by decide)⟩
      · exact ((HU.out.comp UX6.out fun _ _ e=>e.elim).comp U7.out fun i hi e=>by have:=OL7.out _ e;have:=S3.out;omega).comp U8.out fun i hi e=>e
    have w0:(q.kind==18)=true:=beq_iff_eq.2 v0
    by_cases v1:q.m=x.m
    case neg =>
     have w1:(q.m==x.m)=false:=beq_eq_false_iff_ne.2 v1
     have AE:=hid (show actF hs m=some ⟨m,x,-1⟩ by rw [AE0.out,if_neg fun z=>v1 (VP.out.1 z).2.2.1])
     go_upto_region 15 with (fail)
     have ST:=hid (YES.out _ AE.out)
     obtain ⟨c,hc⟩:∃ c,AcC.mk ⟨m,x,(-1)⟩ a1 a2 a3 c1 c2 c3=c:=⟨_,rfl⟩
     have CA:=hid (show c.a=⟨m,x,(-1)⟩ by rw [<-hc])
     have b7:=EA6.out
     rw [hc] at b7
     have BA:=hid b7
     have VB:=hid ((UX6.out.block _ (heap_lt HV.out) id).trans HV.out)
     have OW:=hid (show ActsAt W6 (p+1+1+1) (.slice av L.length cv) L from ownsRow_upd HA.out UX6.out fun _ _=>id)
     have hb:=UX6.out.size;have hb2:=HU.out.size;have hb3:=S3.out
     obtain ⟨v',w7,r7,o7,u7,n7⟩:=append_one elemAc OW.out c.cells.toArray rfl (by unfold AcC.cells en13;simp [Value.oneCell']) (by have:=HL.out;unfold maxLen;omega) (by have:=HL.out;omega) (by omega) 165 (0,0)
     have O7:=hid (show ActsAt w7 (p+1+1+1) v' (L++[c]) from by unfold ActsAt;rw [acFlat_snoc,List.length_append];exact o7)
     have R7:=hid r7;have U7:=hid u7
     have OL7:=hid (fun g hg=>(World.ownsRow.lt OW.out g hg).1)
     obtain ⟨av7,cv7,hv7,_,_⟩:=own_slice O7.out
     subst hv7
     have v7:w7.heap[p+1+1]? = _:=(U7.out.block _ (heap_lt VB.out) (fun e=>by have:=OL7.out _ e;omega)).trans VB.out
     obtain ⟨w8,r8,b8,u8⟩:=view_put (bv:=av7) (m:=(L++[c]).length) (dv:=cv7) v7
     have R8:=hid r8;have B8:=hid b8;have U8:=hid u8
     clear hc b7 o7 u7 n7 r7 v7 r8 b8 u8
     go_upto_region 15 with (fail)
     refine wp_region_lit ?_
     refine op_field rfl _ _ _ rfl rfl (view_field1 _ _) ?_
     (try go_frame)
     refine op_load rfl _ _ rfl rfl (sl_load (cells4 VB.out).2.2.2) ?_
     (try go_frame)
     refine op_load rfl _ _ rfl rfl (act_load0 BA.out) ?_
     (try go_frame)
     refine op_buildSlice rfl _ _ _ rfl (vs:=[(0,.agg c.cells.toArray)]) rfl (act_slice c _) ?_
     (try go_frame)
     refine wpList_append_run rfl _ _ _ _ rfl rfl rfl R7.out ?_
     (try go_frame)
     refine op_field rfl _ _ _ rfl rfl (view_field1 _ _) ?_
     (try go_frame)
     refine op_store rfl _ _ _ rfl rfl rfl R8.out ?_
     refine wpList_nil ?_
     go_frame
     go_wp2_with fail
     go_roundg (N-(k+1))
     case measure=>have:=HG.out;omega
     case rel =>
      refine ⟨k+1,by omega,rfl,by go_num,av7,cv7,L++[c],B8.out,ownsRow_upd O7.out U8.out (fun g hg e=>?_),?_,?_,?_⟩
      · have:=(World.ownsRow.lt O7.out g hg).1;omega
      · unfold actsOf;rw [List.map_append,List.map_singleton];have:=HS.out;unfold actsOf at this;rw [this,ST.out,CA.out]
      · intro d hd
        rcases List.mem_append.1 hd with q | q
        · exact HWF.out d q
        · rw [List.mem_singleton.1 q,CA.out]
          exact ⟨HIW.out.2.n,HIW.out.2.m,HIW.out.2.kind,iwf HIW.out.2.author,(show (Lit.int .i64 (-1)).wf=true by decide)⟩
      · exact ((HU.out.comp UX6.out fun _ _ e=>e.elim).comp U7.out fun i hi e=>by have:=OL7.out _ e;have:=S3.out;omega).comp U8.out fun i hi e=>e
    have w1:(q.m==x.m)=true:=beq_iff_eq.2 v1
    by_cases v2:q.n=x.n
    case neg =>
     have w2:(q.n==x.n)=false:=beq_eq_false_iff_ne.2 v2
     have AE:=hid (show actF hs m=some ⟨m,x,-1⟩ by rw [AE0.out,if_neg fun z=>v2 (VP.out.1 z).2.2.2])
     go_upto_region 15 with (fail)
     have ST:=hid (YES.out _ AE.out)
     obtain ⟨c,hc⟩:∃ c,AcC.mk ⟨m,x,(-1)⟩ a1 a2 a3 c1 c2 c3=c:=⟨_,rfl⟩
     have CA:=hid (show c.a=⟨m,x,(-1)⟩ by rw [<-hc])
     have b7:=EA6.out
     rw [hc] at b7
     have BA:=hid b7
     have VB:=hid ((UX6.out.block _ (heap_lt HV.out) id).trans HV.out)
     have OW:=hid (show ActsAt W6 (p+1+1+1) (.slice av L.length cv) L from ownsRow_upd HA.out UX6.out fun _ _=>id)
     have hb:=UX6.out.size;have hb2:=HU.out.size;have hb3:=S3.out
     obtain ⟨v',w7,r7,o7,u7,n7⟩:=append_one elemAc OW.out c.cells.toArray rfl (by unfold AcC.cells en13;simp [Value.oneCell']) (by have:=HL.out;unfold maxLen;omega) (by have:=HL.out;omega) (by omega) 165 (0,0)
     have O7:=hid (show ActsAt w7 (p+1+1+1) v' (L++[c]) from by unfold ActsAt;rw [acFlat_snoc,List.length_append];exact o7)
     have R7:=hid r7;have U7:=hid u7
     have OL7:=hid (fun g hg=>(World.ownsRow.lt OW.out g hg).1)
     obtain ⟨av7,cv7,hv7,_,_⟩:=own_slice O7.out
     subst hv7
     have v7:w7.heap[p+1+1]? = _:=(U7.out.block _ (heap_lt VB.out) (fun e=>by have:=OL7.out _ e;omega)).trans VB.out
     obtain ⟨w8,r8,b8,u8⟩:=view_put (bv:=av7) (m:=(L++[c]).length) (dv:=cv7) v7
     have R8:=hid r8;have B8:=hid b8;have U8:=hid u8
     clear hc b7 o7 u7 n7 r7 v7 r8 b8 u8
     go_upto_region 15 with (fail)
     refine wp_region_lit ?_
     refine op_field rfl _ _ _ rfl rfl (view_field1 _ _) ?_
     (try go_frame)
     refine op_load rfl _ _ rfl rfl (sl_load (cells4 VB.out).2.2.2) ?_
     (try go_frame)
     refine op_load rfl _ _ rfl rfl (act_load0 BA.out) ?_
     (try go_frame)
     refine op_buildSlice rfl _ _ _ rfl (vs:=[(0,.agg c.cells.toArray)]) rfl (act_slice c _) ?_
     (try go_frame)
     refine wpList_append_run rfl _ _ _ _ rfl rfl rfl R7.out ?_
     (try go_frame)
     refine op_field rfl _ _ _ rfl rfl (view_field1 _ _) ?_
     (try go_frame)
     refine op_store rfl _ _ _ rfl rfl rfl R8.out ?_
     refine wpList_nil ?_
     go_frame
     go_wp2_with fail
     go_roundg (N-(k+1))
     case measure=>have:=HG.out;omega
     case rel =>
      refine ⟨k+1,by omega,rfl,by go_num,av7,cv7,L++[c],B8.out,ownsRow_upd O7.out U8.out (fun g hg e=>?_),?_,?_,?_⟩
      · have:=(World.ownsRow.lt O7.out g hg).1;omega
      · unfold actsOf;rw [List.map_append,List.map_singleton];have:=HS.out;unfold actsOf at this;rw [this,ST.out,CA.out]
      · intro d hd
        rcases List.mem_append.1 hd with q | q
        · exact HWF.out d q
        · rw [List.mem_singleton.1 q,CA.out]
          exact ⟨HIW.out.2.n,HIW.out.2.m,HIW.out.2.kind,iwf HIW.out.2.author,(show (Lit.int .i64 (-1)).wf=true by decide)⟩
      · exact ((HU.out.comp UX6.out fun _ _ e=>e.elim).comp U7.out fun i hi e=>by have:=OL7.out _ e;have:=S3.out;omega).comp U8.out fun i hi e=>e
    have w2:(q.n==x.n)=true:=beq_iff_eq.2 v2
    have AE:=hid (show actF hs m=some ⟨m,x,valueF hs x.ref⟩ by rw [AE0.out,if_pos (VP.out.2 ⟨rfl,v0,v1,v2⟩)])
    go_wp2_with fail
    refine (value_any (HX.out.keep UX6.out) x.ref RWF.out).mono ?_
    rintro en y3 ⟨rfl,u⟩
    have eA:=(u.block _ (heap_lt EA6.out) id).trans EA6.out
    have q14:y3.cell? ⟨eb+1,14,none⟩=some (.int .i64 (-1)):=by rw [cell_of_block eA];rfl
    have f14:y3.frozen? ⟨eb+1,14,none⟩=false:=frozen_of_block eA
    obtain ⟨vv,hvv⟩:∃ z,valueF hs x.ref=z:=⟨_,rfl⟩
    have VWF:=hid (show (Lit.int .i64 vv).wf=true by rw [<-hvv];exact iwf VWR.out)
    rw [hvv] at AE ⊢
    obtain ⟨W7,hW7⟩:∃ W7,W7=y3.setCell ⟨eb+1,14,none⟩ (.int .i64 vv):=⟨_,rfl⟩
    have u7:Upd (· = eb + 1) y3 W7:=by rw [hW7];exact (Upd.refl _ _).at_ _ _
    have e7:W7.heap[eb+1]? = some (.cells (AcC.mk ⟨m,x,vv⟩ a1 a2 a3 c1 c2 c3).cells.toArray 184 (0,0)):=by
     rw [hW7]
     exact heap_setCell_same (p:=⟨eb+1,14,none⟩) (u:=.int .i64 vv) rfl eA
    have E7:=hid e7
    have U6:=hid ((UX6.out.trans u).comp u7 fun i hi e=>by have:=EW.out;omega)
    have HW7:=hid hW7
    clear hvv hW7 u7 e7 eA u
    go_upto_region 15 with (fail)
    try rw [<-HW7.out]
    clear q14 f14 HW7
    have ST:=hid (YES.out _ AE.out)
    obtain ⟨c,hc⟩:∃ c,AcC.mk ⟨m,x,vv⟩ a1 a2 a3 c1 c2 c3=c:=⟨_,rfl⟩
    have CA:=hid (show c.a=⟨m,x,vv⟩ by rw [<-hc])
    have b7:=E7.out
    rw [hc] at b7
    have BA:=hid b7
    have VB:=hid ((U6.out.block _ (heap_lt HV.out) id).trans HV.out)
    have OW:=hid (show ActsAt W7 (p+1+1+1) (.slice av L.length cv) L from ownsRow_upd HA.out U6.out fun _ _=>id)
    have hb:=U6.out.size;have hb2:=HU.out.size;have hb3:=S3.out
    obtain ⟨v',w7,r7,o7,u7,n7⟩:=append_one elemAc OW.out c.cells.toArray rfl (by unfold AcC.cells en13;simp [Value.oneCell']) (by have:=HL.out;unfold maxLen;omega) (by have:=HL.out;omega) (by omega) 165 (0,0)
    have O7:=hid (show ActsAt w7 (p+1+1+1) v' (L++[c]) from by unfold ActsAt;rw [acFlat_snoc,List.length_append];exact o7)
    have R7:=hid r7;have U7:=hid u7
    have OL7:=hid (fun g hg=>(World.ownsRow.lt OW.out g hg).1)
    obtain ⟨av7,cv7,hv7,_,_⟩:=own_slice O7.out
    subst hv7
    have v7:w7.heap[p+1+1]? = _:=(U7.out.block _ (heap_lt VB.out) (fun e=>by have:=OL7.out _ e;omega)).trans VB.out
    obtain ⟨w8,r8,b8,u8⟩:=view_put (bv:=av7) (m:=(L++[c]).length) (dv:=cv7) v7
    have R8:=hid r8;have B8:=hid b8;have U8:=hid u8
    clear hc b7 o7 u7 n7 r7 v7 r8 b8 u8
    go_upto_region 15 with (fail)
    refine wp_region_lit ?_
    refine op_field rfl _ _ _ rfl rfl (view_field1 _ _) ?_
    (try go_frame)
    refine op_load rfl _ _ rfl rfl (sl_load (cells4 VB.out).2.2.2) ?_
    (try go_frame)
    refine op_load rfl _ _ rfl rfl (act_load0 BA.out) ?_
    (try go_frame)
    refine op_buildSlice rfl _ _ _ rfl (vs:=[(0,.agg c.cells.toArray)]) rfl (act_slice c _) ?_
    (try go_frame)
    refine wpList_append_run rfl _ _ _ _ rfl rfl rfl R7.out ?_
    (try go_frame)
    refine op_field rfl _ _ _ rfl rfl (view_field1 _ _) ?_
    (try go_frame)
    refine op_store rfl _ _ _ rfl rfl rfl R8.out ?_
    refine wpList_nil ?_
    go_frame
    go_wp2_with fail
    go_roundg (N-(k+1))
    case measure=>have:=HG.out;omega
    case rel =>
     refine ⟨k+1,by omega,rfl,by go_num,av7,cv7,L++[c],B8.out,ownsRow_upd O7.out U8.out (fun g hg e=>?_),?_,?_,?_⟩
     · have:=(World.ownsRow.lt O7.out g hg).1;omega
     · unfold actsOf;rw [List.map_append,List.map_singleton];have:=HS.out;unfold actsOf at this;rw [this,ST.out,CA.out]
     · intro d hd
       rcases List.mem_append.1 hd with q | q
       · exact HWF.out d q
       · rw [List.mem_singleton.1 q,CA.out]
         exact ⟨HIW.out.2.n,HIW.out.2.m,HIW.out.2.kind,iwf HIW.out.2.author,VWF.out⟩
     · exact ((HU.out.comp U6.out fun _ _ e=>e.elim).comp U7.out fun i hi e=>by have:=OL7.out _ e;have:=S3.out;omega).comp U8.out fun i hi e=>e
end Go.Proofs.YtjkmalddfoemhaaGreatDoor
