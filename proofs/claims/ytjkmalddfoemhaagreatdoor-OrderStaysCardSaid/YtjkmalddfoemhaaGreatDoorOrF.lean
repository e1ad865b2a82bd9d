/- Walks: the values that voices carry (carried). -/
import Derived.Test.YtjkmalddfoemhaaGreatDoorRm
import Derived.Test.YtjkmalddfoemhaaGreatDoorOrE
set_option maxRecDepth 100000
set_option maxHeartbeats 8000000
namespace Go.Proofs.YtjkmalddfoemhaaGreatDoor
open Go.RowKit Go.Deep Go.Sort Go.Shelf
theorem act_field2 (g:Nat) (w:World):(Instr.fieldAt 184 (.pointer (some ⟨g,0,none⟩)) 2).run Tryz.prog w=.ok (.pointer (some ⟨g,14,none⟩)) w:=by
 unfold Instr.fieldAt
 go_simp
theorem act_field1 (g:Nat) (w:World):(Instr.fieldAt 184 (.pointer (some ⟨g,0,none⟩)) 1).run Tryz.prog w=.ok (.pointer (some ⟨g,1,none⟩)) w:=by
 unfold Instr.fieldAt
 go_simp
theorem ent_field0 (g:Nat) (w:World):(Instr.fieldAt 72 (.pointer (some ⟨g,1,none⟩)) 0).run Tryz.prog w=.ok (.pointer (some ⟨g,1,none⟩)) w:=by
 unfold Instr.fieldAt
 go_simp
theorem int_load0 {w:World} {p:Addr} {x:Int} (h:w.cell? p=some (.int .i64 x)):(Instr.loadAt 3 (.pointer (some p))).run Tryz.prog w=.ok (.int .i64 x) w:=by
 unfold Instr.loadAt
 go_simp
theorem IsOwn.get2 {w:World} {B mb:Nat} {l:List (Int×List Int)} (h:IsOwn w B mb l) (a:Int) (ha:(Lit.int .i64 a).wf=true) :
 ∃ v,(∀ z,Upd (fun _=>False) w z->(Instr.lookup 226 (.map (some mb)) (.int .i64 a) false).run Tryz.prog z=.ok v z)/\w.ownsRow B 3 1 v ((l.lookup a).getD []).length (((l.lookup a).getD []).map fun x=>.int .i64 x):=by
 obtain ⟨E,H,rfl⟩:=h
 refine ⟨_,fun z u=>(H.upd u fun _ _=>id).map.get Tryz.underlying3 Tryz.underlying226 (zeroSl z) ha,?_⟩
 unfold owV owL
 rw [lookup_map (fun e:Value×List Int=>e.1),lookup_map (fun e:Value×List Int=>e.2)]
 cases e:E.lookup a with
 | none=>exact World.ownsRow_nil _ _ _ _
 | some p=>exact H.rows _ (lookup_mem e)
theorem OwnAt.entry {w:World} {B mb:Nat} {E:OwE} (h:OwnAt w B mb E) {x:Int} {v:Value} (e:(owV E).lookup x=some v):∃ a c,v=.slice a (((owL E).lookup x).getD []).length c:=by
 unfold owV at e
 unfold owL
 rw [lookup_map (fun e:Value×List Int=>e.1)] at e
 rw [lookup_map (fun e:Value×List Int=>e.2)]
 cases hl:E.lookup x with
 | none=>rw [hl] at e;cases e
 | some p =>
   rw [hl] at e
   injection e with e
   obtain ⟨a,c,e2,_,_⟩:=own_slice (h.rows _ (lookup_mem hl))
   exact ⟨a,c,by rw [<-e];exact e2⟩
theorem carried_any {A:Nat->Prop} {B:Nat} {s:Stp} {ak:Option Addr} {ck:Nat} {av:Option Addr} {cv:Nat} {L:List AcC} {w:World} (h:VwAt w A B s ak ck av cv L) (ok:StpOk s) (kind day round:Int):Calls Tryz.prog 133 #[viewV s ak ck av L.length cv,.int .i64 kind,.int .i64 day,.int .i64 round] w (IntsPost (carriedF s (actsOf L) kind day round) w):=by
 obtain ⟨W1,hW1⟩:∃ W1,W1=w.alloc (.cells #[.slice ak s.keys.length ck,.int .i64 s.liars,.int .i64 s.seed,.slice av L.length cv] 167 (0,0)):=⟨_,rfl⟩
 have u1:Upd (fun _=>False) w W1:=by rw [hW1];exact (Upd.refl _ _).alloc _
 have HB:=hid (show W1.heap[w.heap.size]? = some (.cells #[.slice ak s.keys.length ck,.int .i64 s.liars,.int .i64 s.seed,.slice av L.length cv] 167 (0,0)) by rw [hW1];exact heap_alloc_new)
 have HV:=hid (h.keep u1);have U:=hid u1;have HW:=hid hW1
 obtain ⟨p,hp⟩:∃ p,w.heap.size=p:=⟨_,rfl⟩
 rw [hp] at HB
 have HP:=hid hp
 have HOK:=hid ok
 obtain ⟨_,cvx,ev,hv1,hv2⟩:∃ a c,(Value.slice av L.length cv)=.slice a L.length c/\L.length<=c/\c<=maxLen:=own_slice h.acts
 have ev:cv=cvx:=by injection ev
 subst ev
 have hv2:cv<=9223372036854775807:=hv2
 have hfew:=h.few
 have HWF:=hid (fun c hc=>(h.wf c hc).2.2.2)
 have HKL:=hid h.keys
 obtain ⟨N,hN⟩:∃ N,L.length=N:=⟨_,rfl⟩
 have HN:=hid hN
 have HLA:=hid (show (actsOf L).length=N by unfold actsOf;rw [List.length_map];exact hN)
 have CTO:=hid (fun k (hk:k<=N)=>carTo_ok s (actsOf L) kind day round k (by rw [HLA.out];exact hk))
 have GET:=hid (fun (y:World) (u:Upd (fun _=>False) W1 y) (hp:0<L.length)=>(show ∃ g,av=some ⟨g,0,none⟩/\∀ i (hi:i<L.length),ActCs y g (i*15) L[i] from by
  obtain ⟨g,c,e,_,_,_,hgl,hc⟩:=ActsAt.get (HV.out.keep u).acts hp
  injection e with e1 _ _
  exact ⟨g,e1,fun i hi=>⟨fun j hj=>hc i hi j hj⟩⟩))
 rw [hN] at HB HW hv1 hfew ⊢
 clear hW1 u1 h hp hN ok
 have hmk:∀ w,(Instr.makeMap 226 none).run Tryz.prog w=.ok (.map (some w.heap.size)) (w.alloc (.map #[] 0)):=fun w=>run_makeMap _ w
 unfold viewV
 go_enter Tryz.func133,Tryz.ntmps133
 go_upto_region 1 with (fail)
 rw [<-HW.out]
 try rw [HP.out]
 clear HW
 obtain ⟨W2,hW2⟩:∃ W2,W2=W1.alloc (.map #[] 0):=⟨_,rfl⟩
 obtain ⟨mb,hmb⟩:∃ mb,W1.heap.size=mb:=⟨_,rfl⟩
 have U12:=hid (show Upd (fun _=>False) W1 W2 by rw [hW2];exact (Upd.refl _ _).alloc _)
 have START:=hid (show IsOwn W2 W2.heap.size mb (carTo s (actsOf L) kind day round 0) by rw [<-hmb,carTo_zero];exact IsOwn.made (by rw [hW2];exact Upd.refl _ _))
 have SZ2:=hid (show W2.heap.size=mb+1 by rw [hW2,<-hmb];simp)
 go_upto_region 2 with (fail)
 rw [<-hW2]
 try rw [hmb]
 have HMB:=hid hmb
 clear hmk hW2 hmb
 have HB2:=hid ((U12.out.block _ (heap_lt HB.out) id).trans HB.out)
 obtain ⟨m0,m1,m2,m3⟩:=cells4 HB2.out
 go_wp2_with fail
 go_loopg [20] N (fun gg s20 wr=>∃ k:Nat,k<=N/\gg=N-k/\s20=.int .i64 k/\IsOwn wr W2.heap.size mb (carTo s (actsOf L) kind day round k)/\Upd (fun j=>j=mb\/W2.heap.size<=j) W2 wr)
 case atStart=>exact ⟨0,Nat.zero_le _,rfl,rfl,START.out,Upd.refl _ _⟩
 case round =>
  obtain ⟨k,hk,hg,rfl,hown,u2⟩:=hrel
  have HG:=hid hg;have OWN:=hid hown;have UP:=hid u2
  have UWR:=hid (show Upd (fun _=>False) W1 wr from U12.out.comp u2 fun i hi e=>by have:=HMB.out;have:=SZ2.out;omega)
  clear hg hown u2 m0 m1 m2 m3 START
  have HBR:=hid ((UWR.out.block _ (heap_lt HB.out) id).trans HB.out)
  by_cases hlt:k<N
  case neg =>
   as_aux_lemma =>
   have hlti:¬(k:Int)<N:=by omega
   have KE:=hid (carTo_all (s:=s) (acts:=actsOf L) (kind:=kind) (day:=day) (round:=round) (k:=k) (by rw [HLA.out];omega))
   have CT:=hid (CTO.out k hk)
   rw [KE.out] at CT OWN
   obtain ⟨M,hM⟩:∃ M,carL s (actsOf L) kind day round=M:=⟨_,rfl⟩
   have HCR:=hid (show carriedF s (actsOf L) kind day round=sortI (bigL (quorumF s) M) by unfold carriedF;rw [hM])
   rw [hM] at CT OWN
   clear hM KE
   obtain ⟨E,HE,hE⟩:=OWN.out
   have HEE:=hid HE;have HOW:=hid hE
   have MI:=hid HE.map
   obtain ⟨NM,hNM⟩:∃ NM,(owV E).length=NM:=⟨_,rfl⟩
   have HNM:=hid (show (owV E).map Prod.fst=M.map Prod.fst/\M.length=NM by
    rw [<-hE,<-hNM]
    unfold owV owL
    simp)
   have NM1000:=hid (show NM<=1000 by have:=HNM.out.2;have:=CT.out.1;omega)
   obtain ⟨bp,hbp⟩:∃ bp,BigP (quorumF s) M=bp:=⟨_,rfl⟩
   have HBP:=hid hbp
   have FEW:=hid (fun got (h:RangeAt Tryz.prog 3 wr mb wr.heap.size (owV E) got)=>h.few)
   clear HE hE OWN hNM hbp FEW
   go_upto_region 10 with (fail)
   go_wp2_with (first | (at_range;refine range_op Tryz.underlying3 Tryz.underlying226 MI.out rfl _ rfl rfl ?_;intro x0 hR hu hsz) | fail)
   have HR0:=hid hR;have U0:=hid hu;have SZ0:=hid hsz
   obtain ⟨r,hr⟩:∃ r,wr.heap.size=r:=⟨_,rfl⟩
   have HRR:=hid hr
   rw [hr] at HR0 SZ0 ⊢
   have HMR:=hid (show mb<r by rw [<-hr];exact MI.out.lt)
   clear hR hu hsz hr
   (try go_frame)
   have NK0:=hid (fun (got:List Int) (w2:World) (h:RangeAt Tryz.prog 3 w2 mb r (owV E) got)=>(show got.length<=NM from by have:=h.few;have e:=HNM.out.1;have e2:=congrArg List.length e;rw [List.length_map,List.length_map] at e2;have:=HNM.out.2;omega))
   go_loopg [13] NM (fun gg s13 wr2=>∃ got:List Int,got.length<=NM/\gg=NM-got.length/\RangeAt Tryz.prog 3 wr2 mb r (owV E) got/\wr2.ownsRow x0.heap.size 3 1 s13 (got.filter bp).length ((got.filter bp).map fun x=>.int .i64 x)/\Upd (fun j=>j=r\/x0.heap.size<=j) x0 wr2)
   case atStart=>exact ⟨[],Nat.zero_le _,rfl,HR0.out,World.ownsRow_nil _ _ _ _,Upd.refl _ _⟩
   case round =>
    obtain ⟨got,hgot,hg2,hR,hrow,hu⟩:=hrel
    have HG2:=hid hg2;have RG:=hid hR;have ROW:=hid hrow;have UQ:=hid hu
    have URR:=hid (show Upd (fun _=>False) W1 wr from (UWR.out.trans U0.out).comp hu fun i hi e=>by have:=(UWR.out).size;have:=SZ0.out;have:=HRR.out;omega)
    clear hg2 hR hrow hu
    go_wp2_with (first | (at_next;refine next_op Tryz.underlying3 RG.out rfl _ rfl rfl ?_ ?_) | fail)
    · intro hperm
      have HPM:=hid hperm
      clear hperm
      have LE:=hid (show (got.filter bp).length<=1000 by have:=List.length_filter_le bp got;have:=NM1000.out;omega)
      go_wp2_with fail
      refine (sortI_any _ _ _ _ ROW.out (by have:=LE.out;omega)).mono ?_
      rintro en w3 ⟨rfl,ho,u⟩
      have OW3:=hid ho
      have UW3:=hid (URR.out.comp u fun i hi e=>by have:=(own_lt ROW.out i e).1;have:=SZ0.out;have:=HRR.out;have:=UWR.out.size;omega)
      clear ho u
      go_wp2_with fail
      go_ret
      have q:=big_sort (q:=quorumF s) (l:=M) (got:=got) CT.out.2.1 (by rw [<-HNM.out.1];exact HPM.out)
      rw [HBP.out] at q
      rw [HCR.out,<-q]
      exact ⟨_,rfl,ownsRow_base OW3.out (by have:=U.out.size;have:=SZ0.out;have:=HRR.out;have:=UWR.out.size;omega),U.out.trans UW3.out⟩
    · intro x v w1 hlook hnot hwf hR1 hlt1 hu1 hsz1 hen
      obtain ⟨va,vc,rfl⟩:=HEE.out.entry hlook
      rw [HOW.out] at hen ⊢
      have RG1:=hid hR1
      have U1:=hid hu1
      obtain ⟨n,hn⟩:∃ n,((M.lookup x).getD []).length=n:=⟨_,rfl⟩
      have BPX:=hid (show bp x=decide (quorumF s<=(n:Int)) by rw [<-HBP.out];unfold BigP;rw [hn])
      rw [hn] at hen ⊢
      have ROW1:=hid (ownsRow_upd ROW.out hu1 fun g hg e=>by have:=(own_lt ROW.out g hg).1;have:=SZ0.out;omega)
      have UQ1:=hid (UQ.out.trans (hu1.mono fun j hj=>.inl hj))
      have UR1:=hid (show Upd (fun _=>False) W1 w1 from URR.out.comp hu1 fun i hi e=>by have:=UWR.out.size;have:=HRR.out;omega)
      have HB1:=hid ((UR1.out.block _ (heap_lt HB.out) id).trans HB.out)
      have SNOC:=hid (filter_snoc (p:=bp) got x)
      have LE:=hid (show (got.filter bp).length<=1000 by have:=List.length_filter_le bp got;have:=NM1000.out;omega)
      have LT1:=hid hlt1
      have GLN:=hid (show got.length<NM by have e2:=congrArg List.length HNM.out.1;rw [List.length_map,List.length_map] at e2;have:=HNM.out.2;omega)
      obtain ⟨m0,m1,m2,_⟩:=cells4 HB1.out
      clear hlook hnot hR1 hlt1 hu1 hsz1 hn
      go_wp2_with fail
      refine (quorum_any (HV.out.keep UR1.out).stp (HV.out.keep UR1.out).lt HKL.out HOK.out).mono ?_
      rintro en w2 ⟨rfl,u⟩
      have U2:=hid u
      obtain ⟨Q,hQ⟩:∃ Q,quorumF s=Q:=⟨_,rfl⟩
      rw [hQ] at BPX ⊢
      have UQ2:=hid (UQ1.out.trans (u.mono fun _ q=>q.elim))
      have ROW2:=hid (ownsRow_upd ROW1.out u fun _ _=>id)
      have RG2:=hid (RG1.out.upd u id id)
      clear u hQ m0 m1 m2 hen
      by_cases hq:Q<=(n:Int)
      case neg =>
       have d1:decide (Q<=(n:Int))=false:=decide_eq_false hq
       rw [d1] at BPX
       rw [BPX.out] at SNOC
       go_wp2_with fail
       go_roundg (NM-(got++[x]).length)
       case measure=>rw [List.length_append];have:=HG2.out;have:=GLN.out;simp;omega
       case rel =>
        refine ⟨got++[x],by rw [List.length_append];have:=GLN.out;simp;omega,rfl,RG2.out,?_,UQ2.out⟩
        rw [SNOC.out]
        simp only [Bool.false_eq_true,if_false,List.append_nil]
        exact ROW2.out
      have d1:decide (Q<=(n:Int))=true:=decide_eq_true hq
      rw [d1] at BPX
      rw [BPX.out] at SNOC
      obtain ⟨v',w4,r4,o4,u4,n4⟩:=append_one elemI ROW2.out #[.int .i64 x] rfl (by simp [Value.oneCell']) (by have:=LE.out;unfold maxLen;omega) (by have:=LE.out;omega) UQ2.out.size 30 (0,0)
      have O4:=hid o4;have R4:=hid r4;have U4:=hid u4
      have OB:=hid (fun i e=>(own_lt ROW2.out i e).1)
      clear o4 u4 n4 r4
      go_wp2_with (at_builtin;refine wpList_append_run rfl _ _ _ _ rfl rfl rfl R4.out ?_)
      go_roundg (NM-(got++[x]).length)
      case measure=>rw [List.length_append];have:=HG2.out;have:=GLN.out;simp;omega
      case rel =>
       refine ⟨got++[x],by rw [List.length_append];have:=GLN.out;simp;omega,rfl,RG2.out.upd U4.out (fun e=>by have:=OB.out _ e;have:=SZ0.out;have:=HMR.out;omega) (fun e=>by have:=OB.out _ e;have:=SZ0.out;omega),?_,UQ2.out.trans (U4.out.mono fun j hj=>.inr (OB.out _ hj))⟩
       rw [SNOC.out,if_pos trivial,List.length_append,List.map_append]
       exact O4.out
  have hlti:(k:Int)<N:=by omega
  have hk1:(k:Int)+1<=100000:=by omega
  have hkl:k<L.length:=by rw [HN.out];exact hlt
  have hka:k<(actsOf L).length:=by rw [HLA.out];exact hlt
  obtain ⟨g,rfl,hc⟩:=GET.out _ UWR.out (by omega)
  have NK:=hid (hc k hkl)
  have EA:(actsOf L)[k]=L[k].a:=acts_get hka hkl
  have STEP:=hid (carTo_succ (s:=s) (kind:=kind) (day:=day) (round:=round) hka)
  rw [EA] at STEP
  have WF:=hid (HWF.out _ (List.getElem_mem hkl))
  have CT:=hid (CTO.out k hk)
  obtain ⟨M,hM⟩:∃ M,carTo s (actsOf L) kind day round k=M:=⟨_,rfl⟩
  rw [hM] at STEP OWN CT
  obtain ⟨c,hcc⟩:∃ c,L[k]=c:=⟨_,rfl⟩
  rw [hcc] at NK STEP WF
  obtain ⟨W3,hW3⟩:∃ W3,W3=wr.alloc (.cells c.cells.toArray 184 (0,0)):=⟨_,rfl⟩
  have u3:Upd (fun _=>False) wr W3:=by rw [hW3];exact (Upd.refl _ _).alloc _
  obtain ⟨eb,heb⟩:∃ eb,wr.heap.size=eb:=⟨_,rfl⟩
  have EB:=hid (show W3.heap[eb]? = some (.cells c.cells.toArray 184 (0,0)) by rw [hW3,<-heb];exact heap_alloc_new)
  obtain ⟨_,q1,q5,q8,q9,_,q14⟩:=act_cells EB.out
  have HW3:=hid hW3;have HEB:=hid heb;have EBW:=hid heb
  have U3:=hid u3
  have UW3:=hid (UWR.out.trans u3)
  have UP3:=hid (UP.out.trans (u3.mono fun _ q=>q.elim))
  obtain ⟨x,hx⟩:∃ x,c.a.en=x:=⟨_,rfl⟩
  obtain ⟨z,hz⟩:∃ z,c.a.value=z:=⟨_,rfl⟩
  have YES:=hid (fun (q:CarP s kind day round M c.a)=>(show carTo s (actsOf L) kind day round (k+1)=putM M z ((M.lookup z).getD []++[x.author]) from by rw [STEP.out];unfold carStep;rw [if_pos q,hz,hx]))
  have NO:=hid (fun (q:¬CarP s kind day round M c.a)=>(show carTo s (actsOf L) kind day round (k+1)=M from by rw [STEP.out];unfold carStep;rw [if_neg q]))
  have CP:=hid (show CarP s kind day round M c.a↔x.kind=kind/\x.m=day/\x.n=round/\0<=z/\x.author∈s.keys/\x.author∉(M.lookup z).getD [] by unfold CarP;rw [hz,hx])
  have KX:=hid hx;have KZ:=hid hz
  rw [hx] at q1 q5 q8 q9 WF
  rw [hz] at q14 WF
  have HB3:=hid ((UW3.out.block _ (heap_lt HB.out) id).trans HB.out)
  obtain ⟨m0,_,_,_⟩:=cells4 HB3.out
  obtain ⟨v0,hl0,hr0⟩:=OWN.out.get2 z WF.out.2
  obtain ⟨W4,hW4⟩:∃ W4,W3.drew=W4:=⟨_,rfl⟩
  have U4W:=hid (show Upd (fun _=>False) wr W4 by rw [<-hW4];exact U3.out.drew)
  have EB4:=hid (show W4.heap[eb]? = some (.cells c.cells.toArray 184 (0,0)) by rw [<-hW4];exact EB.out)
  obtain ⟨v,v',w5,w6,hvb,hlk,⟨va,vn,vc,rfl,hvc,hvn⟩,hap,hu5,hmu,hown,hu6⟩:=OWN.out.put U4W.out z x.author WF.out.2 (Nat.le_trans (CT.out.2.2 z) (by omega)) (Nat.le_trans CT.out.1 (by omega))
  have hv0:v0=.slice va vn vc:=by
   have e1:=hlk W4 (Upd.refl _ _)
   rw [hl0 W4 U4W.out] at e1
   injection e1
  subst hv0
  have hlook:=hl0 W3 u3
  have HVB:=hid hvb;have HLK:=hid hlk;have U5:=hid hu5;have OWN6:=hid hown;have U6:=hid hu6;have HAP:=hid hap;have HMU:=hid hmu;have HD4:=hid hW4
  have IR:=hid (IntRow.of_own (ownsRow_upd hr0 u3 fun _ _=>id))
  have KR:=hid (IntRow.of_rep (HV.out.keep UW3.out).stp.keys)
  have OWN3:=hid (OWN.out.keep u3)
  clear hc hcc hW3 heb u3 hx hz EA hM hl0 hr0 hvb hlk hu5 hown hu6 hap hmu hW4 STEP GET
  go_upto_region 4 with (fail)
  refine wp_region_lit ?_
  refine op_index rfl _ _ _ rfl rfl rfl (act_index hlt hv1 hv2 _) ?_
  (try go_frame)
  refine op_load rfl _ _ rfl rfl (act_load NK.out) ?_
  (try go_frame)
  refine op_alloc rfl _ rfl (act_alloc _) ?_
  (try go_frame)
  refine op_store rfl _ _ _ rfl rfl rfl (act_store _ _) ?_
  rw [<-HW3.out]
  refine wpList_nil ?_
  go_frame
  try rw [HEB.out]
  clear HW3 HEB
  by_cases t1:x.kind=kind
  case neg =>
   as_aux_lemma =>
   have d1:(x.kind==kind)=false:=by simpa using t1
   have ST:=hid (NO.out fun q=>t1 (CP.out.1 q).1)
   go_wp2_with fail
   go_roundg (N-(k+1))
   case measure=>have:=HG.out;omega
   case rel=>exact ⟨k+1,by omega,rfl,by go_num,by rw [ST.out];exact OWN3.out,UP3.out⟩
  have d1:(x.kind==kind)=true:=by simpa using t1
  by_cases t2:x.m=day
  case neg =>
   as_aux_lemma =>
   have d2:(x.m==day)=false:=by simpa using t2
   have ST:=hid (NO.out fun q=>t2 (CP.out.1 q).2.1)
   go_wp2_with fail
   go_roundg (N-(k+1))
   case measure=>have:=HG.out;omega
   case rel=>exact ⟨k+1,by omega,rfl,by go_num,by rw [ST.out];exact OWN3.out,UP3.out⟩
  have d2:(x.m==day)=true:=by simpa using t2
  by_cases t3:x.n=round
  case neg =>
   as_aux_lemma =>
   have d3:(x.n==round)=false:=by simpa using t3
   have ST:=hid (NO.out fun q=>t3 (CP.out.1 q).2.2.1)
   go_wp2_with fail
   go_roundg (N-(k+1))
   case measure=>have:=HG.out;omega
   case rel=>exact ⟨k+1,by omega,rfl,by go_num,by rw [ST.out];exact OWN3.out,UP3.out⟩
  have d3:(x.n==round)=true:=by simpa using t3
  by_cases t4:0<=z
  case neg =>
   as_aux_lemma =>
   have d4:decide (0<=z)=false:=by simpa using t4
   have ST:=hid (NO.out fun q=>t4 (CP.out.1 q).2.2.2.1)
   go_wp2_with fail
   go_roundg (N-(k+1))
   case measure=>have:=HG.out;omega
   case rel=>exact ⟨k+1,by omega,rfl,by go_num,by rw [ST.out];exact OWN3.out,UP3.out⟩
  have d4:decide (0<=z)=true:=by simpa using t4
  go_wp2_with fail
  refine (has_int KR.out x.author).mono ?_
  rintro en y1 ⟨rfl,rfl⟩
  by_cases t5:x.author∈s.keys
  case neg =>
   as_aux_lemma =>
   rw [decide_eq_false t5]
   have ST:=hid (NO.out fun q=>t5 (CP.out.1 q).2.2.2.2.1)
   go_wp2_with fail
   go_roundg (N-(k+1))
   case measure=>have:=HG.out;omega
   case rel=>exact ⟨k+1,by omega,rfl,by go_num,by rw [ST.out];exact OWN3.out,UP3.out⟩
  rw [decide_eq_true t5]
  go_wp2_with fail
  refine (has_int IR.out x.author).mono ?_
  rintro en y2 ⟨rfl,rfl⟩
  by_cases t6:x.author∈(M.lookup z).getD []
  case pos =>
   as_aux_lemma =>
   rw [decide_eq_true t6]
   have ST:=hid (NO.out fun q=>(CP.out.1 q).2.2.2.2.2 t6)
   go_wp2_with fail
   go_roundg (N-(k+1))
   case measure=>have:=HG.out;omega
   case rel=>exact ⟨k+1,by omega,rfl,by go_num,by rw [ST.out];exact OWN3.out,UP3.out⟩
  rw [decide_eq_false t6]
  have ST:=hid (YES.out (CP.out.2 ⟨t1,t2,t3,t4,t5,t6⟩))
  clear q5 q8 q9 m0 hlook t1 t2 t3 t4 t5 t6 d1 d2 d3 d4
  go_upto_region 7 with (fail)
  refine wp_region_g (fun w'=>w'.cell? ⟨eb,14,none⟩=some (.int .i64 z)/\w'.cell? ⟨eb,1,none⟩=some (.int .i64 x.author)) 9 (by kernel_rfl) ?_
  rw [HD4.out]
  clear q1 q14
  have KEEP:=hid (fun (y:World) (u:Upd (fun j=>Value.ownBlock (.slice va vn vc)=some j) W4 y)=>(show y.cell? ⟨eb,14,none⟩=some (.int .i64 z)/\y.cell? ⟨eb,1,none⟩=some (.int .i64 x.author) from by
   have hb:=(u.block eb (heap_lt EB4.out) fun e=>by have:=(HVB.out eb e).2;have:=EBW.out;omega).trans EB4.out
   obtain ⟨_,k1,_,_,_,_,k14⟩:=act_cells hb
   rw [KX.out] at k1
   rw [KZ.out] at k14
   exact ⟨k14,k1⟩))
  have hS:=KEEP.out W4 (Upd.refl _ _)
  refine g_take0 (i:=0) rfl (by kernel_rfl) (by kernel_rfl) (by kernel_rfl) (by decide) (fun _ _ _ h=>h) (yields_move (by kernel_rfl) _ rfl rfl) (fun _=>hS) ?_
  (try go_frame)
  refine g_take0 (i:=1) rfl (by kernel_rfl) (by kernel_rfl) (by kernel_rfl) (by decide) (fun _ _ _ h=>h) (yields_field (by kernel_rfl) _ _ _ rfl rfl (fun w _=>act_field2 _ w)) (fun _=>hS) ?_
  (try go_frame)
  refine g_take (i:=2) rfl (by kernel_rfl) (by kernel_rfl) (by kernel_rfl) (by kernel_rfl) (fun _ _ _ h=>h) (yields_load (by kernel_rfl) _ _ rfl rfl (fun w hw=>int_load0 hw.1)) hS ?_
  (try go_frame)
  refine g_take0 (i:=3) rfl (by kernel_rfl) (by kernel_rfl) (by kernel_rfl) (by decide) (fun _ _ _ h=>h) (yields_move (by kernel_rfl) _ rfl rfl) (fun _=>hS) ?_
  (try go_frame)
  refine g_take0 (i:=4) rfl (by kernel_rfl) (by kernel_rfl) (by kernel_rfl) (by decide) (fun _ _ _ h=>h) (yields_field (by kernel_rfl) _ _ _ rfl rfl (fun w _=>act_field1 _ w)) (fun _=>hS) ?_
  (try go_frame)
  refine g_take0 (i:=5) rfl (by kernel_rfl) (by kernel_rfl) (by kernel_rfl) (by decide) (fun _ _ _ h=>h) (yields_field (by kernel_rfl) _ _ _ rfl rfl (fun w _=>ent_field0 _ w)) (fun _=>hS) ?_
  (try go_frame)
  refine g_take (i:=6) rfl (by kernel_rfl) (by kernel_rfl) (by kernel_rfl) (by kernel_rfl) (fun _ _ _ h=>h) (yields_load (by kernel_rfl) _ _ rfl rfl (fun w hw=>int_load0 hw.2)) hS ?_
  (try go_frame)
  have hS5:=KEEP.out (W4.alloc (.cells #[.int .i64 x.author] 3 (0,0))) ((Upd.refl _ _).alloc _)
  have hS6:=KEEP.out w5 U5.out
  refine g_op (i:=7) (by kernel_rfl) rfl ?_
  go_wp2_with fail
  try with_reducible refine And.intro (fun _=>hS5) ?_
  refine g_op (i:=8) (by kernel_rfl) rfl ?_
  refine wpList_append_run rfl _ _ _ _ rfl rfl rfl HAP.out ?_
  go_wp2_with fail
  try with_reducible refine And.intro (fun _=>hS6) ?_
  refine g_op (i:=9) (by kernel_rfl) rfl ?_
  have hmu:=HMU.out
  go_wp2_with fail
  try with_reducible refine And.intro (fun h=>absurd h (by simp)) ?_
  refine g_done (by kernel_rfl) ?_
  go_wp2_with fail
  go_roundg (N-(k+1))
  case measure=>have:=HG.out;omega
  case rel=>exact ⟨k+1,by omega,rfl,by go_num,by rw [ST.out];exact OWN6.out,UP.out.trans ((U4W.out.mono fun _ q=>q.elim).trans U6.out)⟩
end Go.Proofs.YtjkmalddfoemhaaGreatDoor
