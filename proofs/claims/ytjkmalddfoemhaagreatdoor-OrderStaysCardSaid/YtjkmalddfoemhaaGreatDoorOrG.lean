/- Walks: how a day was closed (decided), the days that are closed (Days). -/
import Derived.Test.YtjkmalddfoemhaaGreatDoorRm
import Derived.Test.YtjkmalddfoemhaaGreatDoorOrF
set_option maxRecDepth 100000
set_option maxHeartbeats 8000000
namespace Go.Proofs.YtjkmalddfoemhaaGreatDoor
open Go.RowKit Go.Deep
theorem findSome_at {α β:Type} {f:α->Option β} {b:β}:∀ {l:List α} {k:Nat} (hk:k<l.length),(∀ i (hi:i<l.length),i<k->f l[i]=none)->f l[k]=some b->l.findSome? f=some b
 | [],_,hk,_,_=>absurd hk (Nat.not_lt_zero _)
 | a::l,0,_,_,hb=>by
   have hb:f a=some b:=hb
   rw [List.findSome?_cons,hb]
 | a::l,k+1,hk,hn,hb=>by
   have h0:f a=none:=hn 0 (Nat.zero_lt_succ _) (Nat.zero_lt_succ _)
   rw [List.findSome?_cons,h0]
   have hk':k<l.length:=Nat.lt_of_succ_lt_succ hk
   refine findSome_at hk' (fun i hi hik=>?_) ?_
   · have:=hn (i+1) (Nat.succ_lt_succ hi) (Nat.succ_lt_succ hik)
     rwa [List.getElem_cons_succ] at this
   · rwa [List.getElem_cons_succ] at hb
theorem findSome_no {α β:Type} {f:α->Option β} {l:List α} (h:∀ i (hi:i<l.length),f l[i]=none):l.findSome? f=none:=by
 rw [List.findSome?_eq_none_iff]
 intro x hx
 obtain ⟨i,hi,rfl⟩:=List.getElem_of_mem hx
 exact h i hi
theorem rounds_few (acts:List ActP) (kind day:Int):(roundsF acts kind day).length<=acts.length:=by
 obtain ⟨h1,h2⟩:=rising_ok (roundL acts kind day)
 refine Nat.le_trans (nodup_sub_len (h1.imp fun h e=>by subst e;exact absurd h (Int.lt_irrefl _)) fun x hx=>(h2 x).1 hx) ?_
 have:=roundTo_len acts kind day acts.length
 rwa [roundTo_all (Nat.le_refl _)] at this
theorem rounds_wf {L:List AcC} (h:∀ c∈L,I64 c.a.en.n) {kind day n:Int} (hn:n∈roundsF (actsOf L) kind day):I64 n:=by
 obtain ⟨a,ha,_,_,rfl⟩:=mem_roundL.1 ((rising_ok _).2 n |>.1 hn)
 unfold actsOf at ha
 obtain ⟨c,hc,rfl⟩:=List.mem_map.1 ha
 exact h c hc
theorem car_key {s:Stp} {kind day round:Int}:∀ (acts:List ActP) {l:List (Int×List Int)} {x:Int},x∈(acts.foldl (carStep s kind day round) l).map Prod.fst->x∈l.map Prod.fst\/∃ a∈acts,a.value=x
 | [],_,_,h=>.inl h
 | a::acts,l,x,h=>by
   rw [List.foldl_cons] at h
   rcases car_key acts h with q | ⟨b,hb,e⟩
   · unfold carStep at q
     split at q
     · unfold putM delM at q
       rw [List.map_cons,List.mem_cons] at q
       rcases q with rfl | q
       · exact .inr ⟨a,List.mem_cons_self,rfl⟩
       · obtain ⟨p,hp,rfl⟩:=List.mem_map.1 q
         exact .inl (List.mem_map.2 ⟨p,(List.mem_filter.1 hp).1,rfl⟩)
     · exact .inl q
   · exact .inr ⟨b,List.mem_cons_of_mem _ hb,e⟩
theorem decided_val {s:Stp} {acts:List ActP} {day:Int} {x:Int×Int} (e:decidedF s acts day=some x):∃ a∈acts,a.value=x.1:=by
 obtain ⟨n,_,hr⟩:=List.exists_of_findSome?_eq_some e
 unfold inRound at hr
 cases hc:carriedF s acts 20 day n with
 | nil=>rw [hc] at hr;cases hr
 | cons v r =>
   rw [hc] at hr
   injection hr with hr
   subst hr
   have h1:v∈carriedF s acts 20 day n:=by rw [hc];exact List.mem_cons_self
   unfold carriedF at h1
   rw [sortI_mem] at h1
   unfold bigL at h1
   obtain ⟨p,hp,rfl⟩:=List.mem_map.1 h1
   rcases car_key acts (List.mem_map.2 ⟨p,(List.mem_filter.1 hp).1,rfl⟩:p.1∈(carL s acts 20 day n).map Prod.fst) with q | q
   · cases q
   · exact q
def dayV (p:Int×Int):Value:=.agg #[.int .i64 p.1,.int .i64 p.2]
def DecPost (o:Option (Int×Int)) (w:World) (e:Ending) (w':World):Prop:=e=.returned (.tuple #[dayV (o.getD (0,0)),.bool o.isSome])/\Upd (fun _=>False) w w'
theorem cellsD {w:World} {p:Nat} {a b:Value} {t:TypeId} (h:w.heap[p]? = some (.cells #[a,b] t (0,0))):w.cell? ⟨p,0,none⟩=some a/\w.cell? ⟨p,1,none⟩=some b:=by
 refine ⟨?_,?_⟩<;>(rw [cell_of_block h];rfl)
theorem decided_any {A:Nat->Prop} {B:Nat} {s:Stp} {ak:Option Addr} {ck:Nat} {av:Option Addr} {cv:Nat} {L:List AcC} {w:World} (h:VwAt w A B s ak ck av cv L) (ok:StpOk s) (day:Int):Calls Tryz.prog 121 #[viewV s ak ck av L.length cv,.int .i64 day] w (DecPost (decidedF s (actsOf L) day) w):=by
 obtain ⟨W1,hW1⟩:∃ W1,W1=w.alloc (.cells #[.slice ak s.keys.length ck,.int .i64 s.liars,.int .i64 s.seed,.slice av L.length cv] 167 (0,0)):=⟨_,rfl⟩
 have u1:Upd (fun _=>False) w W1:=by rw [hW1];exact (Upd.refl _ _).alloc _
 have hb1:W1.heap[w.heap.size]? = some (.cells #[.slice ak s.keys.length ck,.int .i64 s.liars,.int .i64 s.seed,.slice av L.length cv] 167 (0,0)):=by rw [hW1];exact heap_alloc_new
 obtain ⟨W2,hW2⟩:∃ W2,W2=W1.alloc (.cells #[.int .i64 0,.int .i64 0] 89 (0,0)):=⟨_,rfl⟩
 have u2:Upd (fun _=>False) W1 W2:=by rw [hW2];exact (Upd.refl _ _).alloc _
 have HD:=hid (show W2.heap[W1.heap.size]? = some (.cells #[.int .i64 0,.int .i64 0] 89 (0,0)) by rw [hW2];exact heap_alloc_new)
 have HB:=hid (show W2.heap[w.heap.size]? = some (.cells #[.slice ak s.keys.length ck,.int .i64 s.liars,.int .i64 s.seed,.slice av L.length cv] 167 (0,0)) from (u2.block _ (heap_lt hb1) id).trans hb1)
 have HV:=hid (h.keep (u1.trans u2));have U:=hid (u1.trans u2)
 obtain ⟨p,hp⟩:∃ p,w.heap.size=p:=⟨_,rfl⟩
 have hq:W1.heap.size=p+1:=by rw [hW1,<-hp];simp
 have HPQ:=hid (show w.heap.size<=p+1 by omega)
 rw [hp] at HB
 rw [hq] at HD
 have HP:=hid hp;have HW:=hid hW1;have HW2:=hid hW2
 have HOK:=hid ok
 have RWF:=hid (fun n (hn:n∈roundsF (actsOf L) 20 day)=>rounds_wf (fun c hc=>(h.wf c hc).1) hn)
 have RFW:=hid (show (roundsF (actsOf L) 20 day).length<=1000 from Nat.le_trans (rounds_few _ _ _) (by unfold actsOf;rw [List.length_map];exact h.few))
 have DEC:=hid (show decidedF s (actsOf L) day=(roundsF (actsOf L) 20 day).findSome? (inRound s (actsOf L) day) from rfl)
 clear hW1 hW2 u1 u2 hb1 h hp hq ok
 unfold viewV
 go_enter Tryz.func121,Tryz.ntmps121
 go_upto_region 1 with (fail)
 rw [<-HW.out]
 try rw [HP.out]
 rw [<-HW2.out]
 obtain ⟨m0,m1,m2,m3⟩:=cells4 HB.out
 clear HW HW2
 go_wp2_with fail
 refine (rounds_any HV.out 20 day).mono ?_
 rintro en x1 ⟨vr,rfl,ho,u⟩
 have U1:=hid u
 obtain ⟨Rn,hRn⟩:∃ Rn,roundsF (actsOf L) 20 day=Rn:=⟨_,rfl⟩
 rw [hRn] at ho RWF RFW DEC
 have ROW:=hid ho
 obtain ⟨ar,cr,rfl,hr1,hr2⟩:=own_slice ho
 have hr2:cr<=9223372036854775807:=hr2
 have CELL:=hid (fun (y:World) (u:Upd (fun _=>False) x1 y)=>IntRow.of_own (ownsRow_upd ROW.out u fun _ _=>id))
 obtain ⟨n,hn⟩:∃ n,Rn.length=n:=⟨_,rfl⟩
 have HN:=hid hn
 rw [hn] at hr1 RFW ⊢
 have hn1000:=RFW.out
 clear ho u hRn hn m0 m1 m2 m3 ROW
 go_wp2_with fail
 go_loopg [13] n (fun gg s13 wr=>∃ k:Nat,k<=n/\gg=n-k/\s13=.int .i64 k/\(∀ i (hi:i<Rn.length),i<k->inRound s (actsOf L) day Rn[i]=none)/\Upd (fun _=>False) x1 wr)
 case atStart=>exact ⟨0,Nat.zero_le _,rfl,rfl,fun i _ q=>absurd q (Nat.not_lt_zero _),Upd.refl _ _⟩
 case round =>
  obtain ⟨k,hk,hg,rfl,hf,u⟩:=hrel
  have HG:=hid hg;have HF:=hid hf;have UX:=hid u
  have UC:=hid (U1.out.trans u)
  clear hg hf u
  have HDR:=hid ((UC.out.block _ (heap_lt HD.out) id).trans HD.out)
  have HBR:=hid ((UC.out.block _ (heap_lt HB.out) id).trans HB.out)
  by_cases hlt:k<n
  case neg =>
   as_aux_lemma =>
   have hlti:¬(k:Int)<n:=by omega
   have NONE:=hid (show decidedF s (actsOf L) day=none by rw [DEC.out];exact findSome_no fun i hi=>HF.out i hi (by rw [HN.out] at hi;omega))
   obtain ⟨z0,z1⟩:=cellsD HDR.out
   have hfz:∀ o,wr.frozen? ⟨p+1,o,none⟩=false:=fun o=>frozen_of_block HDR.out
   have UE:=hid (fun (a b:Value)=>(show Upd (fun _=>False) w ((wr.setCell ⟨p+1,0,none⟩ a).setCell ⟨p+1,1,none⟩ b) from ((U.out.trans UC.out).setCell ⟨p+1,0,none⟩ a (.inr HPQ.out)).setCell ⟨p+1,1,none⟩ b (.inr HPQ.out)))
   clear HBR CELL
   go_wp2_with fail
   refine bodyPost_ret (v:=.tuple #[.agg #[.int .i64 0,.int .i64 0],.bool false]) (by rw [results_cell_tmp rfl];go_simp) rfl ?_
   rw [NONE.out]
   exact ⟨rfl,UE.out _ _⟩
  have hlti:(k:Int)<n:=by omega
  have hk1:(k:Int)+1<=100000:=by omega
  have hkl:k<Rn.length:=by rw [HN.out];exact hlt
  obtain ⟨_,_,e9,_,_,hc9⟩:=CELL.out wr UX.out
  obtain ⟨g,o,rfl,hcell⟩:∃ g o,ar=some ⟨g,o,none⟩/\∀ i (hi:i<Rn.length),wr.cell? ⟨g,o+i,none⟩=some (.int .i64 Rn[i]):=by
   obtain ⟨g,o,e1,e2⟩:=hc9 (by omega)
   injection e9 with e9 _ _
   exact ⟨g,o,by rw [e9,e1],e2⟩
  have c0:=hcell k hkl
  have FULL:=hid (fun b (hb:inRound s (actsOf L) day Rn[k]=some b)=>(show decidedF s (actsOf L) day=some b by rw [DEC.out];exact findSome_at hkl (fun i hi hik=>HF.out i hi hik) hb))
  have NEXT:=hid (fun (hb:inRound s (actsOf L) day Rn[k]=none)=>(show ∀ i (hi:i<Rn.length),i<k+1->inRound s (actsOf L) day Rn[i]=none from fun i hi hik=>by
   by_cases e:i=k
   · subst e;exact hb
   · exact HF.out i hi (by omega)))
  obtain ⟨m,hm⟩:∃ m,Rn[k]=m:=⟨_,rfl⟩
  rw [hm] at c0 FULL NEXT
  obtain ⟨m0,m1,m2,m3⟩:=cells4 HBR.out
  clear hm hcell e9 hc9 CELL
  go_wp2_with fail
  refine (carried_any (HV.out.keep UC.out) HOK.out 20 day m).mono ?_
  rintro en x2 ⟨vc,rfl,ho,u⟩
  have U2:=hid u
  have INR:=hid (show inRound s (actsOf L) day m=match carriedF s (actsOf L) 20 day m with | []=>none | v::_=>some (v,m) from rfl)
  obtain ⟨C,hC⟩:∃ C,carriedF s (actsOf L) 20 day m=C:=⟨_,rfl⟩
  rw [hC] at ho INR
  have IR:=hid (IntRow.of_own ho)
  obtain ⟨ac,cc,rfl,hc1,hc2⟩:=own_slice ho
  have hc2:cc<=9223372036854775807:=hc2
  have HD2:=hid ((u.block _ (heap_lt HDR.out) id).trans HDR.out)
  have UX2:=hid (UX.out.trans u)
  clear ho u hC m0 m1 m2 m3 c0 HBR HDR
  cases C with
  | nil =>
    as_aux_lemma =>
    have NX:=hid (NEXT.out INR.out)
    have z:(([]:List Int).length:Int)=0:=rfl
    go_wp2_with fail
    go_roundg (n-(k+1))
    case measure=>have:=HG.out;omega
    case rel=>exact ⟨k+1,by omega,rfl,by go_num,NX.out,UX2.out⟩
  | cons x C =>
    as_aux_lemma =>
    have SOME:=hid (FULL.out _ INR.out)
    obtain ⟨_,_,e9,_,_,hc9⟩:=IR.out
    obtain ⟨g2,o2,rfl,hx⟩:∃ g o,ac=some ⟨g,o,none⟩/\x2.cell? ⟨g,o,none⟩=some (.int .i64 x):=by
     obtain ⟨g,o,e1,e2⟩:=hc9 (Nat.zero_lt_succ _)
     injection e9 with e9 _ _
     exact ⟨g,o,by rw [e9,e1],e2 0 (Nat.zero_lt_succ _)⟩
    obtain ⟨nl,hnl⟩:∃ nl,(x::C).length=nl:=⟨_,rfl⟩
    rw [hnl] at hc1 ⊢
    have hnp:0<nl:=by rw [<-hnl];exact Nat.zero_lt_succ _
    have hnpi:(0:Int)<nl:=by omega
    have d0:decide ((0:Int)<(nl:Int))=true:=decide_eq_true hnpi
    have d1:decide (0<nl)=true:=decide_eq_true hnp
    obtain ⟨z0,z1⟩:=cellsD HD2.out
    have hfz:∀ o,x2.frozen? ⟨p+1,o,none⟩=false:=fun o=>frozen_of_block HD2.out
    have UE:=hid (fun (a b:Value)=>(show Upd (fun _=>False) w ((x2.setCell ⟨p+1,0,none⟩ a).setCell ⟨p+1,1,none⟩ b) from (((U.out.trans UC.out).trans U2.out).setCell ⟨p+1,0,none⟩ a (.inr HPQ.out)).setCell ⟨p+1,1,none⟩ b (.inr HPQ.out)))
    clear e9 hc9 hnl IR NEXT FULL INR
    go_wp2_with fail
    refine bodyPost_ret (v:=.tuple #[.agg #[.int .i64 x,.int .i64 m],.bool true]) (by rw [results_cell_tmp rfl];go_simp) rfl ?_
    rw [SOME.out]
    exact ⟨rfl,UE.out _ _⟩
def dyCells (p:Int×Int):List Value:=[.int .i64 p.1,.int .i64 p.2]
def dyFlat (l:List (Int×Int)):List Value:=(l.map dyCells).flatten
theorem dyFlat_snoc (l:List (Int×Int)) (p:Int×Int):dyFlat (l++[p])=dyFlat l++dyCells p:=by unfold dyFlat;simp
theorem dyFlat_get (l:List (Int×Int)) (i:Nat) (h:i<l.length) (j:Nat) (hj:j<2):(dyFlat l)[i*2+j]? = (dyCells l[i])[j]?:=flat_get (f:=dyCells) (n:=2) (fun _=>rfl) l i h j hj
def DysAt (w:World) (B:Nat) (v:Value) (l:List (Int×Int)):Prop:=w.ownsRow B 89 2 v l.length (dyFlat l)
theorem DysAt.get {w:World} {B:Nat} {v:Value} {l:List (Int×Int)} (h:DysAt w B v l) (hp:0<l.length):∃ g cap,v=.slice (some ⟨g,0,none⟩) l.length cap/\l.length<=cap/\cap<=maxLen/\B<=g/\g<w.heap.size ∧
 ∀ i (hi:i<l.length),w.cell? ⟨g,i*2,none⟩=some (.int .i64 l[i].1)/\w.cell? ⟨g,i*2+1,none⟩=some (.int .i64 l[i].2):=by
 obtain ⟨h1,⟨h2,h3⟩ | ⟨g,cap,cur,hv,hb,hg,hn,hc,hs,ht⟩⟩:=h
 · omega
 · refine ⟨g,cap,hv,hn,hc,hb,heap_lt hg,fun i hi=>?_⟩
   have key:∀ j,j<2->w.cell? ⟨g,i*2+j,none⟩=(dyCells l[i])[j]?:=fun j hj=>by
    rw [cell_of_block hg,<-dyFlat_get l i hi j hj,<-ht,List.getElem?_take,if_pos,Array.getElem?_toList]
    calc i*2+j<i*2+2:=by omega
     _=(i+1)*2:=by omega
     _<=l.length*2:=Nat.mul_le_mul_right _ hi
   exact ⟨key 0 (by decide),key 1 (by decide)⟩
theorem elemDy:ElemTy Tryz.prog 83 89 2 16:=ElemTy.mk' (z:=.agg #[.int .i64 0,.int .i64 0]) Tryz.underlying83 (by kernel_rfl) (by rfl) (by decide)
theorem stp_load {w:World} {p:Nat} {s:Stp} {ak:Option Addr} {ck:Nat} (h0:w.cell? ⟨p,0,none⟩=some (.slice ak s.keys.length ck)) (h1:w.cell? ⟨p,1,none⟩=some (.int .i64 s.liars)) (h2:w.cell? ⟨p,2,none⟩=some (.int .i64 s.seed)):(Instr.loadAt 60 (.pointer (some ⟨p,0,none⟩))).run Tryz.prog w=.ok (stpV s ak ck) w:=by
 unfold stpV
 unfold Instr.loadAt
 go_simp
def DaysOf (s:Stp) (hs:Hs) (l:List (Int×Int)):Prop:=(StpOk s->DaysIs s (seeF hs (marksF hs)) l)/\(¬StpOk s->l=[])
theorem days_of_unique {s:Stp} {hs:Hs} {l k:List (Int×Int)} (a:DaysOf s hs l) (b:DaysOf s hs k):l=k:=by
 by_cases h:StpOk s
 · exact days_unique (a.1 h) (b.1 h)
 · rw [a.2 h,b.2 h]
def DaysPost (s:Stp) (hs:Hs) (w:World) (e:Ending) (w':World):Prop:=∃ v l,e=.returned v/\DaysOf s hs l/\(l.length<=60/\∀ d∈l,(Lit.int .i64 d.1).wf=true)/\DysAt w' w.heap.size v l/\Upd (fun _=>False) w w'
theorem days_any {O Or A:Nat->Prop} {b r:Nat} {hs:Hs} {R:Rg} {s:Stp} {ak:Option Addr} {ck:Nat} {w:World} (h:HPre w O Or b r hs R) (hst:StpAt w A s ak ck) (hA:∀ g,A g->g<w.heap.size) (hk:s.keys.length<=1000):Calls Tryz.prog 50 #[.pointer (some ⟨b,0,none⟩),stpV s ak ck] w (DaysPost s hs w):=by
 obtain ⟨W1,hW1⟩:∃ W1,W1=w.alloc (.cells #[.slice ak s.keys.length ck,.int .i64 s.liars,.int .i64 s.seed] 60 (0,0)):=⟨_,rfl⟩
 have u1:Upd (fun _=>False) w W1:=by rw [hW1];exact (Upd.refl _ _).alloc _
 have HB:=hid (show W1.heap[w.heap.size]? = some (.cells #[.slice ak s.keys.length ck,.int .i64 s.liars,.int .i64 s.seed] 60 (0,0)) by rw [hW1];exact heap_alloc_new)
 have HH:=hid (h.keep u1);have HS:=hid (hst.keep u1);have U:=hid u1;have HW:=hid hW1
 have HA:=hid (fun (y:World) (u:Upd (fun _=>False) W1 y) g (q:A g)=>(show g<y.heap.size from Nat.lt_of_lt_of_le (hA g q) (Nat.le_trans u1.size u.size)))
 have HK:=hid hk
 have ML:=hid (show (marksF hs).length<=60 by rw [marksF_len];exact Nat.le_trans h.plain.len h.few)
 have MI:=hid (show ∀ x∈marksF hs,I64 x from mark_i64 h.plain h.few)
 obtain ⟨p,hp⟩:∃ p,w.heap.size=p:=⟨_,rfl⟩
 rw [hp] at HB
 have HP:=hid hp
 clear hW1 u1 h hst hA hk hp
 unfold stpV
 go_enter Tryz.func50,Tryz.ntmps50
 go_upto_region 1 with (fail)
 rw [<-HW.out]
 try rw [HP.out]
 obtain ⟨m0,m1,m2⟩:=cells3s HB.out
 clear HW
 go_wp2_with fail
 refine (sright_any HS.out (HA.out _ (Upd.refl _ _)) HK.out).mono ?_
 rintro en X ⟨⟨bo,rfl,hbo⟩,u⟩
 have UX:=hid u;have HBO:=hid hbo
 have HBX:=hid ((u.block _ (heap_lt HB.out) id).trans HB.out)
 clear u hbo m0 m1 m2
 cases bo with
 | false =>
   go_wp2_with fail
   go_ret
   exact ⟨_,[],rfl,⟨fun q=>absurd (HBO.out.2 q) (by decide),fun _=>rfl⟩,⟨Nat.zero_le _,fun d hd=>(nomatch hd)⟩,World.ownsRow_nil _ _ _ _,U.out.trans UX.out⟩
 | true =>
   have OKS:=hid (HBO.out.1 rfl)
   clear HBO
   obtain ⟨m0,m1,m2⟩:=cells3s HBX.out
   go_upto_region 3 with (fail)
   go_cut [5] (fun s5 wx=>∃ vb av cv L,s5=.pointer (some ⟨vb,0,none⟩)/\wx.heap[vb]? = some (.cells (vwCells s ak ck av L.length cv) 167 (0,0))/\actsOf L=seeF hs (marksF hs)/\VwAt wx A W1.heap.size s ak ck av cv L/\L.length<=60/\Upd (fun _=>False) X wx)
   case first =>
    obtain ⟨Wd,hWd⟩:∃ Wd,X.drew=Wd:=⟨_,rfl⟩
    have UD:=hid (show Upd (fun _=>False) X Wd by rw [<-hWd];exact (Upd.refl _ _).drew)
    have SHOW:=hid (fun (y:World) (u:Upd (fun _=>False) X y)=>(show y.cell? ⟨p,0,none⟩=some (.slice ak s.keys.length ck)/\y.cell? ⟨p,1,none⟩=some (.int .i64 s.liars)/\y.cell? ⟨p,2,none⟩=some (.int .i64 s.seed) from cells3s ((u.block _ (heap_lt HBX.out) id).trans HBX.out)))
    refine wp_region_g (fun y=>y.cell? ⟨p,0,none⟩=some (.slice ak s.keys.length ck)/\y.cell? ⟨p,1,none⟩=some (.int .i64 s.liars)/\y.cell? ⟨p,2,none⟩=some (.int .i64 s.seed)) 6 (by kernel_rfl) ?_
    rw [hWd]
    have hS:=SHOW.out Wd UD.out
    clear hWd m0 m1 m2
    refine g_take0 (i:=0) rfl (by kernel_rfl) (by kernel_rfl) (by kernel_rfl) (by decide) (fun _ _ _ h=>h) (yields_move (by kernel_rfl) _ rfl rfl) (fun _=>hS) ?_
    (try go_frame)
    refine g_take0 (i:=2) rfl (by kernel_rfl) (by kernel_rfl) (by kernel_rfl) (by decide) (fun _ _ _ h=>h) (yields_move (by kernel_rfl) _ rfl rfl) (fun _=>hS) ?_
    (try go_frame)
    refine g_take (i:=1) rfl (by kernel_rfl) (by kernel_rfl) (by kernel_rfl) (by kernel_rfl) (fun _ _ _ h=>h) (yields_load (by kernel_rfl) _ _ rfl rfl (fun y hy=>stp_load hy.1 hy.2.1 hy.2.2)) hS ?_
    (try go_frame)
    refine g_two (i:=3) (j:=5) (by kernel_rfl) rfl rfl ?_ ?_
    · go_wp2_with fail
      refine (hmarks_any (HH.out.keep (UX.out.trans UD.out)).his).mono ?_
      rintro en y1 ⟨vm,rfl,ho,u⟩
      have Y1:=hid (UD.out.trans u)
      have RM:=hid (ints_rep ho MI.out)
      obtain ⟨am,cm,rfl,_,_⟩:=own_slice ho
      clear ho u
      go_wp2_with fail
      first | (refine ⟨fun _=>SHOW.out y1 Y1.out,?_⟩) | (refine ⟨SHOW.out y1 Y1.out,?_⟩) | (try with_reducible refine And.intro (fun h=>absurd h (by simp)) ?_)
      (try go_frame)
      refine g_two (i:=4) (j:=5) (by kernel_rfl) rfl rfl ?_ ?_
      · as_aux_lemma =>
        go_wp2_with fail
        refine (see_any (HH.out.keep (UX.out.trans Y1.out)) (HS.out.keep (UX.out.trans Y1.out)) (HA.out _ (UX.out.trans Y1.out)) (RM.out) (fun g hg=>hg.2) (Nat.le_trans ML.out (by decide)) MI.out).mono ?_
        rintro en y2 ⟨av,cv,L,rfl,hL,hact,hwf,u⟩
        unfold viewV
        have Y2:=hid (Y1.out.trans u)
        have HL:=hid hL;have WF:=hid hwf
        have ACT:=hid (ownsRow_base hact (Nat.le_trans UX.out.size Y1.out.size):ActsAt y2 W1.heap.size (.slice av L.length cv) L)
        clear hL hact hwf u
        go_wp2_with fail
        first | (refine ⟨fun _=>SHOW.out y2 Y2.out,?_⟩) | (refine ⟨SHOW.out y2 Y2.out,?_⟩) | (try with_reducible refine And.intro (fun h=>absurd h (by simp)) ?_)
        (try go_frame)
        refine g_op (i:=5) (by kernel_rfl) rfl ?_
        go_wp2_with fail
        obtain ⟨y3,hz⟩:∃ z,y2.alloc (.cells #[.slice none 0 0,.int .i64 0,.int .i64 0,.slice none 0 0] 167 (0,0))=z:=⟨_,rfl⟩
        have ZB:=hid (show y3.heap[y2.heap.size]? = some (.cells #[.slice none 0 0,.int .i64 0,.int .i64 0,.slice none 0 0] 167 (0,0)) by rw [<-hz];exact heap_alloc_new)
        have Y3:=hid (show Upd (fun _=>False) X y3 by rw [<-hz];exact Y2.out.alloc _)
        obtain ⟨vb,hvb⟩:∃ vb,y2.heap.size=vb:=⟨_,rfl⟩
        have VB:=hid (show X.heap.size<=vb by rw [<-hvb];exact Y2.out.size)
        try rw [hz]
        rw [hvb] at ZB
        try rw [hvb]
        have Y2SZ:=hid (show y2.heap.size=vb from hvb);have Y23:=hid (show Upd (fun _=>False) y2 y3 by rw [<-hz];exact (Upd.refl _ _).alloc _)
        clear hz hvb
        first | (refine ⟨fun _=>SHOW.out y3 Y3.out,?_⟩) | (refine ⟨SHOW.out y3 Y3.out,?_⟩) | (try with_reducible refine And.intro (fun h=>absurd h (by simp)) ?_)
        (try go_frame)
        have NVB:=hid (show (Value.slice av L.length cv).ownBlock≠some vb from fun hg=>by have h1:=(rowlt ACT.out vb hg).2;have h2:=Y2SZ.out;omega)
        refine g_op (i:=6) (by kernel_rfl) rfl ?_
        obtain ⟨w9,r9,h9,u9⟩:=view_old (s:=s) (ak:=ak) (ck:=ck) (av:=av) (n:=L.length) (cv:=cv) ZB.out
        unfold viewV at r9
        refine op_store rfl _ _ _ rfl rfl rfl r9 ?_
        go_wp2_with fail
        try with_reducible refine And.intro (fun h=>absurd h (by simp)) ?_
        refine g_done (by kernel_rfl) ?_
        go_wp2_with fail
        have LL:=hid (show L.length<=60 by
         have e:=congrArg List.length HL.out
         unfold actsOf at e
         rw [List.length_map] at e
         rw [e]
         unfold seeF
         exact Nat.le_trans (List.length_filterMap_le _ _) ML.out)
        have U9:=hid (show Upd (fun _=>False) X w9 from Y3.out.comp u9 fun i hi e=>by have:=VB.out;omega)
        go_meet
        case rel =>
         refine ⟨vb,av,cv,L,rfl,h9,HL.out,⟨HS.out.keep (UX.out.trans U9.out),ownsRow_upd (ownsRow_upd ACT.out (Y23.out) fun _ _=>id) u9 fun g hg e=>?_,HA.out _ (UX.out.trans U9.out),HK.out,Nat.le_trans LL.out (by decide),WF.out⟩,LL.out,U9.out⟩
         subst e
         exact NVB.out hg
      · as_aux_lemma =>
        go_wp2_with fail
        obtain ⟨y3,hz⟩:∃ z,y1.alloc (.cells #[.slice none 0 0,.int .i64 0,.int .i64 0,.slice none 0 0] 167 (0,0))=z:=⟨_,rfl⟩
        have ZB:=hid (show y3.heap[y1.heap.size]? = some (.cells #[.slice none 0 0,.int .i64 0,.int .i64 0,.slice none 0 0] 167 (0,0)) by rw [<-hz];exact heap_alloc_new)
        have Y3:=hid (show Upd (fun _=>False) X y3 by rw [<-hz];exact Y1.out.alloc _)
        obtain ⟨vb,hvb⟩:∃ vb,y1.heap.size=vb:=⟨_,rfl⟩
        have VB:=hid (show X.heap.size<=vb by rw [<-hvb];exact Y1.out.size)
        try rw [hz]
        rw [hvb] at ZB
        try rw [hvb]
        have VB3:=hid (show vb<y3.heap.size by rw [<-hz,<-hvb];simp);have Y13:=hid (show Upd (fun _=>False) y1 y3 by rw [<-hz];exact (Upd.refl _ _).alloc _)
        clear hz hvb
        first | (refine ⟨fun _=>SHOW.out y3 Y3.out,?_⟩) | (refine ⟨SHOW.out y3 Y3.out,?_⟩) | (try with_reducible refine And.intro (fun h=>absurd h (by simp)) ?_)
        (try go_frame)
        refine g_op (i:=4) (by kernel_rfl) rfl ?_
        go_wp2_with fail
        refine (see_any (HH.out.keep (UX.out.trans Y3.out)) (HS.out.keep (UX.out.trans Y3.out)) (HA.out _ (UX.out.trans Y3.out)) (kInts.keep RM.out (Same.of_upd Y13.out fun _ _=>id)) (fun g hg=>Nat.lt_of_lt_of_le hg.2 Y13.out.size) (Nat.le_trans ML.out (by decide)) MI.out).mono ?_
        rintro en y2 ⟨av,cv,L,rfl,hL,hact,hwf,u⟩
        unfold viewV
        have Y2:=hid (Y3.out.trans u)
        have HL:=hid hL;have WF:=hid hwf
        have ACT:=hid (ownsRow_base hact (Nat.le_trans UX.out.size Y3.out.size):ActsAt y2 W1.heap.size (.slice av L.length cv) L)
        replace ZB:=hid ((u.block _ (heap_lt ZB.out) id).trans ZB.out)
        have ACT0:=hid (hact:ActsAt y2 y3.heap.size (.slice av L.length cv) L)
        clear hL hact hwf u
        go_wp2_with fail
        first | (refine ⟨fun _=>SHOW.out y2 Y2.out,?_⟩) | (refine ⟨SHOW.out y2 Y2.out,?_⟩) | (try with_reducible refine And.intro (fun h=>absurd h (by simp)) ?_)
        (try go_frame)
        have NVB:=hid (show (Value.slice av L.length cv).ownBlock≠some vb from fun hg=>by have h1:=(rowlt ACT0.out vb hg).1;have h2:=VB3.out;omega)
        refine g_op (i:=6) (by kernel_rfl) rfl ?_
        obtain ⟨w9,r9,h9,u9⟩:=view_old (s:=s) (ak:=ak) (ck:=ck) (av:=av) (n:=L.length) (cv:=cv) ZB.out
        unfold viewV at r9
        refine op_store rfl _ _ _ rfl rfl rfl r9 ?_
        go_wp2_with fail
        try with_reducible refine And.intro (fun h=>absurd h (by simp)) ?_
        refine g_done (by kernel_rfl) ?_
        go_wp2_with fail
        have LL:=hid (show L.length<=60 by
         have e:=congrArg List.length HL.out
         unfold actsOf at e
         rw [List.length_map] at e
         rw [e]
         unfold seeF
         exact Nat.le_trans (List.length_filterMap_le _ _) ML.out)
        have U9:=hid (show Upd (fun _=>False) X w9 from Y2.out.comp u9 fun i hi e=>by have:=VB.out;omega)
        go_meet
        case rel =>
         refine ⟨vb,av,cv,L,rfl,h9,HL.out,⟨HS.out.keep (UX.out.trans U9.out),ownsRow_upd (ACT.out) u9 fun g hg e=>?_,HA.out _ (UX.out.trans U9.out),HK.out,Nat.le_trans LL.out (by decide),WF.out⟩,LL.out,U9.out⟩
         subst e
         exact NVB.out hg
    · as_aux_lemma =>
      go_wp2_with fail
      obtain ⟨y3,hz⟩:∃ z,Wd.alloc (.cells #[.slice none 0 0,.int .i64 0,.int .i64 0,.slice none 0 0] 167 (0,0))=z:=⟨_,rfl⟩
      have ZB:=hid (show y3.heap[Wd.heap.size]? = some (.cells #[.slice none 0 0,.int .i64 0,.int .i64 0,.slice none 0 0] 167 (0,0)) by rw [<-hz];exact heap_alloc_new)
      have Y3:=hid (show Upd (fun _=>False) X y3 by rw [<-hz];exact UD.out.alloc _)
      obtain ⟨vb,hvb⟩:∃ vb,Wd.heap.size=vb:=⟨_,rfl⟩
      have VB:=hid (show X.heap.size<=vb by rw [<-hvb];exact UD.out.size)
      try rw [hz]
      rw [hvb] at ZB
      try rw [hvb]
      have VB3:=hid (show vb<y3.heap.size by rw [<-hz,<-hvb];simp)
      clear hz hvb
      first | (refine ⟨fun _=>SHOW.out y3 Y3.out,?_⟩) | (refine ⟨SHOW.out y3 Y3.out,?_⟩) | (try with_reducible refine And.intro (fun h=>absurd h (by simp)) ?_)
      (try go_frame)
      refine g_op (i:=3) (by kernel_rfl) rfl ?_
      go_wp2_with fail
      refine (hmarks_any (HH.out.keep (UX.out.trans Y3.out)).his).mono ?_
      rintro en y1 ⟨vm,rfl,ho,u⟩
      have Y1:=hid (Y3.out.trans u)
      replace VB3:=hid (Nat.lt_of_lt_of_le VB3.out u.size);have RM:=hid (ints_rep ho MI.out)
      obtain ⟨am,cm,rfl,_,_⟩:=own_slice ho
      replace ZB:=hid ((u.block _ (heap_lt ZB.out) id).trans ZB.out)
      clear ho u
      go_wp2_with fail
      first | (refine ⟨fun _=>SHOW.out y1 Y1.out,?_⟩) | (refine ⟨SHOW.out y1 Y1.out,?_⟩) | (try with_reducible refine And.intro (fun h=>absurd h (by simp)) ?_)
      (try go_frame)
      refine g_op (i:=4) (by kernel_rfl) rfl ?_
      go_wp2_with fail
      refine (see_any (HH.out.keep (UX.out.trans Y1.out)) (HS.out.keep (UX.out.trans Y1.out)) (HA.out _ (UX.out.trans Y1.out)) (RM.out) (fun g hg=>hg.2) (Nat.le_trans ML.out (by decide)) MI.out).mono ?_
      rintro en y2 ⟨av,cv,L,rfl,hL,hact,hwf,u⟩
      unfold viewV
      have Y2:=hid (Y1.out.trans u)
      have HL:=hid hL;have WF:=hid hwf
      have ACT:=hid (ownsRow_base hact (Nat.le_trans UX.out.size Y1.out.size):ActsAt y2 W1.heap.size (.slice av L.length cv) L)
      replace ZB:=hid ((u.block _ (heap_lt ZB.out) id).trans ZB.out)
      have ACT0:=hid (hact:ActsAt y2 y1.heap.size (.slice av L.length cv) L)
      clear hL hact hwf u
      go_wp2_with fail
      first | (refine ⟨fun _=>SHOW.out y2 Y2.out,?_⟩) | (refine ⟨SHOW.out y2 Y2.out,?_⟩) | (try with_reducible refine And.intro (fun h=>absurd h (by simp)) ?_)
      (try go_frame)
      have NVB:=hid (show (Value.slice av L.length cv).ownBlock≠some vb from fun hg=>by have h1:=(rowlt ACT0.out vb hg).1;have h2:=VB3.out;omega)
      refine g_op (i:=6) (by kernel_rfl) rfl ?_
      obtain ⟨w9,r9,h9,u9⟩:=view_old (s:=s) (ak:=ak) (ck:=ck) (av:=av) (n:=L.length) (cv:=cv) ZB.out
      unfold viewV at r9
      refine op_store rfl _ _ _ rfl rfl rfl r9 ?_
      go_wp2_with fail
      try with_reducible refine And.intro (fun h=>absurd h (by simp)) ?_
      refine g_done (by kernel_rfl) ?_
      go_wp2_with fail
      have LL:=hid (show L.length<=60 by
       have e:=congrArg List.length HL.out
       unfold actsOf at e
       rw [List.length_map] at e
       rw [e]
       unfold seeF
       exact Nat.le_trans (List.length_filterMap_le _ _) ML.out)
      have U9:=hid (show Upd (fun _=>False) X w9 from Y2.out.comp u9 fun i hi e=>by have:=VB.out;omega)
      go_meet
      case rel =>
       refine ⟨vb,av,cv,L,rfl,h9,HL.out,⟨HS.out.keep (UX.out.trans U9.out),ownsRow_upd (ACT.out) u9 fun g hg e=>?_,HA.out _ (UX.out.trans U9.out),HK.out,Nat.le_trans LL.out (by decide),WF.out⟩,LL.out,U9.out⟩
       subst e
       exact NVB.out hg
   case rest =>
    obtain ⟨vb,av,cv,L,rfl,HVB,HL,HVW,LL,UC⟩:=hcut
    have HVB:=hid HVB;have HL:=hid HL;have HVW:=hid HVW;have LL:=hid LL;have UC:=hid UC
    clear m0 m1 m2
    go_wp2_with fail
    go_loopg [6] (L.length+1) (fun gg s6 wr=>∃ l:List (Int×Int),l.length<=L.length/\gg=L.length+1-l.length/\(∀ d (hd:d<l.length),decidedF s (actsOf L) d=some l[d])/\DysAt wr wc.heap.size s6 l/\Upd (fun _=>False) wc wr)
    case atStart=>exact ⟨[],Nat.zero_le _,rfl,fun d hd=>absurd hd (Nat.not_lt_zero _),World.ownsRow_nil _ _ _ _,Upd.refl _ _⟩
    case round =>
     obtain ⟨l,hl,hg,hd,hrow,u⟩:=hrel
     have HG:=hid hg;have HD:=hid hd;have ROW:=hid hrow;have UR:=hid u;have HLN:=hid hl
     obtain ⟨a6,c6,rfl,h61,h62⟩:=own_slice hrow
     have h62:c6<=9223372036854775807:=h62
     have HBR:=hid ((u.block _ (heap_lt HVB.out) id).trans HVB.out)
     obtain ⟨n0,n1,n2,n3⟩:=cells4 (show wr.heap[vb]? = some (.cells #[.slice ak s.keys.length ck,.int .i64 s.liars,.int .i64 s.seed,.slice av L.length cv] 167 (0,0)) from HBR.out)
     clear hg hd hrow u
     have hl64:(l.length:Int)<=1000:=by have:=LL.out;omega
     go_wp2_with fail
     refine (decided_any (HVW.out.keep UR.out) OKS.out l.length).mono ?_
     rintro en y1 ⟨rfl,u⟩
     have U1:=hid (UR.out.trans u)
     have ROW1:=hid (ownsRow_upd ROW.out u fun _ _=>id)
     obtain ⟨od,hod⟩:∃ od,decidedF s (actsOf L) l.length=od:=⟨_,rfl⟩
     have HOD:=hid hod
     rw [hod]
     clear u hod n0 n1 n2 n3
     cases od with
     | none =>
       as_aux_lemma =>
       have DWF:=hid (show ∀ d∈l,(Lit.int .i64 d.1).wf=true from fun d hd=>by
        obtain ⟨i,hi,rfl⟩:=List.getElem_of_mem hd
        obtain ⟨a,ha,e⟩:=decided_val (HD.out i hi)
        unfold actsOf at ha
        obtain ⟨c,hc,rfl⟩:=List.mem_map.1 ha
        rw [<-e]
        exact (HVW.out.wf c hc).2.2.2.2)
       unfold dayV
       go_wp2_with fail
       go_ret
       refine ⟨_,l,rfl,⟨fun _=>?_,fun q=>absurd OKS.out q⟩,⟨Nat.le_trans HLN.out LL.out,DWF.out⟩,ownsRow_base (ownsRow_upd ROW1.out ((Upd.refl (fun _=>False) _).alloc _) fun _ _=>id) (U.out.trans (UX.out.trans UC.out)).size,(U.out.trans (UX.out.trans (UC.out.trans U1.out))).alloc _⟩
       rw [<-HL.out]
       exact ⟨HD.out,HOD.out⟩
     | some d =>
       as_aux_lemma =>
       obtain ⟨d1,d2⟩:=d
       have HD2:=hid (show ∀ d (hd:d<(l++[(d1,d2)]).length),decidedF s (actsOf L) d=some (l++[(d1,d2)])[d] from fun d hd=>by
        rw [List.length_append] at hd
        by_cases e:d<l.length
        · rw [List.getElem_append_left e];exact HD.out d e
        · have e:d=l.length:=by simp at hd;omega
          subst e
          rw [HOD.out];simp)
       have LN:=hid (show (l++[(d1,d2)]).length<=L.length by have:=days_few HD2.out;unfold actsOf at this;rwa [List.length_map] at this)
       obtain ⟨y2,hy2⟩:∃ y2,y2=y1.alloc (.cells #[.int .i64 d1,.int .i64 d2] 89 (0,0)):=⟨_,rfl⟩
       have u2:Upd (fun _=>False) y1 y2:=by rw [hy2];exact (Upd.refl _ _).alloc _
       have hb2:y2.heap[y1.heap.size]? = some (.cells #[.int .i64 d1,.int .i64 d2] 89 (0,0)):=by rw [hy2];exact heap_alloc_new
       obtain ⟨z0,z1⟩:=cellsD hb2
       have HY2:=hid hy2
       have UY2:=hid (U1.out.trans u2)
       obtain ⟨v',w4,r4,o4,u4,n4⟩:=append_one elemDy (ownsRow_upd ROW1.out u2 fun _ _=>id) #[.int .i64 d1,.int .i64 d2] rfl (by simp [Value.oneCell']) (by have:=LL.out;unfold maxLen;omega) (by have:=LL.out;omega) UY2.out.size 83 (0,0)
       have O4:=hid o4;have R4:=hid r4;have U4:=hid u4
       have OB:=hid (fun i e=>(rowlt ROW1.out i e))
       clear o4 u4 n4 r4 hy2 u2 hb2
       unfold dayV
       go_upto_region 6 with (fail)
       rw [<-HY2.out]
       clear HY2
       go_wp2_with (at_builtin;refine wpList_append_run rfl _ _ _ _ rfl rfl rfl R4.out ?_)
       go_roundg (L.length+1-(l++[(d1,d2)]).length)
       case measure=>rw [List.length_append];have:=HG.out;simp;omega
       case rel =>
        refine ⟨l++[(d1,d2)],LN.out,rfl,HD2.out,?_,UY2.out.comp U4.out fun i hi e=>?_⟩
        · show DysAt _ _ _ _
          unfold DysAt
          rw [dyFlat_snoc,List.length_append]
          exact O4.out
        · have:=OB.out i e;omega
end Go.Proofs.YtjkmalddfoemhaaGreatDoor
