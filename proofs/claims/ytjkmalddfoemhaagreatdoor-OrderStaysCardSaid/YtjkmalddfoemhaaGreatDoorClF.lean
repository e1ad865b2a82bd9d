/- Walks: the first rule that an entry breaks (Legal). -/
import Derived.Test.YtjkmalddfoemhaaGreatDoorRn
import Derived.Test.YtjkmalddfoemhaaGreatDoorClE
import Derived.Test.YtjkmalddfoemhaaGreatDoorClStays
set_option maxRecDepth 100000
set_option maxHeartbeats 16000000
namespace Go.Proofs.YtjkmalddfoemhaaGreatDoor
open Go.RowKit Go.Deep
section
variable {h:Hs} {s:Stp} {m:Int} {brk:Bool} {x:En}
theorem lb_none (ht:(entryM h m).2=false):legalB h s m brk=4:=by unfold legalB;rw [if_pos ht]
theorem lb_not (hx:(entryM h m).1=x) (ht:(entryM h m).2=true) (k:¬ActK x.kind):legalB h s m brk=0:=by
 unfold legalB;rw [hx,if_neg (by rw [ht];decide),if_pos k]
theorem lb_early (hx:(entryM h m).1=x) (ht:(entryM h m).2=true) (k:ActK x.kind) (e:earlyF s (seeF h (pastF h m)) x≠0\/x.ref=-1):legalB h s m brk=earlyF s (seeF h (pastF h m)) x:=by
 unfold legalB;rw [hx,if_neg (by rw [ht];decide),if_neg (fun z=>z k),if_pos e]
theorem lb_list (hx:(entryM h m).1=x) (ht:(entryM h m).2=true) (k:x.kind=18) (e:earlyF s (seeF h (pastF h m)) x=0) (hr:x.ref≠-1):legalB h s m brk=if PermitP h x.ref x.m x.n then 0 else 2:=by
 unfold legalB;rw [hx,if_neg (by rw [ht];decide),if_neg (fun z=>z (.inl k)),if_neg (fun z=>z.elim (fun z=>z e) hr),if_pos k]
theorem lb_voice (hx:(entryM h m).1=x) (ht:(entryM h m).2=true) (ka:ActK x.kind) (k:x.kind≠18) (e:earlyF s (seeF h (pastF h m)) x=0) (hr:x.ref≠-1):legalB h s m brk =
 if ¬((entryM h x.ref).1.kind=18/\(entryM h x.ref).1.m=x.m/\(entryM h x.ref).1.n=x.n) then 2
 else if x.kind=20/\valueF h x.ref∉carriedF s (seeF h (pastF h m)) 19 x.m x.n then 24
 else if x.kind=19/\brk=true then 32
 else if x.kind=19/\¬KeepsP s (seeF h (pastF h m)) x.author x.m x.n (valueF h x.ref) then 7 else 0:=by
 unfold legalB;rw [hx,if_neg (by rw [ht];decide),if_neg (fun z=>z ka),if_neg (fun z=>z.elim (fun z=>z e) hr),if_neg k]
end
def LegalR (s:Stp) (v r:Int):Prop:=(StpOk s->r=v)/\(¬StpOk s->r=1)
theorem past_few {R:Rg} {hs:Hs} (H:His rdF R hs) (m:Int):(pastF hs m).length<=R.length:=by
 have nd:(pastF hs m).Nodup:=(past_nodup H m).imp fun h e=>by subst e;exact absurd h (Int.lt_irrefl _)
 refine Nat.le_trans (nodup_sub_len (l2:=marksF hs) nd fun x hx=>(mem_marksF hs x).2 (past_has H hx)) ?_
 rw [marksF_len]
 exact H.len
theorem legal_step {O Or A:Nat->Prop} {b r:Nat} {hs:Hs} {R:Rg} {s:Stp} {ak:Option Addr} {ck:Nat} {w:World} (h:HPre w O Or b r hs R) (hst:StpAt w A s ak ck) (hA:∀ g,A g->g<w.heap.size) (hk:s.keys.length<=1000) (m:Int) (hm:(Lit.int .i64 m).wf=true) (brk:Bool)
 (inner:StpOk s->(entryM hs m).1.kind=19->VoteP hs (entryM hs m).1->∀ y,Upd (fun _=>False) w y->Calls Tryz.prog 67 #[.pointer (some ⟨b,0,none⟩),stpV s ak ck,.int .i64 (entryM hs m).1.ref] y fun e y'=>(∃ x,e=.returned (.int .i64 x)/\(x≠0↔brk=true))/\Upd (fun _=>False) y y') :
 Calls Tryz.prog 67 #[.pointer (some ⟨b,0,none⟩),stpV s ak ck,.int .i64 m] w fun e w'=>(∃ r,e=.returned (.int .i64 r)/\LegalR s (legalB hs s m brk) r)/\Upd (fun _=>False) w w':=by
 obtain ⟨W1,hW1⟩:∃ W1,W1=w.alloc (.cells #[.slice ak s.keys.length ck,.int .i64 s.liars,.int .i64 s.seed] 60 (0,0)):=⟨_,rfl⟩
 have u1:Upd (fun _=>False) w W1:=by rw [hW1];exact (Upd.refl _ _).alloc _
 have HB:=hid (show W1.heap[w.heap.size]? = some (.cells #[.slice ak s.keys.length ck,.int .i64 s.liars,.int .i64 s.seed] 60 (0,0)) by rw [hW1];exact heap_alloc_new)
 have HH:=hid (h.keep u1);have HS:=hid (hst.keep u1);have U:=hid u1;have HW:=hid hW1
 have HA:=hid (fun (y:World) (u:Upd (fun _=>False) W1 y) g (q:A g)=>(show g<y.heap.size from Nat.lt_of_lt_of_le (hA g q) (Nat.le_trans u1.size u.size)))
 have HK:=hid hk;have MW:=hid hm
 have INN:=hid (fun (k:StpOk s) (k2:(entryM hs m).1.kind=19) (k3:VoteP hs (entryM hs m).1) (y:World) (u:Upd (fun _=>False) W1 y)=>inner k k2 k3 y (u1.trans u))
 have ML:=hid (show (pastF hs m).length<=60 from Nat.le_trans (past_few h.plain m) h.few)
 have MI:=hid (show ∀ x∈pastF hs m,I64 x from past_i64 h.plain h.few m)
 have EWF:=hid (his_wf h.his m)
 obtain ⟨p,hp⟩:∃ p,w.heap.size=p:=⟨_,rfl⟩
 rw [hp] at HB
 have HP:=hid hp
 clear hW1 u1 h hst hA hk hm hp inner
 unfold stpV
 go_enter Tryz.func67,Tryz.ntmps67
 go_upto_region 1 with (fail)
 rw [<-HW.out]
 try rw [HP.out]
 obtain ⟨m0,m1,m2⟩:=cells3s HB.out
 clear HW
 go_wp2_with fail
 refine (sright_any HS.out (HA.out _ (Upd.refl _ _)) HK.out).mono ?_
 rintro en x0 ⟨⟨bo,rfl,hbo⟩,u⟩
 have U0:=hid u;have HBO:=hid hbo
 have HB0:=hid ((u.block _ (heap_lt HB.out) id).trans HB.out)
 clear u hbo m0 m1 m2
 cases bo with
 | false =>
   go_wp2_with fail
   go_ret
   exact ⟨⟨1,rfl,fun q=>absurd (HBO.out.2 q) (by decide),fun _=>rfl⟩,U.out.trans U0.out⟩
 | true =>
   have OKS:=hid (HBO.out.1 rfl)
   clear HBO
   go_wp2_with fail
   refine (hentry_any (HH.out.keep U0.out).his HH.out.plain m MW.out).mono ?_
   rintro en y1 ⟨a1,a2,a3,c1,c2,c3,rfl,_,u⟩
   obtain ⟨x,hx⟩:∃ x,(entryM hs m).1=x:=⟨_,rfl⟩
   obtain ⟨is,his⟩:∃ x,(entryM hs m).2=x:=⟨_,rfl⟩
   have HX:=hid hx;have HIS:=hid his
   rw [hx] at EWF INN
   rw [hx,his]
   obtain ⟨X,hXX⟩:∃ W3,W3=y1.alloc (.cells (en13 x a1 a2 a3 c1 c2 c3) 72 (0,0)):=⟨_,rfl⟩
   have u3:Upd (fun _=>False) y1 X:=by rw [hXX];exact (Upd.refl _ _).alloc _
   obtain ⟨eb,heb⟩:∃ eb,y1.heap.size=eb:=⟨_,rfl⟩
   have EB:=hid (show X.heap[eb]? = some (.cells (en13 x a1 a2 a3 c1 c2 c3) 72 (0,0)) by rw [hXX,<-heb];exact heap_alloc_new)
   have UX:=hid (U0.out.trans (u.trans u3))
   have HBX:=hid ((UX.out.block _ (heap_lt HB.out) id).trans HB.out)
   have HXX:=hid hXX;have HEB:=hid heb
   clear hx his hXX heb u u3 HB0 U0
   unfold enV
   go_upto_region 4 with (fail)
   rw [<-(show X=y1.alloc (.cells #[.int .i64 x.author,.int .i64 x.seq,.int .i64 x.day,.slice a1 x.knows.length c1,.int .i64 x.kind,.int .i64 x.circle,.int .i64 x.who,.int .i64 x.n,.int .i64 x.m,.int .i64 x.ref,.slice a2 x.keys.length c2,.slice a3 x.spans.length c3,.string ⟨x.text.toArray⟩] 72 (0,0)) from HXX.out)]
   try rw [HEB.out]
   clear HXX HEB
   cases is with
   | false =>
     have VV:=hid (show legalB hs s m brk=4 from lb_none HIS.out)
     go_wp2_with fail
     go_ret
     exact ⟨⟨_,rfl,fun _=>VV.out.symm,fun q=>absurd OKS.out q⟩,U.out.trans UX.out⟩
   | true =>
     have XM:=hid (show I64 x.m from EWF.out.1.m);have XN:=hid (show I64 x.n from EWF.out.1.n);have XR:=hid (show (Lit.int .i64 x.ref).wf=true from iwf EWF.out.1.ref)
     clear EWF
     obtain ⟨_,_,_,_,r4,_,_,_,_,_,_,_,_⟩:=cells13 EB.out
     go_upto_region 6 with (fail)
     go_cut [37] (fun s37 wx=>s37=.bool (decide (¬ActK x.kind))/\X=wx)
     case first =>
      by_cases k1:x.kind=18
      case pos =>
       have d1:(x.kind != 18)=false:=by simp [k1]
       have VV:=hid (show decide (¬ActK x.kind)=false from decide_eq_false fun q=>q (.inl k1))
       clear k1
       go_wp2_with fail
       go_meet
       case rel=>exact ⟨by rw [VV.out]<;>rfl,rfl⟩
      have d1:(x.kind != 18)=true:=bne_iff_ne.2 k1
      by_cases k2:x.kind=19
      case pos =>
       have d2:(x.kind != 19)=false:=by simp [k2]
       have VV:=hid (show decide (¬ActK x.kind)=false from decide_eq_false fun q=>q (.inr (.inl k2)))
       clear k2
       go_wp2_with fail
       go_meet
       case rel=>exact ⟨by rw [VV.out]<;>rfl,rfl⟩
      have d2:(x.kind != 19)=true:=bne_iff_ne.2 k2
      by_cases k3:x.kind=20
      case pos =>
       have d3:(x.kind != 20)=false:=by simp [k3]
       have VV:=hid (show decide (¬ActK x.kind)=false from decide_eq_false fun q=>q (.inr (.inr k3)))
       clear k3
       go_wp2_with fail
       go_meet
       case rel=>exact ⟨by rw [VV.out]<;>rfl,rfl⟩
      have d3:(x.kind != 20)=true:=bne_iff_ne.2 k3
      have VV:=hid (show decide (¬ActK x.kind)=true from decide_eq_true fun q=>q.elim k1 fun q=>q.elim k2 k3)
      clear k1 k2 k3
      go_wp2_with fail
      go_meet
      case rel=>exact ⟨by rw [VV.out]<;>rfl,rfl⟩
     case rest =>
      obtain ⟨rfl,rfl⟩:=hcut
      by_cases ka:ActK x.kind
      case neg =>
       have VV:=hid (show legalB hs s m brk=0 from lb_not HX.out HIS.out ka)
       rw [decide_eq_true ka]
       go_wp2_with fail
       go_ret
       exact ⟨⟨_,rfl,fun _=>VV.out.symm,fun q=>absurd OKS.out q⟩,U.out.trans UX.out⟩
      rw [decide_eq_false fun q=>q ka]
      have KA:=hid ka
      clear ka r4
      go_upto_region 8 with (fail)
      go_cut [9] (fun s9 wx=>∃ vb av cv L,s9=.pointer (some ⟨vb,0,none⟩)/\wx.heap[vb]? = some (.cells (vwCells s ak ck av L.length cv) 167 (0,0))/\actsOf L=seeF hs (pastF hs m)/\VwAt wx A W1.heap.size s ak ck av cv L/\L.length<=60/\Upd (fun _=>False) X wx)
      case first =>
       obtain ⟨Wd,hWd⟩:∃ Wd,X.drew=Wd:=⟨_,rfl⟩
       have UD:=hid (show Upd (fun _=>False) X Wd by rw [<-hWd];exact (Upd.refl _ _).drew)
       have SHOW:=hid (fun (y:World) (u:Upd (fun _=>False) X y)=>(show y.cell? ⟨p,0,none⟩=some (.slice ak s.keys.length ck)/\y.cell? ⟨p,1,none⟩=some (.int .i64 s.liars)/\y.cell? ⟨p,2,none⟩=some (.int .i64 s.seed) from cells3s ((u.block _ (heap_lt HBX.out) id).trans HBX.out)))
       refine wp_region_g (fun y=>y.cell? ⟨p,0,none⟩=some (.slice ak s.keys.length ck)/\y.cell? ⟨p,1,none⟩=some (.int .i64 s.liars)/\y.cell? ⟨p,2,none⟩=some (.int .i64 s.seed)) 7 (by kernel_rfl) ?_
       rw [hWd]
       have hS:=SHOW.out Wd UD.out
       clear hWd
       refine g_take0 (i:=0) rfl (by kernel_rfl) (by kernel_rfl) (by kernel_rfl) (by decide) (fun _ _ _ h=>h) (yields_move (by kernel_rfl) _ rfl rfl) (fun _=>hS) ?_
       (try simp only [List.getElem_toArray,List.getElem_cons_zero])
       (try go_frame)
       refine g_take0 (i:=3) rfl (by kernel_rfl) (by kernel_rfl) (by kernel_rfl) (by decide) (fun _ _ _ h=>h) (yields_move (by kernel_rfl) _ rfl rfl) (fun _=>hS) ?_
       (try simp only [List.getElem_toArray,List.getElem_cons_zero,List.getElem_cons_succ])
       (try go_frame)
       refine g_take0 (i:=2) rfl (by kernel_rfl) (by kernel_rfl) (by kernel_rfl) (by decide) (fun _ _ _ h=>h) (yields_move (by kernel_rfl) _ rfl rfl) (fun _=>hS) ?_
       (try simp only [List.getElem_toArray,List.getElem_cons_zero,List.getElem_cons_succ])
       (try go_frame)
       refine g_take (i:=1) rfl (by kernel_rfl) (by kernel_rfl) (by kernel_rfl) (by kernel_rfl) (fun _ _ _ h=>h) (yields_load (by kernel_rfl) _ _ rfl rfl (fun y hy=>stp_load hy.1 hy.2.1 hy.2.2)) hS ?_
       (try simp only [List.getElem_toArray,List.getElem_cons_zero,List.getElem_cons_succ])
       (try go_frame)
       refine g_two (i:=4) (j:=6) (by kernel_rfl) rfl rfl ?_ ?_
       · go_wp2_with fail
         refine (hpast_any (HH.out.keep (UX.out.trans UD.out)).his m MW.out).mono ?_
         rintro en y1 ⟨vm,rfl,ho,u⟩
         have Y1:=hid (UD.out.trans u)
         have RM:=hid (ints_rep ho MI.out)
         obtain ⟨am,cm,rfl,_,_⟩:=own_slice ho
         clear ho u
         go_wp2_with fail
         first | (refine ⟨fun _=>SHOW.out y1 Y1.out,?_⟩) | (refine ⟨SHOW.out y1 Y1.out,?_⟩) | (try with_reducible refine And.intro (fun h=>absurd h (by simp)) ?_)
         (try simp only [List.getElem_toArray,List.getElem_cons_zero,List.getElem_cons_succ])
         (try go_frame)
         refine g_two (i:=5) (j:=6) (by kernel_rfl) rfl rfl ?_ ?_
         · as_aux_lemma =>
           go_wp2_with fail
           refine (see_any (HH.out.keep (UX.out.trans Y1.out)) (HS.out.keep (UX.out.trans Y1.out)) (HA.out _ (UX.out.trans Y1.out)) (RM.out) (fun g hg=>hg.2) (Nat.le_trans ML.out (by decide)) MI.out).mono ?_
           rintro en y2 ⟨av,cv,L,rfl,hL,hact,hwf,u⟩
           unfold viewV
           have Y2:=hid (Y1.out.trans u)
           have HL:=hid hL;have WF:=hid hwf
           have ACT:=hid (ownsRow_base hact (Nat.le_trans UX.out.size Y1.out.size):ActsAt y2 W1.heap.size (.slice av L.length cv) L)
           clear hL hact hwf u
           go_wp2_with fail
           first | (refine ⟨fun _=>SHOW.out y2 Y2.out,?_⟩) | (refine ⟨SHOW.out y2 Y2.out,?_⟩) | (try with_reducible refine And.intro (fun h=>absurd h (by simp)) ?_)
           (try simp only [List.getElem_toArray,List.getElem_cons_zero,List.getElem_cons_succ])
           (try go_frame)
           refine g_op (i:=6) (by kernel_rfl) rfl ?_
           go_wp2_with fail
           obtain ⟨y3,hz⟩:∃ z,y2.alloc (.cells #[.slice none 0 0,.int .i64 0,.int .i64 0,.slice none 0 0] 167 (0,0))=z:=⟨_,rfl⟩
           have ZB:=hid (show y3.heap[y2.heap.size]? = some (.cells #[.slice none 0 0,.int .i64 0,.int .i64 0,.slice none 0 0] 167 (0,0)) by rw [<-hz];exact heap_alloc_new)
           have Y3:=hid (show Upd (fun _=>False) X y3 by rw [<-hz];exact Y2.out.alloc _)
           obtain ⟨vb,hvb⟩:∃ vb,y2.heap.size=vb:=⟨_,rfl⟩
           have VB:=hid (show X.heap.size<=vb by rw [<-hvb];exact Y2.out.size)
           try rw [hz]
           rw [hvb] at ZB
           try rw [hvb]
           have Y2SZ:=hid (show y2.heap.size=vb from hvb);have Y23:=hid (show Upd (fun _=>False) y2 y3 by rw [<-hz];exact (Upd.refl _ _).alloc _)
           clear hz hvb
           first | (refine ⟨fun _=>SHOW.out y3 Y3.out,?_⟩) | (refine ⟨SHOW.out y3 Y3.out,?_⟩) | (try with_reducible refine And.intro (fun h=>absurd h (by simp)) ?_)
           (try simp only [List.getElem_toArray,List.getElem_cons_zero,List.getElem_cons_succ])
           (try go_frame)
           have NVB:=hid (show (Value.slice av L.length cv).ownBlock≠some vb from fun hg=>by have h1:=(rowlt ACT.out vb hg).2;have h2:=Y2SZ.out;omega)
           refine g_op (i:=7) (by kernel_rfl) rfl ?_
           obtain ⟨w9,r9,h9,u9⟩:=view_old (s:=s) (ak:=ak) (ck:=ck) (av:=av) (n:=L.length) (cv:=cv) ZB.out
           unfold viewV at r9
           refine op_store rfl _ _ _ rfl rfl rfl r9 ?_
           go_wp2_with fail
           try with_reducible refine And.intro (fun h=>absurd h (by simp)) ?_
           refine g_done (by kernel_rfl) ?_
           go_wp2_with fail
           have LL:=hid (show L.length<=60 by
            have e:=congrArg List.length HL.out
            unfold actsOf at e
            rw [List.length_map] at e
            rw [e]
            unfold seeF
            exact Nat.le_trans (List.length_filterMap_le _ _) ML.out)
           have U9:=hid (show Upd (fun _=>False) X w9 from Y3.out.comp u9 fun i hi e=>by have:=VB.out;omega)
           go_meet
           case rel =>
            refine ⟨vb,av,cv,L,rfl,h9,HL.out,⟨HS.out.keep (UX.out.trans U9.out),ownsRow_upd (ownsRow_upd ACT.out (Y23.out) fun _ _=>id) u9 fun g hg e=>?_,HA.out _ (UX.out.trans U9.out),HK.out,Nat.le_trans LL.out (by decide),WF.out⟩,LL.out,U9.out⟩
            subst e
            exact NVB.out hg
         · as_aux_lemma =>
           go_wp2_with fail
           obtain ⟨y3,hz⟩:∃ z,y1.alloc (.cells #[.slice none 0 0,.int .i64 0,.int .i64 0,.slice none 0 0] 167 (0,0))=z:=⟨_,rfl⟩
           have ZB:=hid (show y3.heap[y1.heap.size]? = some (.cells #[.slice none 0 0,.int .i64 0,.int .i64 0,.slice none 0 0] 167 (0,0)) by rw [<-hz];exact heap_alloc_new)
           have Y3:=hid (show Upd (fun _=>False) X y3 by rw [<-hz];exact Y1.out.alloc _)
           obtain ⟨vb,hvb⟩:∃ vb,y1.heap.size=vb:=⟨_,rfl⟩
           have VB:=hid (show X.heap.size<=vb by rw [<-hvb];exact Y1.out.size)
           try rw [hz]
           rw [hvb] at ZB
           try rw [hvb]
           have VB3:=hid (show vb<y3.heap.size by rw [<-hz,<-hvb];simp);have Y13:=hid (show Upd (fun _=>False) y1 y3 by rw [<-hz];exact (Upd.refl _ _).alloc _)
           clear hz hvb
           first | (refine ⟨fun _=>SHOW.out y3 Y3.out,?_⟩) | (refine ⟨SHOW.out y3 Y3.out,?_⟩) | (try with_reducible refine And.intro (fun h=>absurd h (by simp)) ?_)
           (try simp only [List.getElem_toArray,List.getElem_cons_zero,List.getElem_cons_succ])
           (try go_frame)
           refine g_op (i:=5) (by kernel_rfl) rfl ?_
           go_wp2_with fail
           refine (see_any (HH.out.keep (UX.out.trans Y3.out)) (HS.out.keep (UX.out.trans Y3.out)) (HA.out _ (UX.out.trans Y3.out)) (kInts.keep RM.out (Same.of_upd Y13.out fun _ _=>id)) (fun g hg=>Nat.lt_of_lt_of_le hg.2 Y13.out.size) (Nat.le_trans ML.out (by decide)) MI.out).mono ?_
           rintro en y2 ⟨av,cv,L,rfl,hL,hact,hwf,u⟩
           unfold viewV
           have Y2:=hid (Y3.out.trans u)
           have HL:=hid hL;have WF:=hid hwf
           have ACT:=hid (ownsRow_base hact (Nat.le_trans UX.out.size Y3.out.size):ActsAt y2 W1.heap.size (.slice av L.length cv) L)
           replace ZB:=hid ((u.block _ (heap_lt ZB.out) id).trans ZB.out)
           have ACT0:=hid (hact:ActsAt y2 y3.heap.size (.slice av L.length cv) L)
           clear hL hact hwf u
           go_wp2_with fail
           first | (refine ⟨fun _=>SHOW.out y2 Y2.out,?_⟩) | (refine ⟨SHOW.out y2 Y2.out,?_⟩) | (try with_reducible refine And.intro (fun h=>absurd h (by simp)) ?_)
           (try simp only [List.getElem_toArray,List.getElem_cons_zero,List.getElem_cons_succ])
           (try go_frame)
           have NVB:=hid (show (Value.slice av L.length cv).ownBlock≠some vb from fun hg=>by have h1:=(rowlt ACT0.out vb hg).1;have h2:=VB3.out;omega)
           refine g_op (i:=7) (by kernel_rfl) rfl ?_
           obtain ⟨w9,r9,h9,u9⟩:=view_old (s:=s) (ak:=ak) (ck:=ck) (av:=av) (n:=L.length) (cv:=cv) ZB.out
           unfold viewV at r9
           refine op_store rfl _ _ _ rfl rfl rfl r9 ?_
           go_wp2_with fail
           try with_reducible refine And.intro (fun h=>absurd h (by simp)) ?_
           refine g_done (by kernel_rfl) ?_
           go_wp2_with fail
           have LL:=hid (show L.length<=60 by
            have e:=congrArg List.length HL.out
            unfold actsOf at e
            rw [List.length_map] at e
            rw [e]
            unfold seeF
            exact Nat.le_trans (List.length_filterMap_le _ _) ML.out)
           have U9:=hid (show Upd (fun _=>False) X w9 from Y2.out.comp u9 fun i hi e=>by have:=VB.out;omega)
           go_meet
           case rel =>
            refine ⟨vb,av,cv,L,rfl,h9,HL.out,⟨HS.out.keep (UX.out.trans U9.out),ownsRow_upd (ACT.out) u9 fun g hg e=>?_,HA.out _ (UX.out.trans U9.out),HK.out,Nat.le_trans LL.out (by decide),WF.out⟩,LL.out,U9.out⟩
            subst e
            exact NVB.out hg
       · as_aux_lemma =>
         go_wp2_with fail
         obtain ⟨y3,hz⟩:∃ z,Wd.alloc (.cells #[.slice none 0 0,.int .i64 0,.int .i64 0,.slice none 0 0] 167 (0,0))=z:=⟨_,rfl⟩
         have ZB:=hid (show y3.heap[Wd.heap.size]? = some (.cells #[.slice none 0 0,.int .i64 0,.int .i64 0,.slice none 0 0] 167 (0,0)) by rw [<-hz];exact heap_alloc_new)
         have Y3:=hid (show Upd (fun _=>False) X y3 by rw [<-hz];exact UD.out.alloc _)
         obtain ⟨vb,hvb⟩:∃ vb,Wd.heap.size=vb:=⟨_,rfl⟩
         have VB:=hid (show X.heap.size<=vb by rw [<-hvb];exact UD.out.size)
         try rw [hz]
         rw [hvb] at ZB
         try rw [hvb]
         have VB3:=hid (show vb<y3.heap.size by rw [<-hz,<-hvb];simp)
         clear hz hvb
         first | (refine ⟨fun _=>SHOW.out y3 Y3.out,?_⟩) | (refine ⟨SHOW.out y3 Y3.out,?_⟩) | (try with_reducible refine And.intro (fun h=>absurd h (by simp)) ?_)
         (try simp only [List.getElem_toArray,List.getElem_cons_zero,List.getElem_cons_succ])
         (try go_frame)
         refine g_op (i:=4) (by kernel_rfl) rfl ?_
         go_wp2_with fail
         refine (hpast_any (HH.out.keep (UX.out.trans Y3.out)).his m MW.out).mono ?_
         rintro en y1 ⟨vm,rfl,ho,u⟩
         have Y1:=hid (Y3.out.trans u)
         replace VB3:=hid (Nat.lt_of_lt_of_le VB3.out u.size);have RM:=hid (ints_rep ho MI.out)
         obtain ⟨am,cm,rfl,_,_⟩:=own_slice ho
         replace ZB:=hid ((u.block _ (heap_lt ZB.out) id).trans ZB.out)
         clear ho u
         go_wp2_with fail
         first | (refine ⟨fun _=>SHOW.out y1 Y1.out,?_⟩) | (refine ⟨SHOW.out y1 Y1.out,?_⟩) | (try with_reducible refine And.intro (fun h=>absurd h (by simp)) ?_)
         (try simp only [List.getElem_toArray,List.getElem_cons_zero,List.getElem_cons_succ])
         (try go_frame)
         refine g_op (i:=5) (by kernel_rfl) rfl ?_
         go_wp2_with fail
         refine (see_any (HH.out.keep (UX.out.trans Y1.out)) (HS.out.keep (UX.out.trans Y1.out)) (HA.out _ (UX.out.trans Y1.out)) (RM.out) (fun g hg=>hg.2) (Nat.le_trans ML.out (by decide)) MI.out).mono ?_
         rintro en y2 ⟨av,cv,L,rfl,hL,hact,hwf,u⟩
         unfold viewV
         have Y2:=hid (Y1.out.trans u)
         have HL:=hid hL;have WF:=hid hwf
         have ACT:=hid (ownsRow_base hact (Nat.le_trans UX.out.size Y1.out.size):ActsAt y2 W1.heap.size (.slice av L.length cv) L)
         replace ZB:=hid ((u.block _ (heap_lt ZB.out) id).trans ZB.out)
         have ACT0:=hid (hact:ActsAt y2 y1.heap.size (.slice av L.length cv) L)
         clear hL hact hwf u
         go_wp2_with fail
         first | (refine ⟨fun _=>SHOW.out y2 Y2.out,?_⟩) | (refine ⟨SHOW.out y2 Y2.out,?_⟩) | (try with_reducible refine And.intro (fun h=>absurd h (by simp)) ?_)
         (try simp only [List.getElem_toArray,List.getElem_cons_zero,List.getElem_cons_succ])
         (try go_frame)
         have NVB:=hid (show (Value.slice av L.length cv).ownBlock≠some vb from fun hg=>by have h1:=(rowlt ACT0.out vb hg).1;have h2:=VB3.out;omega)
         refine g_op (i:=7) (by kernel_rfl) rfl ?_
         obtain ⟨w9,r9,h9,u9⟩:=view_old (s:=s) (ak:=ak) (ck:=ck) (av:=av) (n:=L.length) (cv:=cv) ZB.out
         unfold viewV at r9
         refine op_store rfl _ _ _ rfl rfl rfl r9 ?_
         go_wp2_with fail
         try with_reducible refine And.intro (fun h=>absurd h (by simp)) ?_
         refine g_done (by kernel_rfl) ?_
         go_wp2_with fail
         have LL:=hid (show L.length<=60 by
          have e:=congrArg List.length HL.out
          unfold actsOf at e
          rw [List.length_map] at e
          rw [e]
          unfold seeF
          exact Nat.le_trans (List.length_filterMap_le _ _) ML.out)
         have U9:=hid (show Upd (fun _=>False) X w9 from Y2.out.comp u9 fun i hi e=>by have:=VB.out;omega)
         go_meet
         case rel =>
          refine ⟨vb,av,cv,L,rfl,h9,HL.out,⟨HS.out.keep (UX.out.trans U9.out),ownsRow_upd (ACT.out) u9 fun g hg e=>?_,HA.out _ (UX.out.trans U9.out),HK.out,Nat.le_trans LL.out (by decide),WF.out⟩,LL.out,U9.out⟩
          subst e
          exact NVB.out hg
      case rest =>
       obtain ⟨vb,av,cv,L,rfl,HVB,HL,HVW,LL,UC⟩:=hcut
       have HVB:=hid HVB;have HL:=hid HL;have HVW:=hid HVW;have UC:=hid UC
       clear LL
       have EBC:=hid ((UC.out.block _ (heap_lt EB.out) id).trans EB.out)
       obtain ⟨m0,m1,m2,m3⟩:=cells4 (show wc.heap[vb]? = some (.cells #[.slice ak s.keys.length ck,.int .i64 s.liars,.int .i64 s.seed,.slice av L.length cv] 167 (0,0)) from HVB.out)
       obtain ⟨r0,r1,r2,r3,r4,r5,r6,r7,r8,r9,r10,r11,r12⟩:=cells13 EBC.out
       go_wp2_with fail
       refine (early_any HVW.out OKS.out x a1 a2 a3 c1 c2 c3 XM.out).mono ?_
       rintro en y2 ⟨rfl,u⟩
       have UY:=hid (UC.out.trans u)
       have VWY:=hid (HVW.out.keep u)
       have VBY:=hid ((u.block _ (heap_lt HVB.out) id).trans HVB.out)
       have EBY:=hid ((UY.out.block _ (heap_lt EB.out) id).trans EB.out)
       have HBY:=hid ((UY.out.block _ (heap_lt HBX.out) id).trans HBX.out)
       have UXY:=hid (UX.out.trans UY.out)
       obtain ⟨E,hE⟩:∃ E,earlyF s (actsOf L) x=E:=⟨_,rfl⟩
       rw [hE]
       rw [HL.out] at hE
       have HE:=hid hE
       clear u hE m0 m1 m2 m3 r0 r1 r2 r3 r4 r5 r6 r7 r8 r9 r10 r11 r12 EBC HVB HVW UC
       obtain ⟨_,_,_,_,r4,_,_,r7,r8,r9,_,_,_⟩:=cells13 EBY.out
       by_cases e0:E=0
       case neg =>
        have d0:(E != 0)=true:=bne_iff_ne.2 e0
        have VV:=hid (show legalB hs s m brk=E from (lb_early HX.out HIS.out KA.out (.inl (by rw [HE.out];exact e0))).trans HE.out)
        clear e0
        go_wp2_with fail
        go_ret
        exact ⟨⟨_,rfl,fun _=>VV.out.symm,fun q=>absurd OKS.out q⟩,U.out.trans UXY.out⟩
       have d0:(E != 0)=false:=by simp [e0]
       have E0:=hid (show earlyF s (seeF hs (pastF hs m)) x=0 from HE.out.trans e0)
       clear e0
       by_cases er:x.ref=-1
       case pos =>
        have d9:(x.ref==-1)=true:=beq_iff_eq.2 er
        have VV:=hid (show legalB hs s m brk=E from (lb_early HX.out HIS.out KA.out (.inr er)).trans HE.out)
        clear er
        go_wp2_with fail
        go_ret
        exact ⟨⟨_,rfl,fun _=>VV.out.symm,fun q=>absurd OKS.out q⟩,U.out.trans UXY.out⟩
       have d9:(x.ref==-1)=false:=beq_eq_false_iff_ne.2 er
       have ER:=hid er
       clear er
       by_cases k18:x.kind=18
       case pos =>
        have d1:(x.kind==18)=true:=beq_iff_eq.2 k18
        have K18:=hid k18
        clear k18
        go_wp2_with fail
        refine (permits_any (HH.out.keep UXY.out) x.ref x.m x.n XR.out).mono ?_
        rintro en y3 ⟨rfl,u⟩
        have UXZ:=hid (UXY.out.trans u)
        clear u
        by_cases pp:PermitP hs x.ref x.m x.n
        case pos =>
         rw [decide_eq_true pp]
         have VV:=hid (show legalB hs s m brk=0 from (lb_list HX.out HIS.out K18.out E0.out ER.out).trans (if_pos pp))
         clear pp
         go_wp2_with fail
         go_ret
         exact ⟨⟨_,rfl,fun _=>VV.out.symm,fun q=>absurd OKS.out q⟩,U.out.trans UXZ.out⟩
        rw [decide_eq_false pp]
        have VV:=hid (show legalB hs s m brk=2 from (lb_list HX.out HIS.out K18.out E0.out ER.out).trans (if_neg pp))
        clear pp
        go_wp2_with fail
        go_ret
        exact ⟨⟨_,rfl,fun _=>VV.out.symm,fun q=>absurd OKS.out q⟩,U.out.trans UXZ.out⟩
       have d1:(x.kind==18)=false:=beq_eq_false_iff_ne.2 k18
       have LV:=hid (lb_voice (brk:=brk) (s:=s) HX.out HIS.out KA.out k18 E0.out ER.out)
       have K2:=hid (show x.kind=19\/x.kind=20 from KA.out.elim (fun q=>absurd q k18) id)
       clear k18
       go_wp2_with fail
       refine (hentry_any (HH.out.keep UXY.out).his HH.out.plain x.ref XR.out).mono ?_
       rintro en y3 ⟨b1,b2,b3,e1,e2,e3,rfl,_,u⟩
       have VP:=hid (show VoteP hs x↔(entryM hs x.ref).2=true/\(entryM hs x.ref).1.kind=18/\(entryM hs x.ref).1.m=x.m/\(entryM hs x.ref).1.n=x.n from Iff.rfl)
       have PHAS:=hid (show (entryM hs x.ref).1.kind=18->(entryM hs x.ref).2=true from fun q=>by
        unfold entryM at q ⊢
        cases c:idxF hs x.ref with
        | none=>rw [c] at q;cases q
        | some i =>
          rw [c] at q
          dsimp only at q ⊢
          cases d:hs[i]? with
          | none=>rw [d] at q;cases q
          | some n=>rfl)
       obtain ⟨px,hpx⟩:∃ x',(entryM hs x.ref).1=x':=⟨_,rfl⟩
       obtain ⟨pis,hpis⟩:∃ x',(entryM hs x.ref).2=x':=⟨_,rfl⟩
       rw [hpx] at LV VP PHAS
       rw [hpis] at VP PHAS
       rw [hpx,hpis]
       obtain ⟨Y,hYY⟩:∃ W3,W3=y3.alloc (.cells (en13 px b1 b2 b3 e1 e2 e3) 72 (0,0)):=⟨_,rfl⟩
       have u3:Upd (fun _=>False) y3 Y:=by rw [hYY];exact (Upd.refl _ _).alloc _
       obtain ⟨qb,hqb⟩:∃ eb,y3.heap.size=eb:=⟨_,rfl⟩
       have QB:=hid (show Y.heap[qb]? = some (.cells (en13 px b1 b2 b3 e1 e2 e3) 72 (0,0)) by rw [hYY,<-hqb];exact heap_alloc_new)
       have uY:Upd (fun _=>False) y2 Y:=u.trans u3
       have UXV:=hid (UXY.out.trans uY)
       have EBV:=hid ((uY.block _ (heap_lt EBY.out) id).trans EBY.out)
       have HYY:=hid hYY;have HQB:=hid hqb;have UYV:=hid uY
       clear hpx hpis hYY hqb u u3 uY r4 r7 r8 r9
       unfold enV
       go_upto_region 17 with (fail)
       rw [<-(show Y=y3.alloc (.cells #[.int .i64 px.author,.int .i64 px.seq,.int .i64 px.day,.slice b1 px.knows.length e1,.int .i64 px.kind,.int .i64 px.circle,.int .i64 px.who,.int .i64 px.n,.int .i64 px.m,.int .i64 px.ref,.slice b2 px.keys.length e2,.slice b3 px.spans.length e3,.string ⟨px.text.toArray⟩] 72 (0,0)) from HYY.out)]
       try rw [HQB.out]
       clear HYY HQB
       obtain ⟨_,_,_,_,_,_,_,_,_,r9,_,_,_⟩:=cells13 EBV.out
       go_wp2_with fail
       refine (value_any (HH.out.keep UXV.out) x.ref XR.out).mono ?_
       rintro en z1 ⟨rfl,u⟩
       obtain ⟨vf,hvf⟩:∃ vf,valueF hs x.ref=vf:=⟨_,rfl⟩
       rw [hvf] at LV
       rw [hvf]
       have UYZ:=hid (UYV.out.trans u)
       have QBZ:=hid ((u.block _ (heap_lt QB.out) id).trans QB.out)
       have EBZ:=hid ((UYZ.out.block _ (heap_lt EBY.out) id).trans EBY.out)
       have VBZ:=hid ((UYZ.out.block _ (heap_lt VBY.out) id).trans VBY.out)
       have HBZ:=hid ((UYZ.out.block _ (heap_lt HBY.out) id).trans HBY.out)
       have VWZ:=hid (VWY.out.keep UYZ.out)
       have UXW:=hid (UXY.out.trans UYZ.out)
       clear u hvf r9 QB EBV EBY VBY HBY VWY UYV UYZ
       obtain ⟨_,_,_,_,r4,_,_,r7,r8,r9,_,_,_⟩:=cells13 EBZ.out
       obtain ⟨_,_,_,_,q4,_,_,q7,q8,_,_,_,_⟩:=cells13 QBZ.out
       go_upto_region 18 with (fail)
       go_cut [78] (fun s78 wx=>s78=.bool (decide (¬(px.kind=18/\px.m=x.m/\px.n=x.n)))/\z1=wx)
       case first =>
        by_cases k1:px.kind=18
        case neg =>
         have d2:(px.kind != 18)=true:=bne_iff_ne.2 k1
         have VV:=hid (show decide (¬(px.kind=18/\px.m=x.m/\px.n=x.n))=true from decide_eq_true fun q=>k1 q.1)
         clear k1
         go_wp2_with fail
         go_meet
         case rel=>exact ⟨by rw [VV.out]<;>rfl,rfl⟩
        have d2:(px.kind != 18)=false:=by simp [k1]
        by_cases k2:px.m=x.m
        case neg =>
         have d3:(px.m != x.m)=true:=bne_iff_ne.2 k2
         have VV:=hid (show decide (¬(px.kind=18/\px.m=x.m/\px.n=x.n))=true from decide_eq_true fun q=>k2 q.2.1)
         clear k1 k2
         go_wp2_with fail
         go_meet
         case rel=>exact ⟨by rw [VV.out]<;>rfl,rfl⟩
        have d3:(px.m != x.m)=false:=by simp [k2]
        by_cases k3:px.n=x.n
        case neg =>
         have d4:(px.n != x.n)=true:=bne_iff_ne.2 k3
         have VV:=hid (show decide (¬(px.kind=18/\px.m=x.m/\px.n=x.n))=true from decide_eq_true fun q=>k3 q.2.2)
         clear k1 k2 k3
         go_wp2_with fail
         go_meet
         case rel=>exact ⟨by rw [VV.out]<;>rfl,rfl⟩
        have d4:(px.n != x.n)=false:=by simp [k3]
        have VV:=hid (show decide (¬(px.kind=18/\px.m=x.m/\px.n=x.n))=false from decide_eq_false fun q=>q ⟨k1,k2,k3⟩)
        clear k1 k2 k3
        go_wp2_with fail
        go_meet
        case rel=>exact ⟨by rw [VV.out]<;>rfl,rfl⟩
       case rest =>
        obtain ⟨rfl,rfl⟩:=hcut
        by_cases kv:px.kind=18/\px.m=x.m/\px.n=x.n
        case neg =>
         rw [decide_eq_true kv]
         have VV:=hid (show legalB hs s m brk=2 from LV.out.trans (if_pos kv))
         clear kv q4 q7 q8
         go_wp2_with fail
         go_ret
         exact ⟨⟨_,rfl,fun _=>VV.out.symm,fun q=>absurd OKS.out q⟩,U.out.trans UXW.out⟩
        rw [decide_eq_false fun q=>q kv]
        have LV2:=hid (LV.out.trans (if_neg fun q=>q kv))
        have VOTE:=hid (show VoteP hs x from VP.out.2 ⟨PHAS.out kv.1,kv.1,kv.2.1,kv.2.2⟩)
        clear kv q4 q7 q8 LV VP PHAS QBZ
        obtain ⟨m0,m1,m2,m3⟩:=cells4 (show z1.heap[vb]? = some (.cells #[.slice ak s.keys.length ck,.int .i64 s.liars,.int .i64 s.seed,.slice av L.length cv] 167 (0,0)) from VBZ.out)
        by_cases k20:x.kind=20
        case pos =>
         have d5:(x.kind==20)=true:=beq_iff_eq.2 k20
         have d6:(x.kind==19)=false:=beq_eq_false_iff_ne.2 (by omega)
         have LV3:=hid (show legalB hs s m brk=if vf∉carriedF s (seeF hs (pastF hs m)) 19 x.m x.n then 24 else 0 by
          rw [LV2.out]
          by_cases c:vf∉carriedF s (seeF hs (pastF hs m)) 19 x.m x.n
          · rw [if_pos ⟨k20,c⟩,if_pos c]
          · rw [if_neg fun q=>c q.2,if_neg c,if_neg (fun q=>by have:=q.1;omega),if_neg (fun q=>by have:=q.1;omega)])
         clear k20
         go_wp2_with fail
         refine (carried_any VWZ.out OKS.out 19 x.m x.n).mono ?_
         rintro en z2 ⟨vc,rfl,ho,u⟩
         have UX2:=hid (UXW.out.trans u)
         have EB2:=hid ((u.block _ (heap_lt EBZ.out) id).trans EBZ.out)
         rw [HL.out] at ho
         obtain ⟨C,hC⟩:∃ C,carriedF s (seeF hs (pastF hs m)) 19 x.m x.n=C:=⟨_,rfl⟩
         rw [hC] at ho LV3
         have IR:=hid (IntRow.of_own ho)
         obtain ⟨ac,cc,rfl,_,_⟩:=own_slice ho
         clear u ho hC m0 m1 m2 m3 r4 r7 r8 r9
         obtain ⟨_,_,_,_,r4,_,_,_,_,_,_,_,_⟩:=cells13 EB2.out
         go_wp2_with fail
         refine (has_int IR.out vf).mono ?_
         rintro en z3 ⟨rfl,rfl⟩
         by_cases cc2:vf∈C
         case neg =>
          rw [decide_eq_false cc2]
          have VV:=hid (show legalB hs s m brk=24 from LV3.out.trans (if_pos cc2))
          clear cc2
          go_wp2_with fail
          go_ret
          exact ⟨⟨_,rfl,fun _=>VV.out.symm,fun q=>absurd OKS.out q⟩,U.out.trans UX2.out⟩
         rw [decide_eq_true cc2]
         have VV:=hid (show legalB hs s m brk=0 from LV3.out.trans (if_neg fun q=>q cc2))
         clear cc2
         go_wp2_with fail
         go_ret
         exact ⟨⟨_,rfl,fun _=>VV.out.symm,fun q=>absurd OKS.out q⟩,U.out.trans UX2.out⟩
        have k19:x.kind=19:=K2.out.resolve_right k20
        have d5:(x.kind==20)=false:=beq_eq_false_iff_ne.2 k20
        have d6:(x.kind==19)=true:=beq_iff_eq.2 k19
        have LV3:=hid (show legalB hs s m brk=if brk=true then 32 else if ¬KeepsP s (seeF hs (pastF hs m)) x.author x.m x.n vf then 7 else 0 by
         rw [LV2.out,if_neg fun q=>k20 q.1]
         by_cases c:brk=true
         · rw [if_pos ⟨k19,c⟩,if_pos c]
         · rw [if_neg fun q=>c q.2,if_neg c]
           by_cases d:KeepsP s (seeF hs (pastF hs m)) x.author x.m x.n vf
           · rw [if_neg fun q=>q.2 d,if_neg fun q=>q d]
           · rw [if_pos ⟨k19,d⟩,if_pos d])
        have IN2:=hid (fun (y:World) (u:Upd (fun _=>False) W1 y)=>INN.out OKS.out k19 VOTE.out y u)
        clear k19 k20 m0 m1 m2 m3 INN
        obtain ⟨m0,m1,m2⟩:=cells3s HBZ.out
        go_wp2_with fail
        refine (IN2.out _ UXW.out).mono ?_
        rintro en z2 ⟨⟨ix,rfl,hix⟩,u⟩
        have UX2:=hid (UXW.out.trans u)
        have EB2:=hid ((u.block _ (heap_lt EBZ.out) id).trans EBZ.out)
        have VB2:=hid ((u.block _ (heap_lt VBZ.out) id).trans VBZ.out)
        have VW2:=hid (VWZ.out.keep u)
        have HIX:=hid hix
        clear u hix m0 m1 m2 r4 r7 r8 r9 IN2
        obtain ⟨r0,_,_,_,r4,_,_,r7,r8,r9,_,_,_⟩:=cells13 EB2.out
        obtain ⟨m0,m1,m2,m3⟩:=cells4 (show z2.heap[vb]? = some (.cells #[.slice ak s.keys.length ck,.int .i64 s.liars,.int .i64 s.seed,.slice av L.length cv] 167 (0,0)) from VB2.out)
        by_cases c:ix=0
        case neg =>
         have d7:(ix != 0)=true:=bne_iff_ne.2 c
         have VV:=hid (show legalB hs s m brk=32 from LV3.out.trans (if_pos (HIX.out.1 c)))
         clear c
         go_wp2_with fail
         go_ret
         exact ⟨⟨_,rfl,fun _=>VV.out.symm,fun q=>absurd OKS.out q⟩,U.out.trans UX2.out⟩
        have d7:(ix != 0)=false:=by simp [c]
        have LV4:=hid (LV3.out.trans (if_neg fun q=>(HIX.out.2 q) c))
        clear c
        go_wp2_with fail
        refine (keeps_any VW2.out OKS.out x.author x.m x.n vf).mono ?_
        rintro en z3 ⟨rfl,u⟩
        have UX3:=hid (UX2.out.trans u)
        rw [HL.out]
        clear u
        by_cases kk:KeepsP s (seeF hs (pastF hs m)) x.author x.m x.n vf
        case neg =>
         rw [decide_eq_false kk]
         have VV:=hid (show legalB hs s m brk=7 from LV4.out.trans (if_pos kk))
         clear kk
         go_wp2_with fail
         go_ret
         exact ⟨⟨_,rfl,fun _=>VV.out.symm,fun q=>absurd OKS.out q⟩,U.out.trans UX3.out⟩
        rw [decide_eq_true kk]
        have VV:=hid (show legalB hs s m brk=0 from LV4.out.trans (if_neg fun q=>q kk))
        clear kk
        go_wp2_with fail
        go_ret
        exact ⟨⟨_,rfl,fun _=>VV.out.symm,fun q=>absurd OKS.out q⟩,U.out.trans UX3.out⟩
theorem legal_any {O Or A:Nat->Prop} {b r:Nat} {hs:Hs} {R:Rg} {s:Stp} {ak:Option Addr} {ck:Nat} {w:World} (h:HPre w O Or b r hs R) (hst:StpAt w A s ak ck) (hA:∀ g,A g->g<w.heap.size) (hk:s.keys.length<=1000) (m:Int) (hm:(Lit.int .i64 m).wf=true) :
 Calls Tryz.prog 67 #[.pointer (some ⟨b,0,none⟩),stpV s ak ck,.int .i64 m] w fun e w'=>(∃ r,e=.returned (.int .i64 r)/\LegalR s (legalF hs s m) r)/\Upd (fun _=>False) w w':=by
 unfold legalF
 refine legal_step h hst hA hk m hm _ fun ok _ hv y u=>?_
 have hr:(Lit.int .i64 (entryM hs m).1.ref).wf=true:=iwf (his_wf h.his m).1.ref
 refine (legal_step (h.keep u) (hst.keep u) (fun g q=>Nat.lt_of_lt_of_le (hA g q) u.size) hk _ hr false fun _ k _=>?_).mono ?_
 · have:=hv.2.1
   omega
 · rintro e y' ⟨⟨r',rfl,e1,_⟩,u'⟩
   rw [e1 ok]
   exact ⟨⟨_,rfl,by simp⟩,u'⟩
end Go.Proofs.YtjkmalddfoemhaaGreatDoor
