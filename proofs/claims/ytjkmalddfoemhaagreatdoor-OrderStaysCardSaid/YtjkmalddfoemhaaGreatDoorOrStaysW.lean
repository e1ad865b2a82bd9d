/- Walks: OrderStays. -/
import Derived.Test.YtjkmalddfoemhaaGreatDoorRn
import Derived.Test.YtjkmalddfoemhaaGreatDoorOrSmall
import Derived.Test.YtjkmalddfoemhaaGreatDoorOrPlay
import Derived.Test.YtjkmalddfoemhaaGreatDoorOrI
import Derived.Test.YtjkmalddfoemhaaGreatDoorClG
import Derived.Test.YtjkmalddfoemhaaGreatDoorClStays
set_option maxRecDepth 100000
set_option maxHeartbeats 16000000
namespace Go.Proofs.YtjkmalddfoemhaaGreatDoor
open Go.RowKit Go.Deep
theorem rd_right {s:List UInt8} {x:En} (e:rdF s=(x,0)):RightE x:=by
 unfold rdF at e
 split at e
 · rename_i c
   injection e with e _
   rw [<-e];exact c.2.2.1
 · injection e with _ e;cases e
theorem act_day {R:Rg} {hs:Hs} (H:His rdF R hs) {x:ActP} (hx:x∈allA hs):DayP x.en.m/\DayP x.en.n:=by
 obtain ⟨e1,k,_⟩:=act_kind hx
 obtain ⟨i,ei⟩:=Option.isSome_iff_exists.1 (act_has (mem_all.1 hx))
 obtain ⟨hi,e⟩:=entry_at ei
 rw [e] at e1
 have r:=(rd_right (H.at hi).read).numbers
 dsimp only at e1
 rw [<-e1] at r
 unfold numbersP at r
 unfold DayP
 rcases k with k | k | k<;>simp [k,dayP] at r<;>omega
theorem fair_of {R:Rg} {hs:Hs} (H:His rdF R hs) {s:Stp} (ok:StpOk s) (hf:((guiltC hs s).length:Int)<=s.liars):Fair hs s:=⟨ok,hf,fun _ hx=>(act_day H hx).2.1⟩
theorem ints_pre {w:World} {B n:Nat} {a:Option Addr} {cap:Nat} {l:List Int} (h:w.ownsRow B 3 1 (.slice a l.length cap) l.length (l.map fun x=>.int .i64 x)) (hw:∀ x∈l,I64 x) (hn:n<=l.length):kInts.rep (· < w.heap.size) w [.slice a n cap] (l.take n):=by
 have hr:=ints_rep h hw
 obtain ⟨a',c',e,h1,h2,h3⟩:=slice_open hr
 injection e with e1 _ e3
 subst e1 e3
 rcases Nat.eq_zero_or_pos n with h0 | hp
 · subst h0
   exact .inl ⟨_,_,rfl,h2,by simp⟩
 · obtain ⟨b,o,rfl,hA,hel⟩:=h3 (by omega)
   refine .inr ⟨b,o,_,by rw [List.length_take,Nat.min_eq_left hn],by rw [List.length_take];omega,h2,hA.2,fun i hi=>?_⟩
   rw [List.length_take] at hi
   have:=hel i (by omega)
   rw [List.getElem_take]
   exact this
structure RowN (y:World) (B:Nat) (a:Option Addr) (n c:Nat) (l:List Int):Prop where
 row:y.ownsRow B 3 1 (.slice a n c) l.length (l.map fun x=>.int .i64 x)
 len:l.length=n
 wf:∀ x∈l,I64 x
theorem RowN.keep {y y':World} {B:Nat} {a:Option Addr} {n c:Nat} {l:List Int} (h:RowN y B a n c l) (u:Upd (fun _=>False) y y'):RowN y' B a n c l:=⟨ownsRow_upd h.row u fun _ _=>id,h.len,h.wf⟩
theorem RowN.cap {y:World} {B:Nat} {a:Option Addr} {n c:Nat} {l:List Int} (h:RowN y B a n c l):n<=c/\c<=9223372036854775807:=by
 obtain ⟨_,_,e,h1,h2⟩:=own_slice h.row
 injection e with _ e1 e2
 have h2:_<=9223372036854775807:=h2
 omega
theorem RowN.pre {y:World} {B:Nat} {a:Option Addr} {n c:Nat} {l:List Int} (h:RowN y B a n c l) {k:Nat} (hk:k<=n):kInts.rep (· < y.heap.size) y [.slice a k c] (l.take k):=by
 have:=h.row
 have e:=h.len
 subst e
 exact ints_pre this h.wf hk
theorem RowN.all {y:World} {B:Nat} {a:Option Addr} {n c:Nat} {l:List Int} (h:RowN y B a n c l):kInts.rep (· < y.heap.size) y [.slice a n c] l:=by
 have:=h.pre (Nat.le_refl _)
 rwa [List.take_of_length_le (by rw [h.len];exact Nat.le_refl _)] at this
theorem RowN.cell {y:World} {B:Nat} {a:Option Addr} {n c:Nat} {l:List Int} (h:RowN y B a n c l) (hp:0<n):∃ g o,a=some ⟨g,o,none⟩/\∀ i (hi:i<l.length),y.cell? ⟨g,o+i,none⟩=some (.int .i64 l[i]):=by
 obtain ⟨a',c',e,_,_,h3⟩:=IntRow.of_rep h.all
 injection e with e _ _
 obtain ⟨g,o,e1,e2⟩:=h3 (by rw [h.len];exact hp)
 exact ⟨g,o,e.trans e1,e2⟩
theorem down_mono {h:Hs} {a b:List Int} (s:∀ x∈a,x∈b) {m:Int} (q:InDown h a m):InDown h b m:=⟨q.1,q.2.imp (s m) fun ⟨x,h1,h2⟩=>⟨x,s x h1,h2⟩⟩
theorem stays_walk {s:Stp} {ak:Option Addr} {ck:Nat} (v vm:Value) (l:List Po) (ms:List Int) (more:Int) (w:World) (E:Env w) (hu:UsesIn w) (hz:6<=w.heap.size) (hst:StpAt w (· < w.heap.size) s ak ck) (h:kPos.rep (· < w.heap.size) w [v] l) (hms:kInts.rep (· < w.heap.size) w [vm] ms) (hmo:I64 more):Calls Tryz.prog 9 #[stpV s ak ck,v,vm,.int .i64 more] w fun e w'=>e=.returned (.bool true)/\Upd (fun _=>False) w w':=by
 obtain ⟨am0,cm0,rfl,hq1,hq2,_⟩:=slice_open hms
 have hq2:cm0<=9223372036854775807:=hq2
 have MS:=hid (fun (y:World) (u:Upd (fun _=>False) w y)=>(show kInts.rep (· < w.heap.size) y [.slice am0 ms.length cm0] ms from kInts.keep hms (Same.of_upd u fun _ _=>id)))
 have MWF:=hid (ints_wf hms)
 have MO:=hid hmo
 clear hms hmo
 have HE:=hid E;have HU:=hid hu;have HZ:=hid hz
 obtain ⟨av,cv,rfl,_,hcv,_⟩:=slice_open h
 obtain ⟨W1,hW1⟩:∃ W1,W1=w.alloc (.cells #[.slice ak s.keys.length ck,.int .i64 s.liars,.int .i64 s.seed] 60 (0,0)):=⟨_,rfl⟩
 have u1:Upd (fun _=>False) w W1:=by rw [hW1];exact (Upd.refl _ _).alloc _
 have HB:=hid (show W1.heap[w.heap.size]? = some (.cells #[.slice ak s.keys.length ck,.int .i64 s.liars,.int .i64 s.seed] 60 (0,0)) by rw [hW1];exact heap_alloc_new)
 have U:=hid u1;have HW:=hid hW1
 have HS:=hid (hst.keep u1)
 have HP:=hid (kPos.mono (kPos.keep h (Same.of_upd u1 fun _ _=>id)) fun g hg=>(Nat.lt_of_lt_of_le hg u1.size:g<W1.heap.size))
 obtain ⟨p,hp⟩:∃ p,w.heap.size=p:=⟨_,rfl⟩
 rw [hp] at HB
 have HPP:=hid hp
 have HA:=hid (fun (y:World) (u:Upd (fun _=>False) W1 y) g (q:g<w.heap.size)=>(show g<y.heap.size from Nat.lt_of_lt_of_le q (Nat.le_trans u1.size u.size)))
 clear E hu hz h hst hW1 u1 hp
 unfold stpV
 go_enter Tryz.func9,Tryz.ntmps9
 go_upto_region 1 with (fail)
 rw [<-HW.out]
 try rw [HPP.out]
 clear HW
 go_wp2_with fail
 refine (small33_any W1 (HE.out.keep0 U.out) (HU.out.keep U.out) (Nat.le_trans HZ.out U.out.size)).mono ?_
 rintro en x0 ⟨rfl,u⟩
 have U0:=hid u
 replace HP:=hid (kPos.mono (kPos.keep HP.out (Same.of_upd u fun _ _=>id)) fun g hg=>(Nat.lt_of_lt_of_le hg u.size:g<x0.heap.size))
 have HB0:=hid ((u.block _ (heap_lt HB.out) id).trans HB.out)
 obtain ⟨m0,m1,m2⟩:=cells3s HB0.out
 clear u
 go_wp2_with fail
 refine (few33_any (HS.out.keep U0.out) _ l 24 HP.out (fun _ q=>q) (by decide)).mono ?_
 rintro en x1 ⟨rfl,u⟩
 clear m0 m1 m2 HB0
 by_cases hf:Few33 s l 24
 case neg =>
  rw [decide_eq_false hf]
  have U1:=hid (U0.out.trans u)
  clear u
  go_wp2_with fail
  go_ret
  exact ⟨rfl,U.out.trans U1.out⟩
 rw [decide_eq_true hf]
 by_cases hl20:ms.length<=20
 case neg =>
  have hl20i:(20:Int)<ms.length:=by omega
  have U1:=hid (U0.out.trans u)
  clear u
  go_wp2_with fail
  go_ret
  exact ⟨rfl,U.out.trans U1.out⟩
 have hl20i:¬(20:Int)<ms.length:=by omega
 replace U0:=hid (U0.out.trans u)
 replace HP:=hid (kPos.mono (kPos.keep HP.out (Same.of_upd u fun _ _=>id)) fun g hg=>(Nat.lt_of_lt_of_le hg u.size:g<x1.heap.size))
 have HF:=hid hf.2
 have HK:=hid (show s.keys.length<=1000 from Nat.le_trans hf.1 (by decide))
 clear u hf
 go_wp2_with fail
 refine (play_any _ l _ (HE.out.keep0 (U.out.trans U0.out)) (HU.out.keep (U.out.trans U0.out)) HP.out (by have:=HF.out.1;omega) ⟨Nat.le_refl _,HF.out.2⟩ (Nat.le_trans HZ.out (U.out.trans U0.out).size)).mono ?_
 rintro en x2 ⟨r,vs,b,O,Or,rfl,PA⟩
 obtain ⟨hs,hhs⟩:∃ hs,playF l=hs:=⟨_,rfl⟩
 obtain ⟨R,hR⟩:∃ R,(signedF l).1=R:=⟨_,rfl⟩
 obtain ⟨sl,hsl⟩:∃ sl,(signedF l).2=sl:=⟨_,rfl⟩
 obtain ⟨aS,cs,e9,_,_⟩:=own_slice PA.sgs
 subst e9
 have HH:=hid (show HPre x2 O Or b r hs R by rw [<-hhs,<-hR];exact PA.pre)
 have SS:=hid (show ∀ s∈sl,SgSmall s by rw [<-hsl];exact PA.small)
 have HO:=hid (show ∀ k,O k->W1.heap.size<=k from fun k hk=>Nat.le_trans U0.out.size (PA.own k hk))
 have FR:=hid (show From sl hs by rw [<-hhs,<-hsl];exact all_from _ (fun s q=>q) (fun n hn=>nomatch hn))
 have UX:=hid (U0.out.trans PA.upd)
 have RL:=hid (show R.length<=4000 from Nat.le_trans HH.out.few (by decide))
 clear PA hhs hR hsl HF HP U0
 have HB2:=hid ((UX.out.block _ (heap_lt HB.out) id).trans HB.out)
 clear hl20i SS FR HO
 go_upto_region 7 with (fail)
 obtain ⟨Wd,hWd⟩:∃ Wd,x2.drew=Wd:=⟨_,rfl⟩
 have UD:=hid (show Upd (fun _=>False) x2 Wd by rw [<-hWd];exact (Upd.refl _ _).drew)
 have SHOW:=hid (fun (y:World) (u:Upd (fun _=>False) x2 y)=>(show y.cell? ⟨p,0,none⟩=some (.slice ak s.keys.length ck)/\y.cell? ⟨p,1,none⟩=some (.int .i64 s.liars)/\y.cell? ⟨p,2,none⟩=some (.int .i64 s.seed) from cells3s ((u.block _ (heap_lt HB2.out) id).trans HB2.out)))
 refine wp_region_g (fun y=>y.cell? ⟨p,0,none⟩=some (.slice ak s.keys.length ck)/\y.cell? ⟨p,1,none⟩=some (.int .i64 s.liars)/\y.cell? ⟨p,2,none⟩=some (.int .i64 s.seed)) 11 (by kernel_rfl) ?_
 rw [hWd]
 have hS:=SHOW.out Wd UD.out
 clear hWd
 refine g_takeP [11,3,2,1] (i:=0) rfl (by kernel_rfl) (by kernel_rfl) (by kernel_rfl) (by kernel_rfl) (fun _ _ _ h=>h) (.inl ⟨by kernel_rfl,by (intro w hSw;(try dsimp only at hSw);obtain ⟨z0,z1,z2⟩:=hSw;go_simp;try with_reducible rfl)⟩) hS ?_
 (try go_frame)
 refine g_op (i:=1) (by kernel_rfl) rfl ?_
 go_wp2_with fail
 refine (sright_any (HS.out.keep (UX.out.trans UD.out)) (HA.out _ (UX.out.trans UD.out)) HK.out).mono ?_
 rintro en x3 ⟨⟨bo,rfl,hbo⟩,u⟩
 have HBO:=hid hbo
 have U3:=hid (UD.out.trans u)
 have hS:=SHOW.out x3 U3.out
 clear u hbo
 go_wp2_with fail
 first | (refine ⟨fun _=>SHOW.out x3 U3.out,?_⟩) | (refine ⟨SHOW.out x3 U3.out,?_⟩)
 (try go_frame)
 cases bo with
 | false =>
   refine g_take0 (i:=2) rfl (by kernel_rfl) (by kernel_rfl) (by kernel_rfl) (by decide) (fun _ _ _ h=>h) (.inl ⟨by kernel_rfl,by (intro w _;go_simp;try with_reducible rfl)⟩) (fun _=>hS) ?_
   (try go_frame)
   refine g_take0 (i:=3) rfl (by kernel_rfl) (by kernel_rfl) (by kernel_rfl) (by decide) (fun _ _ _ h=>h) (.inl ⟨by kernel_rfl,by (intro w _;go_simp;try with_reducible rfl)⟩) (fun _=>hS) ?_
   (try go_frame)
   refine g_take0 (i:=4) rfl (by kernel_rfl) (by kernel_rfl) (by kernel_rfl) (by decide) (fun _ _ _ h=>h) (.inr ⟨by kernel_rfl,rfl⟩) (fun _=>hS) ?_
   (try go_frame)
   refine g_take0 (i:=5) rfl (by kernel_rfl) (by kernel_rfl) (by kernel_rfl) (by decide) (fun _ _ _ h=>h) (.inr ⟨by kernel_rfl,rfl⟩) (fun _=>hS) ?_
   (try go_frame)
   refine g_take0 (i:=6) rfl (by kernel_rfl) (by kernel_rfl) (by kernel_rfl) (by decide) (fun _ _ _ h=>h) (.inr ⟨by kernel_rfl,rfl⟩) (fun _=>hS) ?_
   (try go_frame)
   refine g_take0 (i:=7) rfl (by kernel_rfl) (by kernel_rfl) (by kernel_rfl) (by decide) (fun _ _ _ h=>h) (.inr ⟨by kernel_rfl,rfl⟩) (fun _=>hS) ?_
   (try go_frame)
   refine g_take0 (i:=8) rfl (by kernel_rfl) (by kernel_rfl) (by kernel_rfl) (by decide) (fun _ _ _ h=>h) (.inr ⟨by kernel_rfl,rfl⟩) (fun _=>hS) ?_
   (try go_frame)
   refine g_take0 (i:=9) rfl (by kernel_rfl) (by kernel_rfl) (by kernel_rfl) (by decide) (fun _ _ _ h=>h) (.inr ⟨by kernel_rfl,rfl⟩) (fun _=>hS) ?_
   (try go_frame)
   refine g_take0 (i:=10) rfl (by kernel_rfl) (by kernel_rfl) (by kernel_rfl) (by decide) (fun _ _ _ h=>h) (.inr ⟨by kernel_rfl,rfl⟩) (fun _=>hS) ?_
   (try go_frame)
   refine g_op (i:=11) (by kernel_rfl) rfl ?_
   go_wp2_with fail
   try with_reducible refine And.intro (fun h=>absurd h (by simp)) ?_
   refine g_done (by kernel_rfl) ?_
   go_wp2_with fail
   go_ret
   exact ⟨rfl,U.out.trans (UX.out.trans U3.out)⟩
 | true =>
   have OKS:=hid (HBO.out.1 rfl)
   clear HBO
   refine g_take0 (i:=2) rfl (by kernel_rfl) (by kernel_rfl) (by kernel_rfl) (by decide) (fun _ _ _ h=>h) (.inl ⟨by kernel_rfl,by (intro w _;go_simp;try with_reducible rfl)⟩) (fun _=>hS) ?_
   (try go_frame)
   refine g_take0 (i:=3) rfl (by kernel_rfl) (by kernel_rfl) (by kernel_rfl) (by decide) (fun _ _ _ h=>h) (.inl ⟨by kernel_rfl,by (intro w _;go_simp;try with_reducible rfl)⟩) (fun _=>hS) ?_
   (try go_frame)
   refine g_take0 (i:=4) rfl (by kernel_rfl) (by kernel_rfl) (by kernel_rfl) (by decide) (fun _ _ _ h=>h) (.inl ⟨by kernel_rfl,by (intro w _;go_simp;try with_reducible rfl)⟩) (fun _=>hS) ?_
   (try go_frame)
   refine g_takeP [11,10,7,6] (i:=5) rfl (by kernel_rfl) (by kernel_rfl) (by kernel_rfl) (by kernel_rfl) (fun _ _ _ h=>h) (.inl ⟨by kernel_rfl,by (intro w hSw;(try dsimp only at hSw);obtain ⟨z0,z1,z2⟩:=hSw;go_simp;try with_reducible rfl)⟩) hS ?_
   (try go_frame)
   refine g_take0 (i:=8) rfl (by kernel_rfl) (by kernel_rfl) (by kernel_rfl) (by decide) (fun _ _ _ h=>h) (.inl ⟨by kernel_rfl,by (intro w _;go_simp;try with_reducible rfl)⟩) (fun _=>hS) ?_
   (try go_frame)
   refine g_takeP [11,10] (i:=9) rfl (by kernel_rfl) (by kernel_rfl) (by kernel_rfl) (by kernel_rfl) (fun _ _ _ h=>h) (.inl ⟨by kernel_rfl,by (intro w hSw;(try dsimp only at hSw);obtain ⟨z0,z1,z2⟩:=hSw;go_simp;try with_reducible rfl)⟩) hS ?_
   (try go_frame)
   refine g_want (i:=6) (by kernel_rfl) rfl (by kernel_rfl) ?_
   go_wp2_with fail
   refine (guiltK_any (HH.out.keep U3.out) (HS.out.keep (UX.out.trans U3.out)) (HA.out _ (UX.out.trans U3.out)) HK.out HH.out.gnd.ring.ok).mono ?_
   rintro en x4 ⟨vg,lg,rfl,hlg,_,ho,u⟩
   obtain ⟨ag,cg,rfl,_,_⟩:=own_slice ho
   have LG:=hid (hlg OKS.out)
   have U4:=hid (U3.out.trans u)
   have hS:=SHOW.out x4 U4.out
   have FAIR:=hid (fun (q:(lg.length:Int)<=s.liars)=>fair_of HH.out.plain OKS.out (by rw [<-LG.out];exact q))
   obtain ⟨ng,hng⟩:∃ ng,lg.length=ng:=⟨_,rfl⟩
   rw [hng] at FAIR ⊢
   clear u hlg ho hng LG
   go_wp2_with fail
   first | (refine ⟨fun _=>SHOW.out x4 U4.out,?_⟩) | (refine ⟨SHOW.out x4 U4.out,?_⟩)
   (try go_frame)
   refine g_take0 (i:=7) rfl (by kernel_rfl) (by kernel_rfl) (by kernel_rfl) (by decide) (fun _ _ _ h=>h) (.inl ⟨by kernel_rfl,by (intro w _;go_simp;try with_reducible rfl)⟩) (fun _=>hS) ?_
   (try go_frame)
   by_cases hgl:(ng:Int)<=s.liars
   case neg =>
    have hgl':s.liars<(ng:Int):=by omega
    have dgl:decide (s.liars<(ng:Int))=true:=decide_eq_true hgl'
    refine g_take0 (i:=10) rfl (by kernel_rfl) (by kernel_rfl) (by kernel_rfl) (by decide) (fun _ _ _ h=>h) (.inl ⟨by kernel_rfl,by (intro w _;go_simp;try with_reducible rfl)⟩) (fun _=>hS) ?_
    (try go_frame)
    refine g_op (i:=11) (by kernel_rfl) rfl ?_
    go_wp2_with fail
    try with_reducible refine And.intro (fun h=>absurd h (by simp)) ?_
    refine g_done (by kernel_rfl) ?_
    go_wp2_with fail
    go_ret
    exact ⟨rfl,U.out.trans (UX.out.trans U4.out)⟩
   replace FAIR:=hid (FAIR.out hgl)
   have hgl':¬s.liars<(ng:Int):=by omega
   have dgl:decide (s.liars<(ng:Int))=false:=decide_eq_false hgl'
   refine g_take0 (i:=10) rfl (by kernel_rfl) (by kernel_rfl) (by kernel_rfl) (by decide) (fun _ _ _ h=>h) (.inl ⟨by kernel_rfl,by (intro w _;go_simp;try with_reducible rfl)⟩) (fun _=>hS) ?_
   (try go_frame)
   replace HH:=hid (HH.out.keep U4.out)
   replace UX:=hid (UX.out.trans U4.out)
   have HB4:=hid ((U4.out.block _ (heap_lt HB2.out) id).trans HB2.out)
   refine g_op (i:=11) (by kernel_rfl) rfl ?_
   go_wp2_with fail
   try with_reducible refine And.intro (fun h=>absurd h (by simp)) ?_
   refine g_done (by kernel_rfl) ?_
   go_wp2_with fail
   clear hS HB2 SHOW U3 UD
   refine (hrestrict_any HH.out _ _ ms (MS.out _ (U.out.trans UX.out))).mono ?_
   rintro en x5 ⟨ba,Oa,rfl,ha,na,u⟩
   obtain ⟨ga,hga⟩:∃ g,restrictF rdF R hs ms=g:=⟨_,rfl⟩
   have IA:=hid (restrict_ok HH.out.plain RL.out ms)
   rw [hga] at ha IA
   have HPA:=hid (HH.out.made u ha IA.out.1 na)
   replace HH:=hid (HH.out.keep u)
   replace UX:=hid (UX.out.trans u)
   have HB5:=hid ((u.block _ (heap_lt HB4.out) id).trans HB4.out)
   clear u ha na hga HB4
   obtain ⟨v1,w1,r1,o1,g1⟩:=append_srcI (own_emptyI x5) am0 cm0 ms (kInts.keep (MS.out _ (U.out.trans UX.out)) (Same.of_upd ((Upd.refl (x5.heap.size ≤ ·) _).alloc _) fun g hg hh=>by have:=(U.out.trans UX.out).size;omega)) (by omega) (by simp)
   have u1:Upd (x5.heap.size ≤ ·) x5 w1:=((Upd.refl (x5.heap.size ≤ ·) x5).alloc _).grown g1 fun k hk=>.inl ((own_emptyI x5).lt k hk).1
   rw [List.nil_append,Nat.zero_add] at o1
   obtain ⟨v2,w2,r2,o2,u2,n2⟩:=append_one elemI o1 #[.int .i64 more] rfl (by simp [Value.oneCell']) (by unfold maxLen;omega) (by omega) u1.size 30 (0,0)
   have U5:=hid (show Upd (fun _=>False) x5 w2 from (Upd.refl (fun _=>False) x5).comp (u1.trans (u2.mono fun k hk=>(own_lt o1 k hk).1)) fun i hi e=>by omega)
   have O2:=hid (show w2.ownsRow x5.heap.size 3 1 v2 (ms++[more]).length ((ms++[more]).map fun x=>.int .i64 x) by rw [List.length_append,List.map_append];exact o2)
   have R2:=hid (ints_rep O2.out fun x hx=>(List.mem_append.1 hx).elim (MWF.out x) fun q=>by rw [List.mem_singleton.1 q];exact MO.out)
   have R1:=hid r1;have RR2:=hid r2
   clear r1 r2 o1 g1 u1 o2 u2 n2
   go_wp2_with (at_builtin;first | refine wpList_append_run (v0:=.slice (some ⟨x5.heap.size,0,none⟩) 0 0) (v1:=.slice am0 ms.length cm0) rfl _ _ _ _ rfl rfl rfl R1.out ?_ | refine wpList_append_run (v0:=v1) (v1:=.slice (some ⟨w1.heap.size,0,none⟩) 1 1) rfl _ _ _ _ rfl rfl rfl RR2.out ?_)
   refine (hrestrict_any (HH.out.keep U5.out) _ _ (ms++[more]) R2.out).mono ?_
   rintro en x6 ⟨bb,Ob,rfl,hb,nb,u⟩
   obtain ⟨gb,hgb⟩:∃ g,restrictF rdF R hs (ms++[more])=g:=⟨_,rfl⟩
   have IB:=hid (restrict_ok HH.out.plain RL.out (ms++[more]))
   rw [hgb] at hb IB
   have HPB:=hid ((HH.out.keep U5.out).made u hb IB.out.1 nb)
   have U6:=hid (U5.out.trans u)
   replace HH:=hid (HH.out.keep U6.out)
   replace HPA:=hid (HPA.out.keep U6.out)
   replace UX:=hid (UX.out.trans U6.out)
   have HB6:=hid ((U6.out.block _ (heap_lt HB5.out) id).trans HB5.out)
   have SAB:=hid (show SubM ga gb from fun m q=>(IB.out.2 m).2 (down_mono (fun x hx=>List.mem_append.2 (.inl hx)) ((IA.out.2 m).1 q)))
   have SBH:=hid (show SubM gb hs from fun m q=>((IB.out.2 m).1 q).1)
   clear u hb nb hgb U5 U6 O2 R2 R1 RR2 HB5
   obtain ⟨m0,m1,m2⟩:=cells3s HB6.out
   go_wp2_with fail
   refine (sequence_any HPA.out (HS.out.keep UX.out) (HA.out _ UX.out) HK.out).mono ?_
   rintro en z1 ⟨v1,e1,d1,rfl,hd1,_,r1,q1,u⟩
   have DD1:=hid (hd1.1 OKS.out)
   obtain ⟨X1,hX1⟩:∃ X,seqF ga d1=X:=⟨_,rfl⟩
   obtain ⟨E1,hE1⟩:∃ X,endsF ga d1=X:=⟨_,rfl⟩
   have SW1:=hid (show ∀ x∈seqF ga d1,I64 x from fun x hx=>by have h1:=(mem_seq HPA.out.plain d1 x).1 hx;have:=marks_small HPA.out.plain ((mem_marksF ga x).2 h1);have:=HPA.out.few;unfold I64;omega)
   have EW1:=hid (show ∀ x∈endsF ga d1,I64 x from fun x hx=>ends_i64 HPA.out.plain HPA.out.few d1 x hx)
   have HX1:=hid hX1;have HE1:=hid hE1
   rw [hX1] at r1 SW1
   rw [hE1] at q1 EW1
   obtain ⟨ax1,cx1,rfl,_,_⟩:=own_slice r1
   obtain ⟨ae1,ce1,rfl,_,_⟩:=own_slice q1
   obtain ⟨nx1,hnx1⟩:∃ n,X1.length=n:=⟨_,rfl⟩
   obtain ⟨ne1,hne1⟩:∃ n,E1.length=n:=⟨_,rfl⟩
   have RX1:=hid (show RowN z1 x6.heap.size ax1 nx1 cx1 X1 from ⟨by rw [hnx1] at r1 ⊢;exact r1,hnx1,SW1.out⟩)
   have RE1:=hid (show RowN z1 x6.heap.size ae1 ne1 ce1 E1 from ⟨by rw [hne1] at q1 ⊢;exact q1,hne1,EW1.out⟩)
   rw [hnx1,hne1]
   replace HH:=hid (HH.out.keep u)
   replace HPA:=hid (HPA.out.keep u)
   replace HPB:=hid (HPB.out.keep u)
   replace UX:=hid (UX.out.trans u)
   replace HB6:=hid ((u.block _ (heap_lt HB6.out) id).trans HB6.out)
   clear u hd1 r1 q1 hX1 hE1 SW1 EW1 hnx1 hne1 m0 m1 m2
   obtain ⟨m0,m1,m2⟩:=cells3s HB6.out
   go_wp2_with fail
   refine (sequence_any HPB.out (HS.out.keep UX.out) (HA.out _ UX.out) HK.out).mono ?_
   rintro en z2 ⟨v2,e2,d2,rfl,hd2,_,r2,q2,u⟩
   have DD2:=hid (hd2.1 OKS.out)
   obtain ⟨X2,hX2⟩:∃ X,seqF gb d2=X:=⟨_,rfl⟩
   obtain ⟨E2,hE2⟩:∃ X,endsF gb d2=X:=⟨_,rfl⟩
   have SW2:=hid (show ∀ x∈seqF gb d2,I64 x from fun x hx=>by have h1:=(mem_seq HPB.out.plain d2 x).1 hx;have:=marks_small HPB.out.plain ((mem_marksF gb x).2 h1);have:=HPB.out.few;unfold I64;omega)
   have EW2:=hid (show ∀ x∈endsF gb d2,I64 x from fun x hx=>ends_i64 HPB.out.plain HPB.out.few d2 x hx)
   have HX2:=hid hX2;have HE2:=hid hE2
   rw [hX2] at r2 SW2
   rw [hE2] at q2 EW2
   obtain ⟨ax2,cx2,rfl,_,_⟩:=own_slice r2
   obtain ⟨ae2,ce2,rfl,_,_⟩:=own_slice q2
   obtain ⟨nx2,hnx2⟩:∃ n,X2.length=n:=⟨_,rfl⟩
   obtain ⟨ne2,hne2⟩:∃ n,E2.length=n:=⟨_,rfl⟩
   have RX2:=hid (show RowN z2 z1.heap.size ax2 nx2 cx2 X2 from ⟨by rw [hnx2] at r2 ⊢;exact r2,hnx2,SW2.out⟩)
   have RE2:=hid (show RowN z2 z1.heap.size ae2 ne2 ce2 E2 from ⟨by rw [hne2] at q2 ⊢;exact q2,hne2,EW2.out⟩)
   rw [hnx2,hne2]
   replace HH:=hid (HH.out.keep u)
   replace HPA:=hid (HPA.out.keep u)
   replace HPB:=hid (HPB.out.keep u)
   replace UX:=hid (UX.out.trans u)
   replace HB6:=hid ((u.block _ (heap_lt HB6.out) id).trans HB6.out)
   replace RX1:=hid (RX1.out.keep u)
   replace RE1:=hid (RE1.out.keep u)
   clear u hd2 r2 q2 hX2 hE2 SW2 EW2 hnx2 hne2 m0 m1 m2
   obtain ⟨m0,m1,m2⟩:=cells3s HB6.out
   go_wp2_with fail
   refine (sequence_any HH.out (HS.out.keep UX.out) (HA.out _ UX.out) HK.out).mono ?_
   rintro en z3 ⟨v3,e3,d3,rfl,hd3,_,r3,q3,u⟩
   have DD3:=hid (hd3.1 OKS.out)
   obtain ⟨X3,hX3⟩:∃ X,seqF hs d3=X:=⟨_,rfl⟩
   obtain ⟨E3,hE3⟩:∃ X,endsF hs d3=X:=⟨_,rfl⟩
   have SW3:=hid (show ∀ x∈seqF hs d3,I64 x from fun x hx=>by have h1:=(mem_seq HH.out.plain d3 x).1 hx;have:=marks_small HH.out.plain ((mem_marksF hs x).2 h1);have:=HH.out.few;unfold I64;omega)
   have EW3:=hid (show ∀ x∈endsF hs d3,I64 x from fun x hx=>ends_i64 HH.out.plain HH.out.few d3 x hx)
   have HX3:=hid hX3;have HE3:=hid hE3
   rw [hX3] at r3 SW3
   rw [hE3] at q3 EW3
   obtain ⟨ax3,cx3,rfl,_,_⟩:=own_slice r3
   obtain ⟨ae3,ce3,rfl,_,_⟩:=own_slice q3
   obtain ⟨nx3,hnx3⟩:∃ n,X3.length=n:=⟨_,rfl⟩
   obtain ⟨ne3,hne3⟩:∃ n,E3.length=n:=⟨_,rfl⟩
   have RX3:=hid (show RowN z3 z2.heap.size ax3 nx3 cx3 X3 from ⟨by rw [hnx3] at r3 ⊢;exact r3,hnx3,SW3.out⟩)
   have RE3:=hid (show RowN z3 z2.heap.size ae3 ne3 ce3 E3 from ⟨by rw [hne3] at q3 ⊢;exact q3,hne3,EW3.out⟩)
   rw [hnx3,hne3]
   replace HH:=hid (HH.out.keep u)
   replace HPA:=hid (HPA.out.keep u)
   replace HPB:=hid (HPB.out.keep u)
   replace UX:=hid (UX.out.trans u)
   replace HB6:=hid ((u.block _ (heap_lt HB6.out) id).trans HB6.out)
   replace RX1:=hid (RX1.out.keep u)
   replace RE1:=hid (RE1.out.keep u)
   replace RX2:=hid (RX2.out.keep u)
   replace RE2:=hid (RE2.out.keep u)
   clear u hd3 r3 q3 hX3 hE3 SW3 EW3 hnx3 hne3 m0 m1 m2
   obtain ⟨m0,m1,m2⟩:=cells3s HB6.out
   clear m0 m1 m2 HB6
   have LAW:=hid (stays_law HPA.out.plain HPB.out.plain HH.out.plain SAB.out SBH.out FAIR.out DD1.out DD2.out DD3.out)
   rw [HX1.out,HX2.out,HX3.out,HE1.out,HE2.out,HE3.out] at LAW
   clear DD1 DD2 DD3 HX1 HX2 HX3 HE1 HE2 HE3 FAIR SAB SBH HPA HPB IA IB
   obtain ⟨B12,B13,hl23,hp23⟩:=LAW.out
   have hl12:=B12.len
   rw [RE1.out.len,RE2.out.len] at hl12
   rw [RE2.out.len,RE3.out.len] at hl23
   have hp12:=B12.pre
   rw [RE1.out.len] at hp12
   rw [RE2.out.len] at hp23
   have BL12:=hid B12;have BL13:=hid B13;have HP12:=hid hp12;have HP23:=hid hp23
   clear LAW B12 B13 hp12 hp23
   have g12:¬(ne2:Int)<ne1:=by omega
   have g23:¬(ne3:Int)<ne2:=by omega
   obtain ⟨ke1,ke1'⟩:=RE1.out.cap
   obtain ⟨ke2,ke2'⟩:=RE2.out.cap
   obtain ⟨ke3,ke3'⟩:=RE3.out.cap
   have kk12:ne1<=ce2:=by omega
   have kk23:ne2<=ce3:=by omega
   go_wp2_with fail
   refine (ints8_any _ _ E1 (E2.take ne1) (· < z3.heap.size) (· < z3.heap.size) _ RE1.out.all (RE2.out.pre hl12) (fun _ h=>h) (fun _ h=>h)).mono ?_
   rintro en y1 ⟨rfl,u⟩
   rw [decide_eq_true HP12.out]
   have V1:=hid u
   clear u
   go_wp2_with fail
   refine (ints8_any _ _ E2 (E3.take ne2) (· < y1.heap.size) (· < y1.heap.size) _ (RE2.out.keep V1.out).all ((RE3.out.keep V1.out).pre hl23) (fun _ h=>h) (fun _ h=>h)).mono ?_
   rintro en y2 ⟨rfl,u⟩
   rw [decide_eq_true HP23.out]
   have V2:=hid (V1.out.trans u)
   clear u
   by_cases hp:0<ne1
   case neg =>
    have hpi:¬(0:Int)<ne1:=by omega
    go_wp2_with fail
    go_ret
    exact ⟨rfl,(U.out.trans UX.out).trans V2.out⟩
   have hpi:(0:Int)<ne1:=by omega
   obtain ⟨k,hk⟩:∃ k,ne1-1=k:=⟨_,rfl⟩
   have hkn:k<ne1:=by omega
   have hkni:(k:Int)<ne1:=by omega
   have hkw:IntKind.i64.wrap ((ne1:Int)-1)=k:=by rw [IntWalk.i64_in _ (by omega)];omega
   have hki:(ne1:Int)-1=k:=by omega
   have hkE:k<E1.length:=by rw [RE1.out.len];exact hkn
   obtain ⟨ge,oe,rfl,hcell⟩:=(RE1.out.keep V2.out).cell hp
   have c0:=hcell k hkE
   obtain ⟨nn,n1,n2,n3,n4⟩:=BL12.out.last (by rw [RE1.out.len];exact hp)
   obtain ⟨nn',n1',n2',n3',n4'⟩:=BL13.out.last (by rw [RE1.out.len];exact hp)
   have ek:E1[E1.length-1]'(by have:=RE1.out.len;omega)=E1[k]:=by
    have:E1.length-1=k:=by rw [RE1.out.len];exact hk
    simp only [this]
   rw [ek] at n1 n1'
   obtain rfl:nn=nn':=by omega
   rw [n1] at c0
   rw [RX1.out.len] at n2 n2'
   rw [RX2.out.len] at n3
   rw [RX3.out.len] at n3'
   have N4:=hid n4;have N5:=hid n4'
   obtain ⟨kx1,kx1'⟩:=RX1.out.cap
   obtain ⟨kx2,kx2'⟩:=RX2.out.cap
   obtain ⟨kx3,kx3'⟩:=RX3.out.cap
   have f0:¬(nn:Int)<0:=by omega
   have f1:¬(nx1:Int)<nn:=by omega
   have f2:¬(nx2:Int)<nn:=by omega
   have f3:¬(nx3:Int)<nn:=by omega
   have j1:nn<=cx1:=by omega
   have j2:nn<=cx2:=by omega
   have j3:nn<=cx3:=by omega
   clear hcell n1 n1' n4 n4' ek BL12 BL13
   go_upto_region 24 with (fail)
   obtain ⟨Wd,hWd⟩:∃ Wd,y2.drew=Wd:=⟨_,rfl⟩
   have UD:=hid (show Upd (fun _=>False) z3 Wd by rw [<-hWd];exact V2.out.drew)
   refine wp_region_g (fun y=>Upd (fun _=>False) z3 y) 17 (by kernel_rfl) ?_
   rw [hWd]
   have hS:=UD.out
   clear hWd c0
   refine g_take0 (i:=0) rfl (by kernel_rfl) (by kernel_rfl) (by kernel_rfl) (by decide) (fun _ _ _ h=>h) (.inl ⟨by kernel_rfl,by (intro w _;go_simp;try with_reducible rfl)⟩) (fun _=>hS) ?_
   (try go_frame)
   refine g_take0 (i:=1) rfl (by kernel_rfl) (by kernel_rfl) (by kernel_rfl) (by decide) (fun _ _ _ h=>h) (.inl ⟨by kernel_rfl,by (intro w _;go_simp;try with_reducible rfl)⟩) (fun _=>hS) ?_
   (try go_frame)
   refine g_take0 (i:=2) rfl (by kernel_rfl) (by kernel_rfl) (by kernel_rfl) (by decide) (fun _ _ _ h=>h) (.inl ⟨by kernel_rfl,by (intro w _;go_simp;try with_reducible rfl)⟩) (fun _=>hS) ?_
   (try go_frame)
   refine g_take0 (i:=3) rfl (by kernel_rfl) (by kernel_rfl) (by kernel_rfl) (by decide) (fun _ _ _ h=>h) (.inl ⟨by kernel_rfl,by (intro w _;go_simp;try with_reducible rfl)⟩) (fun _=>hS) ?_
   (try go_frame)
   refine g_take0 (i:=4) rfl (by kernel_rfl) (by kernel_rfl) (by kernel_rfl) (by decide) (fun _ _ _ h=>h) (.inl ⟨by kernel_rfl,by (intro w _;go_simp;try with_reducible rfl)⟩) (fun _=>hS) ?_
   (try go_frame)
   refine g_take0 (i:=5) rfl (by kernel_rfl) (by kernel_rfl) (by kernel_rfl) (by decide) (fun _ _ _ h=>h) (.inl ⟨by kernel_rfl,by (intro w _;go_simp;try with_reducible rfl)⟩) (fun _=>hS) ?_
   (try go_frame)
   refine g_op (i:=6) (by kernel_rfl) rfl ?_
   go_wp2_with fail
   refine (ints8_any _ _ (X1.take nn) (X2.take nn) (· < Wd.heap.size) (· < Wd.heap.size) _ ((RX1.out.keep UD.out).pre n2) ((RX2.out.keep UD.out).pre n3) (fun _ h=>h) (fun _ h=>h)).mono ?_
   rintro en y3 ⟨rfl,u⟩
   rw [decide_eq_true N4.out]
   have V3:=hid (UD.out.trans u)
   clear u
   go_wp2_with fail
   first | (refine ⟨fun _=>V3.out,?_⟩) | (refine ⟨V3.out,?_⟩)
   (try go_frame)
   refine g_take0 (i:=7) rfl (by kernel_rfl) (by kernel_rfl) (by kernel_rfl) (by decide) (fun _ _ _ h=>h) (.inl ⟨by kernel_rfl,by (intro w _;go_simp;try with_reducible rfl)⟩) (fun _=>V3.out) ?_
   (try go_frame)
   refine g_take0 (i:=8) rfl (by kernel_rfl) (by kernel_rfl) (by kernel_rfl) (by decide) (fun _ _ _ h=>h) (.inl ⟨by kernel_rfl,by (intro w _;go_simp;try with_reducible rfl)⟩) (fun _=>V3.out) ?_
   (try go_frame)
   refine g_take0 (i:=9) rfl (by kernel_rfl) (by kernel_rfl) (by kernel_rfl) (by decide) (fun _ _ _ h=>h) (.inl ⟨by kernel_rfl,by (intro w _;go_simp;try with_reducible rfl)⟩) (fun _=>V3.out) ?_
   (try go_frame)
   refine g_take0 (i:=10) rfl (by kernel_rfl) (by kernel_rfl) (by kernel_rfl) (by decide) (fun _ _ _ h=>h) (.inl ⟨by kernel_rfl,by (intro w _;go_simp;try with_reducible rfl)⟩) (fun _=>V3.out) ?_
   (try go_frame)
   refine g_take0 (i:=11) rfl (by kernel_rfl) (by kernel_rfl) (by kernel_rfl) (by decide) (fun _ _ _ h=>h) (.inl ⟨by kernel_rfl,by (intro w _;go_simp;try with_reducible rfl)⟩) (fun _=>V3.out) ?_
   (try go_frame)
   refine g_take0 (i:=12) rfl (by kernel_rfl) (by kernel_rfl) (by kernel_rfl) (by decide) (fun _ _ _ h=>h) (.inl ⟨by kernel_rfl,by (intro w _;go_simp;try with_reducible rfl)⟩) (fun _=>V3.out) ?_
   (try go_frame)
   refine g_take0 (i:=13) rfl (by kernel_rfl) (by kernel_rfl) (by kernel_rfl) (by decide) (fun _ _ _ h=>h) (.inl ⟨by kernel_rfl,by (intro w _;go_simp;try with_reducible rfl)⟩) (fun _=>V3.out) ?_
   (try go_frame)
   refine g_take0 (i:=14) rfl (by kernel_rfl) (by kernel_rfl) (by kernel_rfl) (by decide) (fun _ _ _ h=>h) (.inl ⟨by kernel_rfl,by (intro w _;go_simp;try with_reducible rfl)⟩) (fun _=>V3.out) ?_
   (try go_frame)
   refine g_want (i:=15) (by kernel_rfl) rfl (by kernel_rfl) ?_
   go_wp2_with fail
   refine (ints8_any _ _ (X1.take nn) (X3.take nn) (· < y3.heap.size) (· < y3.heap.size) _ ((RX1.out.keep V3.out).pre n2) ((RX3.out.keep V3.out).pre n3') (fun _ h=>h) (fun _ h=>h)).mono ?_
   rintro en y4 ⟨rfl,u⟩
   rw [decide_eq_true N5.out]
   have V4:=hid (V3.out.trans u)
   clear u
   go_wp2_with fail
   first | (refine ⟨fun _=>V4.out,?_⟩) | (refine ⟨V4.out,?_⟩)
   (try go_frame)
   refine g_take0 (i:=16) rfl (by kernel_rfl) (by kernel_rfl) (by kernel_rfl) (by decide) (fun _ _ _ h=>h) (.inl ⟨by kernel_rfl,by (intro w _;go_simp;try with_reducible rfl)⟩) (fun _=>V4.out) ?_
   (try go_frame)
   refine g_op (i:=17) (by kernel_rfl) rfl ?_
   go_wp2_with fail
   try with_reducible refine And.intro (fun h=>absurd h (by simp)) ?_
   refine g_done (by kernel_rfl) ?_
   go_wp2_with fail
   go_ret
   exact ⟨rfl,(U.out.trans UX.out).trans V4.out⟩
theorem stays_card (cs:Array Value) (s:Stp) (v:Value) (l:List Po) (vm:Value) (ms:List Int) (more:Int) (w:World) (E:Env w) (hu:UsesIn w) (hz:6<=w.heap.size) (h0:kStp.rep (· < w.heap.size) w cs.toList s) (h1:kPos.rep (· < w.heap.size) w [v] l) (h2:kInts.rep (· < w.heap.size) w [vm] ms) (h3:(Lit.int .i64 more).wf=true):Calls Tryz.prog 9 #[.agg cs,v,vm,.int .i64 more] w fun e w'=>e=.returned (.bool true)/\Below w.heap.size w w':=by
 obtain ⟨ak,ck,e,hst⟩:=stp_open h0
 obtain rfl:cs=#[.slice ak s.keys.length ck,.int .i64 s.liars,.int .i64 s.seed]:=by
  have:=congrArg List.toArray e
  simpa using this
 exact (stays_walk v vm l ms more w E hu hz hst h1 h2 (i64_wf h3)).mono fun _ _ ⟨a,u⟩=>⟨a,u.below (Nat.le_refl _) fun _ q=>q.elim⟩
end Go.Proofs.YtjkmalddfoemhaaGreatDoor
