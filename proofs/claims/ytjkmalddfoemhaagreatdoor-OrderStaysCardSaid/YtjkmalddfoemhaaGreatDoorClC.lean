/- Walks: the rules that do not depend on what is referred to (early). -/
import Derived.Test.YtjkmalddfoemhaaGreatDoorRn
import Derived.Test.YtjkmalddfoemhaaGreatDoorClB
set_option maxRecDepth 100000
set_option maxHeartbeats 4000000
namespace Go.Proofs.YtjkmalddfoemhaaGreatDoor
open Go.RowKit Go.Deep
theorem early_any {A:Nat->Prop} {B:Nat} {s:Stp} {ak:Option Addr} {ck:Nat} {av:Option Addr} {cv:Nat} {L:List AcC} {w:World} (h:VwAt w A B s ak ck av cv L) (ok:StpOk s) (e:En) (a1 a2 a3:Option Addr) (c1 c2 c3:Nat) (hm:I64 e.m):Calls Tryz.prog 130 #[viewV s ak ck av L.length cv,enV e a1 a2 a3 c1 c2 c3] w fun en w'=>en=.returned (.int .i64 (earlyF s (actsOf L) e))/\Upd (fun _=>False) w w':=by
 obtain ⟨W1,hW1⟩:∃ W1,W1=w.alloc (.cells #[.slice ak s.keys.length ck,.int .i64 s.liars,.int .i64 s.seed,.slice av L.length cv] 167 (0,0)):=⟨_,rfl⟩
 obtain ⟨W2,hW2⟩:∃ W2,W2=W1.alloc (.cells (en13 e a1 a2 a3 c1 c2 c3) 72 (0,0)):=⟨_,rfl⟩
 have u1:Upd (fun _=>False) w W1:=by rw [hW1];exact (Upd.refl _ _).alloc _
 have u2:Upd (fun _=>False) W1 W2:=by rw [hW2];exact (Upd.refl _ _).alloc _
 have hb1:W1.heap[w.heap.size]? = some (.cells #[.slice ak s.keys.length ck,.int .i64 s.liars,.int .i64 s.seed,.slice av L.length cv] 167 (0,0)):=by rw [hW1];exact heap_alloc_new
 have HB:=hid (show W2.heap[w.heap.size]? = some (.cells #[.slice ak s.keys.length ck,.int .i64 s.liars,.int .i64 s.seed,.slice av L.length cv] 167 (0,0)) from (u2.block _ (heap_lt hb1) id).trans hb1)
 have HE:=hid (show W2.heap[W1.heap.size]? = some (.cells (en13 e a1 a2 a3 c1 c2 c3) 72 (0,0)) by rw [hW2];exact heap_alloc_new)
 obtain ⟨p,hp⟩:∃ p,w.heap.size=p:=⟨_,rfl⟩
 have hq:W1.heap.size=p+1:=by rw [hW1,<-hp];simp
 rw [hp] at HB
 rw [hq] at HE
 have HP:=hid hp;have HW:=hid hW1;have HV:=hid (h.keep (u1.trans u2));have U:=hid (u1.trans u2);have HOK:=hid ok;have HM:=hid hm
 have HW2:=hid (show W2=W1.alloc (.cells #[.int .i64 e.author,.int .i64 e.seq,.int .i64 e.day,.slice a1 e.knows.length c1,.int .i64 e.kind,.int .i64 e.circle,.int .i64 e.who,.int .i64 e.n,.int .i64 e.m,.int .i64 e.ref,.slice a2 e.keys.length c2,.slice a3 e.spans.length c3,.string ⟨e.text.toArray⟩] 72 (0,0)) from hW2)
 have EF:=hid (show earlyF s (actsOf L) e=if e.author∉s.keys\/e.kind=18/\leaderF s e.m e.n≠e.author then 18 else if 0<e.m/\decidedF s (actsOf L) (e.m-1)=none then 26 else timeF e (ownA (actsOf L) e.author e.m) 0 from rfl)
 clear hW1 hW2 u1 u2 hb1 h hp hq ok hm
 unfold viewV enV
 go_enter Tryz.func130,Tryz.ntmps130
 go_upto_region 1 with (fail)
 rw [<-HW.out]
 try rw [HP.out]
 rw [<-HW2.out]
 clear HW HW2
 obtain ⟨Wd,hWd⟩:∃ Wd,W2.drew=Wd:=⟨_,rfl⟩
 have UD:=hid (show Upd (fun _=>False) W2 Wd by rw [<-hWd];exact (Upd.refl _ _).drew)
 have SHOW:=hid (fun (y:World) (u:Upd (fun _=>False) W2 y)=>(show y.cell? ⟨p,0,none⟩=some (.slice ak s.keys.length ck)/\y.cell? ⟨p,1,none⟩=some (.int .i64 s.liars)/\y.cell? ⟨p,2,none⟩=some (.int .i64 s.seed)/\y.cell? ⟨p+1,0,none⟩=some (.int .i64 e.author)/\y.cell? ⟨p+1,4,none⟩=some (.int .i64 e.kind)/\y.cell? ⟨p+1,7,none⟩=some (.int .i64 e.n)/\y.cell? ⟨p+1,8,none⟩=some (.int .i64 e.m) from by
  obtain ⟨k0,k1,k2,_⟩:=cells4 ((u.block _ (heap_lt HB.out) id).trans HB.out)
  obtain ⟨r0,_,_,_,r4,_,_,r7,r8,_⟩:=cells13 ((u.block _ (heap_lt HE.out) id).trans HE.out)
  exact ⟨k0,k1,k2,r0,r4,r7,r8⟩))
 have KR:=hid (fun (y:World) (u:Upd (fun _=>False) W2 y)=>IntRow.of_rep (HV.out.keep u).stp.keys)
 go_cut [33] (fun s33 wx=>s33=.bool (decide (e.author∉s.keys\/e.kind=18/\leaderF s e.m e.n≠e.author))/\Upd (fun _=>False) W2 wx)
 case first =>
  refine wp_region_g (fun y=>y.cell? ⟨p,0,none⟩=some (.slice ak s.keys.length ck)/\y.cell? ⟨p,1,none⟩=some (.int .i64 s.liars)/\y.cell? ⟨p,2,none⟩=some (.int .i64 s.seed)/\y.cell? ⟨p+1,0,none⟩=some (.int .i64 e.author)/\y.cell? ⟨p+1,4,none⟩=some (.int .i64 e.kind)/\y.cell? ⟨p+1,7,none⟩=some (.int .i64 e.n)/\y.cell? ⟨p+1,8,none⟩=some (.int .i64 e.m)) 23 (by kernel_rfl) ?_
  rw [hWd]
  have hS:=SHOW.out Wd UD.out
  clear hWd
  refine g_take0 (i:=0) rfl (by kernel_rfl) (by kernel_rfl) (by kernel_rfl) (by decide) (fun _ _ _ h=>h) (Or.inl ⟨by kernel_rfl,by (intro w _;go_simp;try with_reducible rfl)⟩) (fun _=>hS) ?_
  (try go_frame)
  refine g_take0 (i:=1) rfl (by kernel_rfl) (by kernel_rfl) (by kernel_rfl) (by decide) (fun _ _ _ h=>h) (Or.inl ⟨by kernel_rfl,by (intro w _;go_simp;try with_reducible rfl)⟩) (fun _=>hS) ?_
  (try go_frame)
  refine g_takeP [23,22,7,6,5] (i:=2) rfl (by kernel_rfl) (by kernel_rfl) (by kernel_rfl) (by kernel_rfl) (fun _ _ _ h=>h) (Or.inl ⟨by kernel_rfl,by (intro w hSw;(try dsimp only at hSw);obtain ⟨z0,z1,z2,z3,z4,z5,z6⟩:=hSw;go_simp;try with_reducible rfl)⟩) hS ?_
  (try go_frame)
  refine g_take0 (i:=3) rfl (by kernel_rfl) (by kernel_rfl) (by kernel_rfl) (by decide) (fun _ _ _ h=>h) (Or.inl ⟨by kernel_rfl,by (intro w _;go_simp;try with_reducible rfl)⟩) (fun _=>hS) ?_
  (try go_frame)
  refine g_takeP [23,22,7,6,5] (i:=4) rfl (by kernel_rfl) (by kernel_rfl) (by kernel_rfl) (by kernel_rfl) (fun _ _ _ h=>h) (Or.inl ⟨by kernel_rfl,by (intro w hSw;(try dsimp only at hSw);obtain ⟨z0,z1,z2,z3,z4,z5,z6⟩:=hSw;go_simp;try with_reducible rfl)⟩) hS ?_
  (try go_frame)
  refine g_op (i:=5) (by kernel_rfl) rfl ?_
  go_wp2_with fail
  refine (has_int (KR.out _ UD.out) e.author).mono ?_
  rintro en y1 ⟨rfl,rfl⟩
  have RF:=hid (fun (q:¬(e.author∉s.keys\/e.kind=18/\leaderF s e.m e.n≠e.author))=>(decide_eq_false q))
  have RT:=hid (fun (q:e.author∉s.keys\/e.kind=18/\leaderF s e.m e.n≠e.author)=>(decide_eq_true q))
  by_cases t1:e.author∈s.keys
  case neg =>
   rw [decide_eq_false t1]
   have VV:=hid (RT.out (.inl t1))
   go_wp2_with fail
   first | (refine ⟨fun _=>SHOW.out Wd UD.out,?_⟩) | (refine ⟨SHOW.out Wd UD.out,?_⟩)
   (try go_frame)
   refine g_take0 (i:=6) rfl (by kernel_rfl) (by kernel_rfl) (by kernel_rfl) (by decide) (fun _ _ _ h=>h) (Or.inl ⟨by kernel_rfl,by (intro w _;go_simp;try with_reducible rfl)⟩) (fun _=>hS) ?_
   (try go_frame)
   refine g_take0 (i:=7) rfl (by kernel_rfl) (by kernel_rfl) (by kernel_rfl) (by decide) (fun _ _ _ h=>h) (Or.inl ⟨by kernel_rfl,by (intro w _;go_simp;try with_reducible rfl)⟩) (fun _=>hS) ?_
   (try go_frame)
   refine g_take0 (i:=8) rfl (by kernel_rfl) (by kernel_rfl) (by kernel_rfl) (by decide) (fun _ _ _ h=>h) (Or.inr ⟨by kernel_rfl,rfl⟩) (fun _=>hS) ?_
   (try go_frame)
   refine g_take0 (i:=9) rfl (by kernel_rfl) (by kernel_rfl) (by kernel_rfl) (by decide) (fun _ _ _ h=>h) (Or.inr ⟨by kernel_rfl,rfl⟩) (fun _=>hS) ?_
   (try go_frame)
   refine g_take0 (i:=10) rfl (by kernel_rfl) (by kernel_rfl) (by kernel_rfl) (by decide) (fun _ _ _ h=>h) (Or.inr ⟨by kernel_rfl,rfl⟩) (fun _=>hS) ?_
   (try go_frame)
   refine g_take0 (i:=11) rfl (by kernel_rfl) (by kernel_rfl) (by kernel_rfl) (by decide) (fun _ _ _ h=>h) (Or.inr ⟨by kernel_rfl,rfl⟩) (fun _=>hS) ?_
   (try go_frame)
   refine g_take0 (i:=12) rfl (by kernel_rfl) (by kernel_rfl) (by kernel_rfl) (by decide) (fun _ _ _ h=>h) (Or.inr ⟨by kernel_rfl,rfl⟩) (fun _=>hS) ?_
   (try go_frame)
   refine g_take0 (i:=13) rfl (by kernel_rfl) (by kernel_rfl) (by kernel_rfl) (by decide) (fun _ _ _ h=>h) (Or.inr ⟨by kernel_rfl,rfl⟩) (fun _=>hS) ?_
   (try go_frame)
   refine g_take0 (i:=14) rfl (by kernel_rfl) (by kernel_rfl) (by kernel_rfl) (by decide) (fun _ _ _ h=>h) (Or.inr ⟨by kernel_rfl,rfl⟩) (fun _=>hS) ?_
   (try go_frame)
   refine g_take0 (i:=15) rfl (by kernel_rfl) (by kernel_rfl) (by kernel_rfl) (by decide) (fun _ _ _ h=>h) (Or.inr ⟨by kernel_rfl,rfl⟩) (fun _=>hS) ?_
   (try go_frame)
   refine g_take0 (i:=16) rfl (by kernel_rfl) (by kernel_rfl) (by kernel_rfl) (by decide) (fun _ _ _ h=>h) (Or.inr ⟨by kernel_rfl,rfl⟩) (fun _=>hS) ?_
   (try go_frame)
   refine g_take0 (i:=17) rfl (by kernel_rfl) (by kernel_rfl) (by kernel_rfl) (by decide) (fun _ _ _ h=>h) (Or.inr ⟨by kernel_rfl,rfl⟩) (fun _=>hS) ?_
   (try go_frame)
   refine g_take0 (i:=18) rfl (by kernel_rfl) (by kernel_rfl) (by kernel_rfl) (by decide) (fun _ _ _ h=>h) (Or.inr ⟨by kernel_rfl,rfl⟩) (fun _=>hS) ?_
   (try go_frame)
   refine g_take0 (i:=19) rfl (by kernel_rfl) (by kernel_rfl) (by kernel_rfl) (by decide) (fun _ _ _ h=>h) (Or.inr ⟨by kernel_rfl,rfl⟩) (fun _=>hS) ?_
   (try go_frame)
   refine g_take0 (i:=20) rfl (by kernel_rfl) (by kernel_rfl) (by kernel_rfl) (by decide) (fun _ _ _ h=>h) (Or.inr ⟨by kernel_rfl,rfl⟩) (fun _=>hS) ?_
   (try go_frame)
   refine g_take0 (i:=21) rfl (by kernel_rfl) (by kernel_rfl) (by kernel_rfl) (by decide) (fun _ _ _ h=>h) (Or.inr ⟨by kernel_rfl,rfl⟩) (fun _=>hS) ?_
   (try go_frame)
   refine g_take0 (i:=22) rfl (by kernel_rfl) (by kernel_rfl) (by kernel_rfl) (by decide) (fun _ _ _ h=>h) (Or.inr ⟨by kernel_rfl,rfl⟩) (fun _=>hS) ?_
   (try go_frame)
   refine g_op (i:=23) (by kernel_rfl) rfl ?_
   go_wp2_with fail
   try with_reducible refine And.intro (fun h=>absurd h (by simp)) ?_
   refine g_done (by kernel_rfl) ?_
   go_wp2_with fail
   go_meet
   case rel=>exact ⟨by rw [VV.out]<;>rfl,UD.out⟩
  rw [decide_eq_true t1]
  go_wp2_with fail
  first | (refine ⟨fun _=>SHOW.out Wd UD.out,?_⟩) | (refine ⟨SHOW.out Wd UD.out,?_⟩)
  (try go_frame)
  refine g_take0 (i:=6) rfl (by kernel_rfl) (by kernel_rfl) (by kernel_rfl) (by decide) (fun _ _ _ h=>h) (Or.inl ⟨by kernel_rfl,by (intro w _;go_simp;try with_reducible rfl)⟩) (fun _=>hS) ?_
  (try go_frame)
  refine g_take0 (i:=7) rfl (by kernel_rfl) (by kernel_rfl) (by kernel_rfl) (by decide) (fun _ _ _ h=>h) (Or.inl ⟨by kernel_rfl,by (intro w _;go_simp;try with_reducible rfl)⟩) (fun _=>hS) ?_
  (try go_frame)
  refine g_take0 (i:=8) rfl (by kernel_rfl) (by kernel_rfl) (by kernel_rfl) (by decide) (fun _ _ _ h=>h) (Or.inl ⟨by kernel_rfl,by (intro w _;go_simp;try with_reducible rfl)⟩) (fun _=>hS) ?_
  (try go_frame)
  refine g_takeP [23,22,11,10] (i:=9) rfl (by kernel_rfl) (by kernel_rfl) (by kernel_rfl) (by kernel_rfl) (fun _ _ _ h=>h) (Or.inl ⟨by kernel_rfl,by (intro w hSw;(try dsimp only at hSw);obtain ⟨z0,z1,z2,z3,z4,z5,z6⟩:=hSw;go_simp;try with_reducible rfl)⟩) hS ?_
  (try go_frame)
  by_cases t2:e.kind=18
  case neg =>
   have VV:=hid (RF.out fun q=>q.elim (fun z=>z t1) fun z=>t2 z.1)
   have d2:(e.kind==18)=false:=beq_eq_false_iff_ne.2 t2
   refine g_take0 (i:=10) rfl (by kernel_rfl) (by kernel_rfl) (by kernel_rfl) (by decide) (fun _ _ _ h=>h) (Or.inl ⟨by kernel_rfl,by (intro w _;go_simp;try with_reducible rfl)⟩) (fun _=>hS) ?_
   (try go_frame)
   refine g_take0 (i:=11) rfl (by kernel_rfl) (by kernel_rfl) (by kernel_rfl) (by decide) (fun _ _ _ h=>h) (Or.inl ⟨by kernel_rfl,by (intro w _;go_simp;try with_reducible rfl)⟩) (fun _=>hS) ?_
   (try go_frame)
   refine g_take0 (i:=12) rfl (by kernel_rfl) (by kernel_rfl) (by kernel_rfl) (by decide) (fun _ _ _ h=>h) (Or.inr ⟨by kernel_rfl,rfl⟩) (fun _=>hS) ?_
   (try go_frame)
   refine g_take0 (i:=13) rfl (by kernel_rfl) (by kernel_rfl) (by kernel_rfl) (by decide) (fun _ _ _ h=>h) (Or.inr ⟨by kernel_rfl,rfl⟩) (fun _=>hS) ?_
   (try go_frame)
   refine g_take0 (i:=14) rfl (by kernel_rfl) (by kernel_rfl) (by kernel_rfl) (by decide) (fun _ _ _ h=>h) (Or.inr ⟨by kernel_rfl,rfl⟩) (fun _=>hS) ?_
   (try go_frame)
   refine g_take0 (i:=15) rfl (by kernel_rfl) (by kernel_rfl) (by kernel_rfl) (by decide) (fun _ _ _ h=>h) (Or.inr ⟨by kernel_rfl,rfl⟩) (fun _=>hS) ?_
   (try go_frame)
   refine g_take0 (i:=16) rfl (by kernel_rfl) (by kernel_rfl) (by kernel_rfl) (by decide) (fun _ _ _ h=>h) (Or.inr ⟨by kernel_rfl,rfl⟩) (fun _=>hS) ?_
   (try go_frame)
   refine g_take0 (i:=17) rfl (by kernel_rfl) (by kernel_rfl) (by kernel_rfl) (by decide) (fun _ _ _ h=>h) (Or.inr ⟨by kernel_rfl,rfl⟩) (fun _=>hS) ?_
   (try go_frame)
   refine g_take0 (i:=18) rfl (by kernel_rfl) (by kernel_rfl) (by kernel_rfl) (by decide) (fun _ _ _ h=>h) (Or.inr ⟨by kernel_rfl,rfl⟩) (fun _=>hS) ?_
   (try go_frame)
   refine g_take0 (i:=19) rfl (by kernel_rfl) (by kernel_rfl) (by kernel_rfl) (by decide) (fun _ _ _ h=>h) (Or.inr ⟨by kernel_rfl,rfl⟩) (fun _=>hS) ?_
   (try go_frame)
   refine g_take0 (i:=20) rfl (by kernel_rfl) (by kernel_rfl) (by kernel_rfl) (by decide) (fun _ _ _ h=>h) (Or.inr ⟨by kernel_rfl,rfl⟩) (fun _=>hS) ?_
   (try go_frame)
   refine g_take0 (i:=21) rfl (by kernel_rfl) (by kernel_rfl) (by kernel_rfl) (by decide) (fun _ _ _ h=>h) (Or.inr ⟨by kernel_rfl,rfl⟩) (fun _=>hS) ?_
   (try go_frame)
   refine g_take0 (i:=22) rfl (by kernel_rfl) (by kernel_rfl) (by kernel_rfl) (by decide) (fun _ _ _ h=>h) (Or.inl ⟨by kernel_rfl,by (intro w _;go_simp;try with_reducible rfl)⟩) (fun _=>hS) ?_
   (try go_frame)
   refine g_op (i:=23) (by kernel_rfl) rfl ?_
   go_wp2_with fail
   try with_reducible refine And.intro (fun h=>absurd h (by simp)) ?_
   refine g_done (by kernel_rfl) ?_
   go_wp2_with fail
   go_meet
   case rel=>exact ⟨by rw [VV.out]<;>rfl,UD.out⟩
  have d2:(e.kind==18)=true:=beq_iff_eq.2 t2
  have T2:=hid t2
  clear t2
  refine g_take0 (i:=10) rfl (by kernel_rfl) (by kernel_rfl) (by kernel_rfl) (by decide) (fun _ _ _ h=>h) (Or.inl ⟨by kernel_rfl,by (intro w _;go_simp;try with_reducible rfl)⟩) (fun _=>hS) ?_
  (try go_frame)
  refine g_take0 (i:=11) rfl (by kernel_rfl) (by kernel_rfl) (by kernel_rfl) (by decide) (fun _ _ _ h=>h) (Or.inl ⟨by kernel_rfl,by (intro w _;go_simp;try with_reducible rfl)⟩) (fun _=>hS) ?_
  (try go_frame)
  refine g_take0 (i:=12) rfl (by kernel_rfl) (by kernel_rfl) (by kernel_rfl) (by decide) (fun _ _ _ h=>h) (Or.inl ⟨by kernel_rfl,by (intro w _;go_simp;try with_reducible rfl)⟩) (fun _=>hS) ?_
  (try go_frame)
  refine g_takeP [23,22,21,18] (i:=13) rfl (by kernel_rfl) (by kernel_rfl) (by kernel_rfl) (by kernel_rfl) (fun _ _ _ h=>h) (Or.inl ⟨by kernel_rfl,by (intro w hSw;(try dsimp only at hSw);obtain ⟨z0,z1,z2,z3,z4,z5,z6⟩:=hSw;go_simp;try with_reducible rfl)⟩) hS ?_
  (try go_frame)
  refine g_take0 (i:=14) rfl (by kernel_rfl) (by kernel_rfl) (by kernel_rfl) (by decide) (fun _ _ _ h=>h) (Or.inl ⟨by kernel_rfl,by (intro w _;go_simp;try with_reducible rfl)⟩) (fun _=>hS) ?_
  (try go_frame)
  refine g_takeP [23,22,21,18] (i:=15) rfl (by kernel_rfl) (by kernel_rfl) (by kernel_rfl) (by kernel_rfl) (fun _ _ _ h=>h) (Or.inl ⟨by kernel_rfl,by (intro w hSw;(try dsimp only at hSw);obtain ⟨z0,z1,z2,z3,z4,z5,z6⟩:=hSw;go_simp;try with_reducible rfl)⟩) hS ?_
  (try go_frame)
  refine g_take0 (i:=16) rfl (by kernel_rfl) (by kernel_rfl) (by kernel_rfl) (by decide) (fun _ _ _ h=>h) (Or.inl ⟨by kernel_rfl,by (intro w _;go_simp;try with_reducible rfl)⟩) (fun _=>hS) ?_
  (try go_frame)
  refine g_takeP [23,22,21,18] (i:=17) rfl (by kernel_rfl) (by kernel_rfl) (by kernel_rfl) (by kernel_rfl) (fun _ _ _ h=>h) (Or.inl ⟨by kernel_rfl,by (intro w hSw;(try dsimp only at hSw);obtain ⟨z0,z1,z2,z3,z4,z5,z6⟩:=hSw;go_simp;try with_reducible rfl)⟩) hS ?_
  (try go_frame)
  refine g_take0 (i:=19) rfl (by kernel_rfl) (by kernel_rfl) (by kernel_rfl) (by decide) (fun _ _ _ h=>h) (Or.inl ⟨by kernel_rfl,by (intro w _;go_simp;try with_reducible rfl)⟩) (fun _=>hS) ?_
  (try go_frame)
  refine g_takeP [23,22,21] (i:=20) rfl (by kernel_rfl) (by kernel_rfl) (by kernel_rfl) (by kernel_rfl) (fun _ _ _ h=>h) (Or.inl ⟨by kernel_rfl,by (intro w hSw;(try dsimp only at hSw);obtain ⟨z0,z1,z2,z3,z4,z5,z6⟩:=hSw;go_simp;try with_reducible rfl)⟩) hS ?_
  (try go_frame)
  refine g_want (i:=18) (by kernel_rfl) rfl (by kernel_rfl) ?_
  go_wp2_with fail
  refine (leader_any (HV.out.keep UD.out).stp (HV.out.keep UD.out).lt (HV.out).keys HOK.out e.m e.n).mono ?_
  rintro en y2 ⟨rfl,u⟩
  have U2:=hid (UD.out.trans u)
  have hS:=SHOW.out y2 U2.out
  clear u
  go_wp2_with fail
  first | (refine ⟨fun _=>hS,?_⟩) | (refine ⟨hS,?_⟩)
  (try go_frame)
  by_cases t3:leaderF s e.m e.n=e.author
  case pos =>
   have VV:=hid (RF.out fun q=>q.elim (fun z=>z t1) fun z=>z.2 t3)
   have d3:(leaderF s e.m e.n != e.author)=false:=by simp [t3]
   refine g_take0 (i:=21) rfl (by kernel_rfl) (by kernel_rfl) (by kernel_rfl) (by decide) (fun _ _ _ h=>h) (Or.inl ⟨by kernel_rfl,by (intro w _;go_simp;try with_reducible rfl)⟩) (fun _=>hS) ?_
   (try go_frame)
   refine g_take0 (i:=22) rfl (by kernel_rfl) (by kernel_rfl) (by kernel_rfl) (by decide) (fun _ _ _ h=>h) (Or.inl ⟨by kernel_rfl,by (intro w _;go_simp;try with_reducible rfl)⟩) (fun _=>hS) ?_
   (try go_frame)
   refine g_op (i:=23) (by kernel_rfl) rfl ?_
   go_wp2_with fail
   try with_reducible refine And.intro (fun h=>absurd h (by simp)) ?_
   refine g_done (by kernel_rfl) ?_
   go_wp2_with fail
   go_meet
   case rel=>exact ⟨by rw [VV.out]<;>rfl,U2.out⟩
  have VV:=hid (RT.out (.inr ⟨T2.out,t3⟩))
  have d3:(leaderF s e.m e.n != e.author)=true:=bne_iff_ne.2 t3
  refine g_take0 (i:=21) rfl (by kernel_rfl) (by kernel_rfl) (by kernel_rfl) (by decide) (fun _ _ _ h=>h) (Or.inl ⟨by kernel_rfl,by (intro w _;go_simp;try with_reducible rfl)⟩) (fun _=>hS) ?_
  (try go_frame)
  refine g_take0 (i:=22) rfl (by kernel_rfl) (by kernel_rfl) (by kernel_rfl) (by decide) (fun _ _ _ h=>h) (Or.inl ⟨by kernel_rfl,by (intro w _;go_simp;try with_reducible rfl)⟩) (fun _=>hS) ?_
  (try go_frame)
  refine g_op (i:=23) (by kernel_rfl) rfl ?_
  go_wp2_with fail
  try with_reducible refine And.intro (fun h=>absurd h (by simp)) ?_
  refine g_done (by kernel_rfl) ?_
  go_wp2_with fail
  go_meet
  case rel=>exact ⟨by rw [VV.out]<;>rfl,U2.out⟩
 case rest =>
  obtain ⟨rfl,hwc⟩:=hcut
  have UC:=hid hwc
  clear hwc
  by_cases tt:e.author∉s.keys\/e.kind=18/\leaderF s e.m e.n≠e.author
  case pos =>
   rw [decide_eq_true tt]
   have EE:=hid (EF.out.trans (if_pos tt))
   clear tt
   go_wp2_with fail
   go_ret
   exact ⟨by rw [EE.out]<;>rfl,U.out.trans UC.out⟩
  rw [decide_eq_false tt]
  have EE:=hid (EF.out.trans (if_neg tt))
  clear tt
  have HBC:=hid ((UC.out.block _ (heap_lt HB.out) id).trans HB.out)
  have HEC:=hid ((UC.out.block _ (heap_lt HE.out) id).trans HE.out)
  obtain ⟨m0,m1,m2,m3⟩:=cells4 HBC.out
  obtain ⟨r0,_,_,_,r4,_,_,r7,r8,_⟩:=cells13 HEC.out
  have hm1:=HM.out
  unfold I64 at hm1
  by_cases hm0:0<e.m
  case pos =>
   have hwm:IntKind.i64.wrap (e.m-1)=e.m-1:=IntWalk.i64_in _ (by omega)
   go_wp2_with fail
   refine (decided_any (HV.out.keep UC.out) HOK.out (e.m-1)).mono ?_
   rintro en y1 ⟨rfl,u⟩
   have UY:=hid (UC.out.trans u)
   obtain ⟨od,hod⟩:∃ od,decidedF s (actsOf L) (e.m-1)=od:=⟨_,rfl⟩
   have HOD:=hid hod
   rw [hod]
   clear hod m0 m1 m2 m3 r0 r4 r7 r8
   cases od with
   | none =>
     have EX:=hid (EE.out.trans (if_pos ⟨hm0,HOD.out⟩))
     unfold dayV
     clear u
     go_wp2_with fail
     go_ret
     exact ⟨by rw [EX.out]<;>rfl,(U.out.trans UY.out).alloc _⟩
   | some d =>
     have EX:=hid (EE.out.trans (if_neg (show ¬(0<e.m/\decidedF s (actsOf L) (e.m-1)=none) from fun q=>by rw [HOD.out] at q;cases q.2)))
     obtain ⟨da,db⟩:=d
     unfold dayV
     clear u
     go_upto_region 5 with (fail)
     obtain ⟨y2,hy2⟩:∃ y2,y2=y1.alloc (.cells #[.int .i64 da,.int .i64 db] 89 (0,0)):=⟨_,rfl⟩
     have UY2:=hid (show Upd (fun _=>False) W2 y2 by rw [hy2];exact UY.out.alloc _)
     try rw [<-hy2]
     clear hy2
     have HBD:=hid ((UY2.out.block _ (heap_lt HB.out) id).trans HB.out)
     have HED:=hid ((UY2.out.block _ (heap_lt HE.out) id).trans HE.out)
     obtain ⟨m0,m1,m2,m3⟩:=cells4 HBD.out
     obtain ⟨r0,_,_,_,r4,_,_,r7,r8,_⟩:=cells13 HED.out
     go_wp2_with fail
     refine (owna_any (HV.out.keep UY2.out) e.author e.m).mono ?_
     rintro en x1 ⟨v,L',rfl,hA,hin,hlen,hown,u⟩
     have U1:=hid (UY2.out.trans u)
     obtain ⟨AA,hAA⟩:∃ AA,actsOf L'=AA:=⟨_,rfl⟩
     have EY:=hid (EX.out.trans (show timeF e (ownA (actsOf L) e.author e.m) 0=timeF e AA 0 by rw [<-hA,hAA]))
     have HAA:=hid hAA
     obtain ⟨ar,cr,rfl,hv1,hv2⟩:=own_slice hown
     have hv2:cr<=9223372036854775807:=hv2
     have hfew:L'.length<=1000:=Nat.le_trans hlen HV.out.few
     have OWN:=hid hown
     obtain ⟨N,hN⟩:∃ N,L'.length=N:=⟨_,rfl⟩
     have HN:=hid hN
     have HLA:=hid (show AA.length=N by rw [<-hAA];unfold actsOf;rw [List.length_map];exact hN)
     have GET:=hid (fun (y:World) (u:Upd (fun _=>False) x1 y) (hp:0<L'.length)=>(show ∃ g,ar=some ⟨g,0,none⟩/\∀ i (hi:i<L'.length),ActCs y g (i*15) L'[i] from by
      obtain ⟨g,c,e,_,_,_,hgl,hc⟩:=ActsAt.get (ownsRow_upd OWN.out u fun _ _=>id) hp
      injection e with e1 _ _
      exact ⟨g,e1,fun i hi=>⟨fun j hj=>hc i hi j hj⟩⟩))
     rw [hN] at hv1 hfew ⊢
     clear hA hin hlen hown u hAA hN EX m0 m1 m2 m3 r0 r4 r7 r8
     go_wp2_with fail
     go_loopg [7,54] N (fun gg s7 s54 wr=>∃ k:Nat,k<=N/\gg=N-k/\s54=.int .i64 k/\∃ err,s7=.int .i64 err/\timeF e AA 0=timeF e (AA.drop k) err/\Upd (fun _=>False) x1 wr)
     case atStart=>exact ⟨0,Nat.zero_le _,rfl,rfl,0,rfl,by rw [List.drop_zero],Upd.refl _ _⟩
     case round =>
      obtain ⟨k,hk,hg,rfl,err,rfl,htm,u1⟩:=hrel
      have HG:=hid hg;have UR:=hid u1;have TM:=hid htm
      clear hg u1 htm
      by_cases hlt:k<N
      case neg =>
       have hlti:¬(k:Int)<N:=by omega
       have FIN:=hid (show timeF e AA 0=err by rw [TM.out,List.drop_eq_nil_of_le (by rw [HLA.out];omega)];rfl)
       clear TM
       go_wp2_with fail
       go_ret
       exact ⟨by rw [EY.out,FIN.out]<;>rfl,(U.out.trans U1.out).trans UR.out⟩
      have hlti:(k:Int)<N:=by omega
      have hk1:(k:Int)+1<=100000:=by omega
      have hkl:k<L'.length:=by rw [HN.out];exact hlt
      have hka:k<AA.length:=by rw [HLA.out];exact hlt
      obtain ⟨g,rfl,hc⟩:=GET.out _ UR.out (by omega)
      have NK:=hid (hc k hkl)
      have EA:AA[k]=L'[k].a:=by
       have hz:=HAA.out
       subst hz
       exact acts_get hka hkl
      have ST:=hid (show timeF e AA 0=if TwiceP e L'[k].a then 5 else timeF e (AA.drop (k+1)) (if LateP e L'[k].a then 25 else err) by
       rw [TM.out,List.drop_eq_getElem_cons hka,EA];rfl)
      obtain ⟨c,hcc⟩:∃ c,L'[k]=c:=⟨_,rfl⟩
      rw [hcc] at NK ST
      obtain ⟨Wn,hWn⟩:∃ Wn,Wn=wr.alloc (.cells c.cells.toArray 184 (0,0)):=⟨_,rfl⟩
      have un:Upd (fun _=>False) wr Wn:=by rw [hWn];exact (Upd.refl _ _).alloc _
      have hbn:Wn.heap[wr.heap.size]? = some (.cells c.cells.toArray 184 (0,0)):=by rw [hWn];exact heap_alloc_new
      obtain ⟨_,_,q5,q8,_,_,_⟩:=act_cells hbn
      have HWn:=hid hWn
      have UN:=hid (UR.out.trans un)
      obtain ⟨ca,hca⟩:∃ ca,c.a=ca:=⟨_,rfl⟩
      rw [hca] at ST q5 q8
      obtain ⟨_,_,_,_,r4,r7,_⟩:=SHOW.out Wn (U1.out.trans UN.out)
      clear hc hcc hWn un hbn hca EA TM
      go_upto_region 10 with (fail)
      refine wp_region_lit ?_
      refine op_index rfl _ _ _ rfl rfl rfl (act_index hlt hv1 hv2 _) ?_
      (try go_frame)
      refine op_load rfl _ _ rfl rfl (act_load NK.out) ?_
      (try go_frame)
      refine op_alloc rfl _ rfl (act_alloc _) ?_
      (try go_frame)
      refine op_store rfl _ _ _ rfl rfl rfl (act_store _ _) ?_
      rw [<-HWn.out]
      refine wpList_nil ?_
      go_frame
      obtain ⟨xk,hxk⟩:∃ xk,ca.en.kind=xk:=⟨_,rfl⟩
      obtain ⟨xn,hxn⟩:∃ xn,ca.en.n=xn:=⟨_,rfl⟩
      have XK:=hid hxk;have XN:=hid hxn
      rw [hxk] at q5
      rw [hxn] at q8
      obtain ⟨ek,hek⟩:∃ ek,e.kind=ek:=⟨_,rfl⟩
      obtain ⟨en_,hen⟩:∃ en_,e.n=en_:=⟨_,rfl⟩
      have EK:=hid hek;have EN:=hid hen
      rw [hek] at r4
      rw [hen] at r7
      clear hxk hxn hek hen
      by_cases t1:xk=ek
      case pos =>
       have d1:(xk==ek)=true:=beq_iff_eq.2 t1
       have T1:=hid (show ca.en.kind=e.kind by rw [XK.out,EK.out];exact t1)
       clear t1
       by_cases t2:xn=en_
       case pos =>
        have d2:(xn==en_)=true:=beq_iff_eq.2 t2
        have FIN:=hid (show timeF e AA 0=5 by rw [ST.out,if_pos (show TwiceP e ca from ⟨T1.out,by rw [XN.out,EN.out];exact t2⟩)])
        clear t2 ST
        go_wp2_with fail
        go_ret
        exact ⟨by rw [EY.out,FIN.out]<;>rfl,(U.out.trans U1.out).trans UN.out⟩
       have d2:(xn==en_)=false:=beq_eq_false_iff_ne.2 t2
       have NT:¬TwiceP e ca:=fun q=>t2 (by have:=q.2;rw [XN.out,EN.out] at this;exact this)
       by_cases t3:en_<xn
       case pos =>
        have g3:decide (en_<xn)=true:=decide_eq_true t3
        have NX:=hid (show timeF e AA 0=timeF e (AA.drop (k+1)) 25 by rw [ST.out,if_neg NT,if_pos (show  LateP e ca from .inl (by rw [XN.out,EN.out];exact t3))])
        clear ST
        go_wp2_with fail
        go_roundg (N-(k+1))
        case measure=>have:=HG.out;omega
        case rel=>exact ⟨k+1,by omega,rfl,by go_num,25,rfl,NX.out,UN.out⟩
       have g3:decide (en_<xn)=false:=decide_eq_false t3
       have NX:=hid (show timeF e AA 0=timeF e (AA.drop (k+1)) err by rw [ST.out,if_neg NT,if_neg (show ¬LateP e ca from fun q=>q.elim (fun z=>t3 (by rw [XN.out,EN.out] at z;exact z)) fun z=>t2 (by have:=z.1;rw [XN.out,EN.out] at this;exact this))])
       clear ST
       go_wp2_with fail
       go_roundg (N-(k+1))
       case measure=>have:=HG.out;omega
       case rel=>exact ⟨k+1,by omega,rfl,by go_num,err,rfl,NX.out,UN.out⟩
      have d1:(xk==ek)=false:=beq_eq_false_iff_ne.2 t1
      have T1:=hid (show ¬ca.en.kind=e.kind by rw [XK.out,EK.out];exact t1)
      have NT:¬TwiceP e ca:=fun q=>T1.out q.1
      clear t1
      by_cases t3:en_<xn
      case pos =>
       have g3:decide (en_<xn)=true:=decide_eq_true t3
       have NX:=hid (show timeF e AA 0=timeF e (AA.drop (k+1)) 25 by rw [ST.out,if_neg NT,if_pos (show  LateP e ca from .inl (by rw [XN.out,EN.out];exact t3))])
       clear ST
       go_wp2_with fail
       go_roundg (N-(k+1))
       case measure=>have:=HG.out;omega
       case rel=>exact ⟨k+1,by omega,rfl,by go_num,25,rfl,NX.out,UN.out⟩
      have g3:decide (en_<xn)=false:=decide_eq_false t3
      by_cases t2:xn=en_
      case neg =>
       have d2:(xn==en_)=false:=beq_eq_false_iff_ne.2 t2
       have NX:=hid (show timeF e AA 0=timeF e (AA.drop (k+1)) err by rw [ST.out,if_neg NT,if_neg (show ¬LateP e ca from fun q=>q.elim (fun z=>t3 (by rw [XN.out,EN.out] at z;exact z)) fun z=>t2 (by have:=z.1;rw [XN.out,EN.out] at this;exact this))])
       clear ST
       go_wp2_with fail
       go_roundg (N-(k+1))
       case measure=>have:=HG.out;omega
       case rel=>exact ⟨k+1,by omega,rfl,by go_num,err,rfl,NX.out,UN.out⟩
      have d2:(xn==en_)=true:=beq_iff_eq.2 t2
      by_cases t4:xk=20
      case pos =>
       have d4:(xk==20)=true:=beq_iff_eq.2 t4
       have t5:ek≠20:=fun z=>T1.out (by rw [XK.out,EK.out,t4,z])
       have d5:(ek==20)=false:=beq_eq_false_iff_ne.2 t5
       have d6:(ek != 20)=true:=bne_iff_ne.2 t5
       have LT:LateP e ca:=.inr ⟨by rw [XN.out,EN.out];exact t2,by rw [XK.out];exact t4,by rw [EK.out];exact t5⟩
       have LT:=hid LT
       clear t2 t4 t5 t3
       have NX:=hid (show timeF e AA 0=timeF e (AA.drop (k+1)) 25 by rw [ST.out,if_neg NT,if_pos (show  LateP e ca from LT.out)])
       clear ST
       go_wp2_with fail
       go_roundg (N-(k+1))
       case measure=>have:=HG.out;omega
       case rel=>exact ⟨k+1,by omega,rfl,by go_num,25,rfl,NX.out,UN.out⟩
      have d4:(xk==20)=false:=beq_eq_false_iff_ne.2 t4
      have NL:=hid (show ¬LateP e ca from fun q=>q.elim (fun z=>t3 (by rw [XN.out,EN.out] at z;exact z)) fun z=>t4 (by have:=z.2.1;rw [XK.out] at this;exact this))
      clear t2 t4 t3
      have NX:=hid (show timeF e AA 0=timeF e (AA.drop (k+1)) err by rw [ST.out,if_neg NT,if_neg (show ¬LateP e ca from NL.out)])
      clear ST
      go_wp2_with fail
      go_roundg (N-(k+1))
      case measure=>have:=HG.out;omega
      case rel=>exact ⟨k+1,by omega,rfl,by go_num,err,rfl,NX.out,UN.out⟩
  case neg =>
   have EX:=hid (EE.out.trans (if_neg (show ¬(0<e.m/\decidedF s (actsOf L) (e.m-1)=none) from fun q=>hm0 q.1)))
   go_wp2_with fail
   refine (owna_any (HV.out.keep UC.out) e.author e.m).mono ?_
   rintro en x1 ⟨v,L',rfl,hA,hin,hlen,hown,u⟩
   have U1:=hid (UC.out.trans u)
   obtain ⟨AA,hAA⟩:∃ AA,actsOf L'=AA:=⟨_,rfl⟩
   have EY:=hid (EX.out.trans (show timeF e (ownA (actsOf L) e.author e.m) 0=timeF e AA 0 by rw [<-hA,hAA]))
   have HAA:=hid hAA
   obtain ⟨ar,cr,rfl,hv1,hv2⟩:=own_slice hown
   have hv2:cr<=9223372036854775807:=hv2
   have hfew:L'.length<=1000:=Nat.le_trans hlen HV.out.few
   have OWN:=hid hown
   obtain ⟨N,hN⟩:∃ N,L'.length=N:=⟨_,rfl⟩
   have HN:=hid hN
   have HLA:=hid (show AA.length=N by rw [<-hAA];unfold actsOf;rw [List.length_map];exact hN)
   have GET:=hid (fun (y:World) (u:Upd (fun _=>False) x1 y) (hp:0<L'.length)=>(show ∃ g,ar=some ⟨g,0,none⟩/\∀ i (hi:i<L'.length),ActCs y g (i*15) L'[i] from by
    obtain ⟨g,c,e,_,_,_,hgl,hc⟩:=ActsAt.get (ownsRow_upd OWN.out u fun _ _=>id) hp
    injection e with e1 _ _
    exact ⟨g,e1,fun i hi=>⟨fun j hj=>hc i hi j hj⟩⟩))
   rw [hN] at hv1 hfew ⊢
   clear hA hin hlen hown u hAA hN EX m0 m1 m2 m3 r0 r4 r7 r8
   go_wp2_with fail
   go_loopg [7,54] N (fun gg s7 s54 wr=>∃ k:Nat,k<=N/\gg=N-k/\s54=.int .i64 k/\∃ err,s7=.int .i64 err/\timeF e AA 0=timeF e (AA.drop k) err/\Upd (fun _=>False) x1 wr)
   case atStart=>exact ⟨0,Nat.zero_le _,rfl,rfl,0,rfl,by rw [List.drop_zero],Upd.refl _ _⟩
   case round =>
    obtain ⟨k,hk,hg,rfl,err,rfl,htm,u1⟩:=hrel
    have HG:=hid hg;have UR:=hid u1;have TM:=hid htm
    clear hg u1 htm
    by_cases hlt:k<N
    case neg =>
     have hlti:¬(k:Int)<N:=by omega
     have FIN:=hid (show timeF e AA 0=err by rw [TM.out,List.drop_eq_nil_of_le (by rw [HLA.out];omega)];rfl)
     clear TM
     go_wp2_with fail
     go_ret
     exact ⟨by rw [EY.out,FIN.out]<;>rfl,(U.out.trans U1.out).trans UR.out⟩
    have hlti:(k:Int)<N:=by omega
    have hk1:(k:Int)+1<=100000:=by omega
    have hkl:k<L'.length:=by rw [HN.out];exact hlt
    have hka:k<AA.length:=by rw [HLA.out];exact hlt
    obtain ⟨g,rfl,hc⟩:=GET.out _ UR.out (by omega)
    have NK:=hid (hc k hkl)
    have EA:AA[k]=L'[k].a:=by
     have hz:=HAA.out
     subst hz
     exact acts_get hka hkl
    have ST:=hid (show timeF e AA 0=if TwiceP e L'[k].a then 5 else timeF e (AA.drop (k+1)) (if LateP e L'[k].a then 25 else err) by
     rw [TM.out,List.drop_eq_getElem_cons hka,EA];rfl)
    obtain ⟨c,hcc⟩:∃ c,L'[k]=c:=⟨_,rfl⟩
    rw [hcc] at NK ST
    obtain ⟨Wn,hWn⟩:∃ Wn,Wn=wr.alloc (.cells c.cells.toArray 184 (0,0)):=⟨_,rfl⟩
    have un:Upd (fun _=>False) wr Wn:=by rw [hWn];exact (Upd.refl _ _).alloc _
    have hbn:Wn.heap[wr.heap.size]? = some (.cells c.cells.toArray 184 (0,0)):=by rw [hWn];exact heap_alloc_new
    obtain ⟨_,_,q5,q8,_,_,_⟩:=act_cells hbn
    have HWn:=hid hWn
    have UN:=hid (UR.out.trans un)
    obtain ⟨ca,hca⟩:∃ ca,c.a=ca:=⟨_,rfl⟩
    rw [hca] at ST q5 q8
    obtain ⟨_,_,_,_,r4,r7,_⟩:=SHOW.out Wn (U1.out.trans UN.out)
    clear hc hcc hWn un hbn hca EA TM
    go_upto_region 10 with (fail)
    refine wp_region_lit ?_
    refine op_index rfl _ _ _ rfl rfl rfl (act_index hlt hv1 hv2 _) ?_
    (try go_frame)
    refine op_load rfl _ _ rfl rfl (act_load NK.out) ?_
    (try go_frame)
    refine op_alloc rfl _ rfl (act_alloc _) ?_
    (try go_frame)
    refine op_store rfl _ _ _ rfl rfl rfl (act_store _ _) ?_
    rw [<-HWn.out]
    refine wpList_nil ?_
    go_frame
    obtain ⟨xk,hxk⟩:∃ xk,ca.en.kind=xk:=⟨_,rfl⟩
    obtain ⟨xn,hxn⟩:∃ xn,ca.en.n=xn:=⟨_,rfl⟩
    have XK:=hid hxk;have XN:=hid hxn
    rw [hxk] at q5
    rw [hxn] at q8
    obtain ⟨ek,hek⟩:∃ ek,e.kind=ek:=⟨_,rfl⟩
    obtain ⟨en_,hen⟩:∃ en_,e.n=en_:=⟨_,rfl⟩
    have EK:=hid hek;have EN:=hid hen
    rw [hek] at r4
    rw [hen] at r7
    clear hxk hxn hek hen
    by_cases t1:xk=ek
    case pos =>
     have d1:(xk==ek)=true:=beq_iff_eq.2 t1
     have T1:=hid (show ca.en.kind=e.kind by rw [XK.out,EK.out];exact t1)
     clear t1
     by_cases t2:xn=en_
     case pos =>
      have d2:(xn==en_)=true:=beq_iff_eq.2 t2
      have FIN:=hid (show timeF e AA 0=5 by rw [ST.out,if_pos (show TwiceP e ca from ⟨T1.out,by rw [XN.out,EN.out];exact t2⟩)])
      clear t2 ST
      go_wp2_with fail
      go_ret
      exact ⟨by rw [EY.out,FIN.out]<;>rfl,(U.out.trans U1.out).trans UN.out⟩
     have d2:(xn==en_)=false:=beq_eq_false_iff_ne.2 t2
     have NT:¬TwiceP e ca:=fun q=>t2 (by have:=q.2;rw [XN.out,EN.out] at this;exact this)
     by_cases t3:en_<xn
     case pos =>
      have g3:decide (en_<xn)=true:=decide_eq_true t3
      have NX:=hid (show timeF e AA 0=timeF e (AA.drop (k+1)) 25 by rw [ST.out,if_neg NT,if_pos (show  LateP e ca from .inl (by rw [XN.out,EN.out];exact t3))])
      clear ST
      go_wp2_with fail
      go_roundg (N-(k+1))
      case measure=>have:=HG.out;omega
      case rel=>exact ⟨k+1,by omega,rfl,by go_num,25,rfl,NX.out,UN.out⟩
     have g3:decide (en_<xn)=false:=decide_eq_false t3
     have NX:=hid (show timeF e AA 0=timeF e (AA.drop (k+1)) err by rw [ST.out,if_neg NT,if_neg (show ¬LateP e ca from fun q=>q.elim (fun z=>t3 (by rw [XN.out,EN.out] at z;exact z)) fun z=>t2 (by have:=z.1;rw [XN.out,EN.out] at this;exact this))])
     clear ST
     go_wp2_with fail
     go_roundg (N-(k+1))
     case measure=>have:=HG.out;omega
     case rel=>exact ⟨k+1,by omega,rfl,by go_num,err,rfl,NX.out,UN.out⟩
    have d1:(xk==ek)=false:=beq_eq_false_iff_ne.2 t1
    have T1:=hid (show ¬ca.en.kind=e.kind by rw [XK.out,EK.out];exact t1)
    have NT:¬TwiceP e ca:=fun q=>T1.out q.1
    clear t1
    by_cases t3:en_<xn
    case pos =>
     have g3:decide (en_<xn)=true:=decide_eq_true t3
     have NX:=hid (show timeF e AA 0=timeF e (AA.drop (k+1)) 25 by rw [ST.out,if_neg NT,if_pos (show  LateP e ca from .inl (by rw [XN.out,EN.out];exact t3))])
     clear ST
     go_wp2_with fail
     go_roundg (N-(k+1))
     case measure=>have:=HG.out;omega
     case rel=>exact ⟨k+1,by omega,rfl,by go_num,25,rfl,NX.out,UN.out⟩
    have g3:decide (en_<xn)=false:=decide_eq_false t3
    by_cases t2:xn=en_
    case neg =>
     have d2:(xn==en_)=false:=beq_eq_false_iff_ne.2 t2
     have NX:=hid (show timeF e AA 0=timeF e (AA.drop (k+1)) err by rw [ST.out,if_neg NT,if_neg (show ¬LateP e ca from fun q=>q.elim (fun z=>t3 (by rw [XN.out,EN.out] at z;exact z)) fun z=>t2 (by have:=z.1;rw [XN.out,EN.out] at this;exact this))])
     clear ST
     go_wp2_with fail
     go_roundg (N-(k+1))
     case measure=>have:=HG.out;omega
     case rel=>exact ⟨k+1,by omega,rfl,by go_num,err,rfl,NX.out,UN.out⟩
    have d2:(xn==en_)=true:=beq_iff_eq.2 t2
    by_cases t4:xk=20
    case pos =>
     have d4:(xk==20)=true:=beq_iff_eq.2 t4
     have t5:ek≠20:=fun z=>T1.out (by rw [XK.out,EK.out,t4,z])
     have d5:(ek==20)=false:=beq_eq_false_iff_ne.2 t5
     have d6:(ek != 20)=true:=bne_iff_ne.2 t5
     have LT:LateP e ca:=.inr ⟨by rw [XN.out,EN.out];exact t2,by rw [XK.out];exact t4,by rw [EK.out];exact t5⟩
     have LT:=hid LT
     clear t2 t4 t5 t3
     have NX:=hid (show timeF e AA 0=timeF e (AA.drop (k+1)) 25 by rw [ST.out,if_neg NT,if_pos (show  LateP e ca from LT.out)])
     clear ST
     go_wp2_with fail
     go_roundg (N-(k+1))
     case measure=>have:=HG.out;omega
     case rel=>exact ⟨k+1,by omega,rfl,by go_num,25,rfl,NX.out,UN.out⟩
    have d4:(xk==20)=false:=beq_eq_false_iff_ne.2 t4
    have NL:=hid (show ¬LateP e ca from fun q=>q.elim (fun z=>t3 (by rw [XN.out,EN.out] at z;exact z)) fun z=>t4 (by have:=z.2.1;rw [XK.out] at this;exact this))
    clear t2 t4 t3
    have NX:=hid (show timeF e AA 0=timeF e (AA.drop (k+1)) err by rw [ST.out,if_neg NT,if_neg (show ¬LateP e ca from NL.out)])
    clear ST
    go_wp2_with fail
    go_roundg (N-(k+1))
    case measure=>have:=HG.out;omega
    case rel=>exact ⟨k+1,by omega,rfl,by go_num,err,rfl,NX.out,UN.out⟩
end Go.Proofs.YtjkmalddfoemhaaGreatDoor
