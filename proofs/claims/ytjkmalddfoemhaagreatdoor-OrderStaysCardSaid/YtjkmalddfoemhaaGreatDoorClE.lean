/- Walks: whether a first voice keeps the lock of its author (keeps). -/
import Derived.Test.YtjkmalddfoemhaaGreatDoorRn
import Derived.Test.YtjkmalddfoemhaaGreatDoorClC
set_option maxRecDepth 100000
set_option maxHeartbeats 4000000
namespace Go.Proofs.YtjkmalddfoemhaaGreatDoor
open Go.RowKit Go.Deep
def AsksI (g:Nat) (lb:Array Value) (p:Int->Bool) (l:List Int) (w:World):Prop:=∀ (W:World) (x:Int),x∈l->Upd (fun _=>False) w W->Calls Tryz.prog g (#[.int .i64 x]++lb) W fun e w'=>e=.returned (.bool (p x))/\Upd (fun _=>False) W w'
theorem idxi_any (g:Nat) (lb:Array Value) (eg:∀ args w,(callFunc g args).run Tryz.prog w=.ok (.enter g args) w) (p:Int->Bool) {v:Value} {l:List Int} {w:World} (hv:∀ W,Upd (fun _=>False) w W->IntRow W v l) (hl:l.length<=1000) (hp:AsksI g lb p l w) :
 Calls Tryz.prog 249 #[v,.func (.func g) #[] lb] w fun e w'=>(∃ i:Int,e=.returned (.int .i64 i)/\(0<=i↔∃ x∈l,p x=true))/\Upd (fun _=>False) w w':=by
 obtain ⟨a,c,rfl,h1,h2,_⟩:=hv w (Upd.refl _ _)
 have HV:=hid hv;have HP:=hid hp
 obtain ⟨N,hN⟩:∃ N,l.length=N:=⟨_,rfl⟩
 have HN:=hid hN
 rw [hN] at h1 hl ⊢
 clear hv hp hN
 go_enter Tryz.func249,Tryz.ntmps249
 go_wp2_with fail
 go_loopg [5,8] N (fun gg _ s8 wr=>∃ k:Nat,k<=N/\gg=N-k/\s8=.int .i64 k/\(∀ i (hi:i<l.length),i<k->p l[i]=false)/\Upd (fun _=>False) w wr)
 case atStart=>exact ⟨0,Nat.zero_le _,rfl,rfl,fun i _ q=>absurd q (Nat.not_lt_zero _),Upd.refl _ _⟩
 case round =>
  obtain ⟨k,hk,hg,rfl,hf,u⟩:=hrel
  have HG:=hid hg;have HF:=hid hf;have UR:=hid u
  clear hg hf u
  by_cases hlt:k<N
  case neg =>
   have hlti:¬(k:Int)<N:=by omega
   have NO:=hid (show ¬∃ x∈l,p x=true from fun ⟨x,hx,e⟩=>by
    obtain ⟨i,hi,rfl⟩:=List.getElem_of_mem hx
    rw [HF.out i hi (by rw [HN.out] at hi;omega)] at e
    cases e)
   go_wp2_with fail
   go_ret
   exact ⟨⟨-1,rfl,fun q=>absurd q (by decide),fun q=>absurd q NO.out⟩,UR.out⟩
  have hlti:(k:Int)<N:=by omega
  have hk1:(k:Int)+1<=100000:=by omega
  have hkl:k<l.length:=by rw [HN.out];exact hlt
  have CALL:=hid (HP.out wr l[k] (List.getElem_mem hkl) UR.out)
  obtain ⟨_,_,e9,_,_,hc9⟩:=HV.out wr UR.out
  obtain ⟨b,oo,rfl,hcell⟩:∃ g o,a=some ⟨g,o,none⟩/\∀ i (hi:i<l.length),wr.cell? ⟨g,o+i,none⟩=some (.int .i64 l[i]):=by
   obtain ⟨g,o,e1,e2⟩:=hc9 (by omega)
   injection e9 with e9 _ _
   exact ⟨g,o,by rw [e9,e1],e2⟩
  have c0:=hcell k hkl
  have YES:=hid (fun (q:p l[k]=true)=>(show ∃ x∈l,p x=true from ⟨_,List.getElem_mem hkl,q⟩))
  have NEXT:=hid (fun (q:p l[k]=false)=>(show ∀ i (hi:i<l.length),i<k+1->p l[i]=false from fun i hi hik=>by
   by_cases e:i=k
   · subst e;exact q
   · exact HF.out i hi (by omega)))
  obtain ⟨x,hx⟩:∃ x,l[k]=x:=⟨_,rfl⟩
  rw [hx] at c0 CALL YES NEXT
  clear hx hcell e9 hc9
  cases hq:p x with
  | true =>
    have hcall:=CALL.out
    rw [hq] at hcall
    have Y:=hid (YES.out hq)
    go_wp2_with (go_at_fn g;refine hcall.mono ?_;rintro e w' ⟨rfl,hb'⟩)
    go_ret
    exact ⟨⟨k,rfl,fun _=>Y.out,fun _=>by omega⟩,UR.out.trans hb'⟩
  | false =>
    have hcall:=CALL.out
    rw [hq] at hcall
    have NX:=hid (NEXT.out hq)
    go_wp2_with (go_at_fn g;refine hcall.mono ?_;rintro e w' ⟨rfl,hb'⟩)
    go_roundg (N-(k+1))
    case measure=>have:=HG.out;omega
    case rel=>exact ⟨k+1,by omega,rfl,by go_num,NX.out,UR.out.trans hb'⟩
theorem cfi_any (g:Nat) (lb:Array Value) (eg:∀ args w,(callFunc g args).run Tryz.prog w=.ok (.enter g args) w) (p:Int->Bool) {v:Value} {l:List Int} {w:World} (hv:∀ W,Upd (fun _=>False) w W->IntRow W v l) (hl:l.length<=1000) (hp:AsksI g lb p l w) :
 Calls Tryz.prog 194 #[v,.func (.func g) #[] lb] w fun e w'=>e=.returned (.bool (decide (∃ x∈l,p x=true)))/\Upd (fun _=>False) w w':=by
 have HV:=hid hv;have HP:=hid hp
 clear hv hp
 go_enter Tryz.func194,Tryz.ntmps194
 go_wp2_with fail
 refine (idxi_any g lb eg p HV.out hl HP.out).mono ?_
 rintro en w1 ⟨⟨i,rfl,hi⟩,u⟩
 have U:=hid u
 have D:=hid (show decide (0<=i)=decide (∃ x∈l,p x=true) from decide_eq_decide.2 hi)
 clear u hi
 go_wp2_with fail
 go_ret
 exact ⟨by rw [<-D.out]<;>rfl,U.out⟩
structure KeepAt (w:World) (s:Stp) (ak:Option Addr) (ck:Nat) (av:Option Addr) (n cv:Nat) (pa pr pv pd px:Nat) (at_ round day value:Int):Prop where
 lock:w.cell? ⟨pa,0,none⟩=some (.int .i64 at_)
 round:w.cell? ⟨pr,0,none⟩=some (.int .i64 round)
 view:w.heap[pv]? = some (.cells #[.slice ak s.keys.length ck,.int .i64 s.liars,.int .i64 s.seed,.slice av n cv] 167 (0,0))
 day:w.cell? ⟨pd,0,none⟩=some (.int .i64 day)
 value:w.cell? ⟨px,0,none⟩=some (.int .i64 value)
theorem KeepAt.keep {w w':World} {s:Stp} {ak:Option Addr} {ck:Nat} {av:Option Addr} {n cv:Nat} {pa pr pv pd px:Nat} {at_ round day value:Int} (h:KeepAt w s ak ck av n cv pa pr pv pd px at_ round day value) (u:Upd (fun _=>False) w w'):KeepAt w' s ak ck av n cv pa pr pv pd px at_ round day value :=
 ⟨cell_kept h.lock (u.block _ (World.block_lt_of_cell? _ _ h.lock) id),cell_kept h.round (u.block _ (World.block_lt_of_cell? _ _ h.round) id),(u.block _ (heap_lt h.view) id).trans h.view,cell_kept h.day (u.block _ (World.block_lt_of_cell? _ _ h.day) id),cell_kept h.value (u.block _ (World.block_lt_of_cell? _ _ h.value) id)⟩
theorem keeps1_any {A:Nat->Prop} {B:Nat} {s:Stp} {ak:Option Addr} {ck:Nat} {av:Option Addr} {cv:Nat} {L:List AcC} {w:World} (h:VwAt w A B s ak ck av cv L) (ok:StpOk s) {pa pr pv pd px:Nat} {at_ round day value:Int} (hk:KeepAt w s ak ck av L.length cv pa pr pv pd px at_ round day value) (n:Int) :
 Calls Tryz.prog 195 #[.int .i64 n,.pointer (some ⟨pa,0,none⟩),.pointer (some ⟨pr,0,none⟩),.pointer (some ⟨pv,0,none⟩),.pointer (some ⟨pd,0,none⟩),.pointer (some ⟨px,0,none⟩)] w fun e w'=>e=.returned (.bool (decide (LaterP s (actsOf L) day at_ round value n)))/\Upd (fun _=>False) w w':=by
 have HV:=hid h;have HOK:=hid ok;have HK:=hid hk
 have LP:=hid (show LaterP s (actsOf L) day at_ round value n↔at_<n/\n<round/\value∈carriedF s (actsOf L) 19 day n from Iff.rfl)
 clear h ok hk
 go_enter Tryz.func195,Tryz.ntmps195
 go_upto_region 1 with (fail)
 obtain ⟨Wd,hWd⟩:∃ Wd,w.drew=Wd:=⟨_,rfl⟩
 have UD:=hid (show Upd (fun _=>False) w Wd by rw [<-hWd];exact (Upd.refl _ _).drew)
 have SHOW:=hid (fun (y:World) (u:Upd (fun _=>False) w y)=>(show y.cell? ⟨pa,0,none⟩=some (.int .i64 at_)/\y.cell? ⟨pr,0,none⟩=some (.int .i64 round)/\y.cell? ⟨pd,0,none⟩=some (.int .i64 day)/\y.cell? ⟨px,0,none⟩=some (.int .i64 value)/\y.cell? ⟨pv,0,none⟩=some (.slice ak s.keys.length ck)/\y.cell? ⟨pv,1,none⟩=some (.int .i64 s.liars)/\y.cell? ⟨pv,2,none⟩=some (.int .i64 s.seed)/\y.cell? ⟨pv,3,none⟩=some (.slice av L.length cv) from by
  have K:=HK.out.keep u
  obtain ⟨k0,k1,k2,k3⟩:=cells4 K.view
  exact ⟨K.lock,K.round,K.day,K.value,k0,k1,k2,k3⟩))
 refine wp_region_g (fun y=>y.cell? ⟨pa,0,none⟩=some (.int .i64 at_)/\y.cell? ⟨pr,0,none⟩=some (.int .i64 round)/\y.cell? ⟨pd,0,none⟩=some (.int .i64 day)/\y.cell? ⟨px,0,none⟩=some (.int .i64 value)/\y.cell? ⟨pv,0,none⟩=some (.slice ak s.keys.length ck)/\y.cell? ⟨pv,1,none⟩=some (.int .i64 s.liars)/\y.cell? ⟨pv,2,none⟩=some (.int .i64 s.seed)/\y.cell? ⟨pv,3,none⟩=some (.slice av L.length cv)) 16 (by kernel_rfl) ?_
 rw [hWd]
 have hS:=SHOW.out Wd UD.out
 clear hWd
 refine g_take0 (i:=0) rfl (by kernel_rfl) (by kernel_rfl) (by kernel_rfl) (by decide) (fun _ _ _ h=>h) (Or.inl ⟨by kernel_rfl,by (intro w _;go_simp;try with_reducible rfl)⟩) (fun _=>hS) ?_
 (try go_frame)
 refine g_takeP [16,15,8,7,3,2] (i:=1) rfl (by kernel_rfl) (by kernel_rfl) (by kernel_rfl) (by kernel_rfl) (fun _ _ _ h=>h) (Or.inl ⟨by kernel_rfl,by (intro w hSw;(try dsimp only at hSw);obtain ⟨z0,z1,z2,z3,z4,z5,z6,z7⟩:=hSw;go_simp;try with_reducible rfl)⟩) hS ?_
 (try go_frame)
 by_cases t1:at_<n
 case neg =>
  have d1:decide (at_<n)=false:=decide_eq_false t1
  have VV:=hid (show decide (LaterP s (actsOf L) day at_ round value n)=false from decide_eq_false fun q=>t1 (LP.out.1 q).1)
  clear t1
  refine g_take0 (i:=2) rfl (by kernel_rfl) (by kernel_rfl) (by kernel_rfl) (by decide) (fun _ _ _ h=>h) (Or.inl ⟨by kernel_rfl,by (intro w _;go_simp;try with_reducible rfl)⟩) (fun _=>hS) ?_
  (try go_frame)
  refine g_take0 (i:=3) rfl (by kernel_rfl) (by kernel_rfl) (by kernel_rfl) (by decide) (fun _ _ _ h=>h) (Or.inl ⟨by kernel_rfl,by (intro w _;go_simp;try with_reducible rfl)⟩) (fun _=>hS) ?_
  (try go_frame)
  refine g_take0 (i:=4) rfl (by kernel_rfl) (by kernel_rfl) (by kernel_rfl) (by decide) (fun _ _ _ h=>h) (Or.inr ⟨by kernel_rfl,rfl⟩) (fun _=>hS) ?_
  (try go_frame)
  refine g_take0 (i:=5) rfl (by kernel_rfl) (by kernel_rfl) (by kernel_rfl) (by decide) (fun _ _ _ h=>h) (Or.inr ⟨by kernel_rfl,rfl⟩) (fun _=>hS) ?_
  (try go_frame)
  refine g_take0 (i:=6) rfl (by kernel_rfl) (by kernel_rfl) (by kernel_rfl) (by decide) (fun _ _ _ h=>h) (Or.inr ⟨by kernel_rfl,rfl⟩) (fun _=>hS) ?_
  (try go_frame)
  refine g_take0 (i:=7) rfl (by kernel_rfl) (by kernel_rfl) (by kernel_rfl) (by decide) (fun _ _ _ h=>h) (Or.inl ⟨by kernel_rfl,by (intro w _;go_simp;try with_reducible rfl)⟩) (fun _=>hS) ?_
  (try go_frame)
  refine g_take0 (i:=8) rfl (by kernel_rfl) (by kernel_rfl) (by kernel_rfl) (by decide) (fun _ _ _ h=>h) (Or.inl ⟨by kernel_rfl,by (intro w _;go_simp;try with_reducible rfl)⟩) (fun _=>hS) ?_
  (try go_frame)
  refine g_take0 (i:=9) rfl (by kernel_rfl) (by kernel_rfl) (by kernel_rfl) (by decide) (fun _ _ _ h=>h) (Or.inr ⟨by kernel_rfl,rfl⟩) (fun _=>hS) ?_
  (try go_frame)
  refine g_take0 (i:=10) rfl (by kernel_rfl) (by kernel_rfl) (by kernel_rfl) (by decide) (fun _ _ _ h=>h) (Or.inr ⟨by kernel_rfl,rfl⟩) (fun _=>hS) ?_
  (try go_frame)
  refine g_take0 (i:=11) rfl (by kernel_rfl) (by kernel_rfl) (by kernel_rfl) (by decide) (fun _ _ _ h=>h) (Or.inr ⟨by kernel_rfl,rfl⟩) (fun _=>hS) ?_
  (try go_frame)
  refine g_take0 (i:=12) rfl (by kernel_rfl) (by kernel_rfl) (by kernel_rfl) (by decide) (fun _ _ _ h=>h) (Or.inr ⟨by kernel_rfl,rfl⟩) (fun _=>hS) ?_
  (try go_frame)
  refine g_take0 (i:=13) rfl (by kernel_rfl) (by kernel_rfl) (by kernel_rfl) (by decide) (fun _ _ _ h=>h) (Or.inr ⟨by kernel_rfl,rfl⟩) (fun _=>hS) ?_
  (try go_frame)
  refine g_take0 (i:=14) rfl (by kernel_rfl) (by kernel_rfl) (by kernel_rfl) (by decide) (fun _ _ _ h=>h) (Or.inr ⟨by kernel_rfl,rfl⟩) (fun _=>hS) ?_
  (try go_frame)
  refine g_take0 (i:=15) rfl (by kernel_rfl) (by kernel_rfl) (by kernel_rfl) (by decide) (fun _ _ _ h=>h) (Or.inl ⟨by kernel_rfl,by (intro w _;go_simp;try with_reducible rfl)⟩) (fun _=>hS) ?_
  (try go_frame)
  refine g_op (i:=16) (by kernel_rfl) rfl ?_
  go_wp2_with fail
  try with_reducible refine And.intro (fun h=>absurd h (by simp)) ?_
  refine g_done (by kernel_rfl) ?_
  go_wp2_with fail
  go_ret
  exact ⟨by rw [VV.out]<;>rfl,UD.out⟩
 have d1:decide (at_<n)=true:=decide_eq_true t1
 refine g_take0 (i:=2) rfl (by kernel_rfl) (by kernel_rfl) (by kernel_rfl) (by decide) (fun _ _ _ h=>h) (Or.inl ⟨by kernel_rfl,by (intro w _;go_simp;try with_reducible rfl)⟩) (fun _=>hS) ?_
 (try go_frame)
 refine g_take0 (i:=3) rfl (by kernel_rfl) (by kernel_rfl) (by kernel_rfl) (by decide) (fun _ _ _ h=>h) (Or.inl ⟨by kernel_rfl,by (intro w _;go_simp;try with_reducible rfl)⟩) (fun _=>hS) ?_
 (try go_frame)
 refine g_take0 (i:=4) rfl (by kernel_rfl) (by kernel_rfl) (by kernel_rfl) (by decide) (fun _ _ _ h=>h) (Or.inl ⟨by kernel_rfl,by (intro w _;go_simp;try with_reducible rfl)⟩) (fun _=>hS) ?_
 (try go_frame)
 refine g_takeP [16,15,8,7,6] (i:=5) rfl (by kernel_rfl) (by kernel_rfl) (by kernel_rfl) (by kernel_rfl) (fun _ _ _ h=>h) (Or.inl ⟨by kernel_rfl,by (intro w hSw;(try dsimp only at hSw);obtain ⟨z0,z1,z2,z3,z4,z5,z6,z7⟩:=hSw;go_simp;try with_reducible rfl)⟩) hS ?_
 (try go_frame)
 by_cases t2:n<round
 case neg =>
  have d2:decide (n<round)=false:=decide_eq_false t2
  have VV:=hid (show decide (LaterP s (actsOf L) day at_ round value n)=false from decide_eq_false fun q=>t2 (LP.out.1 q).2.1)
  clear t2
  refine g_take0 (i:=6) rfl (by kernel_rfl) (by kernel_rfl) (by kernel_rfl) (by decide) (fun _ _ _ h=>h) (Or.inl ⟨by kernel_rfl,by (intro w _;go_simp;try with_reducible rfl)⟩) (fun _=>hS) ?_
  (try go_frame)
  refine g_take0 (i:=7) rfl (by kernel_rfl) (by kernel_rfl) (by kernel_rfl) (by decide) (fun _ _ _ h=>h) (Or.inl ⟨by kernel_rfl,by (intro w _;go_simp;try with_reducible rfl)⟩) (fun _=>hS) ?_
  (try go_frame)
  refine g_take0 (i:=8) rfl (by kernel_rfl) (by kernel_rfl) (by kernel_rfl) (by decide) (fun _ _ _ h=>h) (Or.inl ⟨by kernel_rfl,by (intro w _;go_simp;try with_reducible rfl)⟩) (fun _=>hS) ?_
  (try go_frame)
  refine g_take0 (i:=9) rfl (by kernel_rfl) (by kernel_rfl) (by kernel_rfl) (by decide) (fun _ _ _ h=>h) (Or.inr ⟨by kernel_rfl,rfl⟩) (fun _=>hS) ?_
  (try go_frame)
  refine g_take0 (i:=10) rfl (by kernel_rfl) (by kernel_rfl) (by kernel_rfl) (by decide) (fun _ _ _ h=>h) (Or.inr ⟨by kernel_rfl,rfl⟩) (fun _=>hS) ?_
  (try go_frame)
  refine g_take0 (i:=11) rfl (by kernel_rfl) (by kernel_rfl) (by kernel_rfl) (by decide) (fun _ _ _ h=>h) (Or.inr ⟨by kernel_rfl,rfl⟩) (fun _=>hS) ?_
  (try go_frame)
  refine g_take0 (i:=12) rfl (by kernel_rfl) (by kernel_rfl) (by kernel_rfl) (by decide) (fun _ _ _ h=>h) (Or.inr ⟨by kernel_rfl,rfl⟩) (fun _=>hS) ?_
  (try go_frame)
  refine g_take0 (i:=13) rfl (by kernel_rfl) (by kernel_rfl) (by kernel_rfl) (by decide) (fun _ _ _ h=>h) (Or.inr ⟨by kernel_rfl,rfl⟩) (fun _=>hS) ?_
  (try go_frame)
  refine g_take0 (i:=14) rfl (by kernel_rfl) (by kernel_rfl) (by kernel_rfl) (by decide) (fun _ _ _ h=>h) (Or.inr ⟨by kernel_rfl,rfl⟩) (fun _=>hS) ?_
  (try go_frame)
  refine g_take0 (i:=15) rfl (by kernel_rfl) (by kernel_rfl) (by kernel_rfl) (by decide) (fun _ _ _ h=>h) (Or.inl ⟨by kernel_rfl,by (intro w _;go_simp;try with_reducible rfl)⟩) (fun _=>hS) ?_
  (try go_frame)
  refine g_op (i:=16) (by kernel_rfl) rfl ?_
  go_wp2_with fail
  try with_reducible refine And.intro (fun h=>absurd h (by simp)) ?_
  refine g_done (by kernel_rfl) ?_
  go_wp2_with fail
  go_ret
  exact ⟨by rw [VV.out]<;>rfl,UD.out⟩
 have d2:decide (n<round)=true:=decide_eq_true t2
 refine g_take0 (i:=6) rfl (by kernel_rfl) (by kernel_rfl) (by kernel_rfl) (by decide) (fun _ _ _ h=>h) (Or.inl ⟨by kernel_rfl,by (intro w _;go_simp;try with_reducible rfl)⟩) (fun _=>hS) ?_
 (try go_frame)
 refine g_take0 (i:=7) rfl (by kernel_rfl) (by kernel_rfl) (by kernel_rfl) (by decide) (fun _ _ _ h=>h) (Or.inl ⟨by kernel_rfl,by (intro w _;go_simp;try with_reducible rfl)⟩) (fun _=>hS) ?_
 (try go_frame)
 refine g_take0 (i:=8) rfl (by kernel_rfl) (by kernel_rfl) (by kernel_rfl) (by decide) (fun _ _ _ h=>h) (Or.inl ⟨by kernel_rfl,by (intro w _;go_simp;try with_reducible rfl)⟩) (fun _=>hS) ?_
 (try go_frame)
 refine g_takeP [16,15,14,12] (i:=9) rfl (by kernel_rfl) (by kernel_rfl) (by kernel_rfl) (by kernel_rfl) (fun _ _ _ h=>h) (Or.inl ⟨by kernel_rfl,by (intro w hSw;(try dsimp only at hSw);obtain ⟨z0,z1,z2,z3,z4,z5,z6,z7⟩:=hSw;go_simp;try with_reducible rfl)⟩) hS ?_
 (try go_frame)
 refine g_takeP [16,15,14,12] (i:=10) rfl (by kernel_rfl) (by kernel_rfl) (by kernel_rfl) (by kernel_rfl) (fun _ _ _ h=>h) (Or.inl ⟨by kernel_rfl,by (intro w hSw;(try dsimp only at hSw);obtain ⟨z0,z1,z2,z3,z4,z5,z6,z7⟩:=hSw;go_simp;try with_reducible rfl)⟩) hS ?_
 (try go_frame)
 refine g_take0 (i:=11) rfl (by kernel_rfl) (by kernel_rfl) (by kernel_rfl) (by decide) (fun _ _ _ h=>h) (Or.inl ⟨by kernel_rfl,by (intro w _;go_simp;try with_reducible rfl)⟩) (fun _=>hS) ?_
 (try go_frame)
 refine g_takeP [16,15,14] (i:=13) rfl (by kernel_rfl) (by kernel_rfl) (by kernel_rfl) (by kernel_rfl) (fun _ _ _ h=>h) (Or.inl ⟨by kernel_rfl,by (intro w hSw;(try dsimp only at hSw);obtain ⟨z0,z1,z2,z3,z4,z5,z6,z7⟩:=hSw;go_simp;try with_reducible rfl)⟩) hS ?_
 (try go_frame)
 refine g_want (i:=12) (by kernel_rfl) rfl (by kernel_rfl) ?_
 go_wp2_with fail
 refine (carried_any (HV.out.keep UD.out) HOK.out 19 day n).mono ?_
 rintro en y2 ⟨vc,rfl,ho,u⟩
 have U2:=hid (UD.out.trans u)
 have IR:=hid (IntRow.of_own ho)
 obtain ⟨ac,cc,rfl,_,_⟩:=own_slice ho
 obtain ⟨C,hC⟩:∃ C,carriedF s (actsOf L) 19 day n=C:=⟨_,rfl⟩
 rw [hC] at IR LP ⊢
 have LP2:=hid (show LaterP s (actsOf L) day at_ round value n↔value∈C from ⟨fun q=>(LP.out.1 q).2.2,fun q=>LP.out.2 ⟨t1,t2,q⟩⟩)
 have hS:=SHOW.out y2 U2.out
 clear u ho hC t1 t2
 go_wp2_with fail
 first | (refine ⟨fun _=>hS,?_⟩) | (refine ⟨hS,?_⟩)
 (try go_frame)
 refine g_want (i:=14) (by kernel_rfl) rfl (by kernel_rfl) ?_
 go_wp2_with fail
 refine (has_int IR.out value).mono ?_
 rintro en y3 ⟨rfl,rfl⟩
 have VV:=hid (show decide (LaterP s (actsOf L) day at_ round value n)=decide (value∈C) from decide_eq_decide.2 LP2.out)
 obtain ⟨bb,hbb⟩:∃ bb,decide (value∈C)=bb:=⟨_,rfl⟩
 rw [hbb] at VV ⊢
 clear hbb
 go_wp2_with fail
 first | (refine ⟨fun _=>hS,?_⟩) | (refine ⟨hS,?_⟩)
 (try go_frame)
 refine g_take0 (i:=15) rfl (by kernel_rfl) (by kernel_rfl) (by kernel_rfl) (by decide) (fun _ _ _ h=>h) (Or.inl ⟨by kernel_rfl,by (intro w _;go_simp;try with_reducible rfl)⟩) (fun _=>hS) ?_
 (try go_frame)
 refine g_op (i:=16) (by kernel_rfl) rfl ?_
 go_wp2_with fail
 try with_reducible refine And.intro (fun h=>absurd h (by simp)) ?_
 refine g_done (by kernel_rfl) ?_
 go_wp2_with fail
 go_ret
 exact ⟨by rw [VV.out]<;>rfl,U2.out⟩
theorem egK:∀ args w,(callFunc 195 args).run Tryz.prog w=.ok (.enter 195 args) w:=enters_of Tryz.func195 (by kernel_rfl) rfl
end Go.Proofs.YtjkmalddfoemhaaGreatDoor
set_option maxRecDepth 100000
set_option maxHeartbeats 8000000
namespace Go.Proofs.YtjkmalddfoemhaaGreatDoor
open Go.RowKit Go.Deep
theorem int_put {w:World} {q:Nat} {t:TypeId} {x y:Value} (h:w.heap[q]? = some (.cells #[x] t (0,0))):(w.setCell ⟨q,0,none⟩ y).heap[q]? = some (.cells #[y] t (0,0)):=by
 have:=heap_setCells q t (0,0) [y] 0 w [x] (by simpa using h) (by simp)
 exact this
def lockTo (l:List ActP) (k:Nat):Int×Int:=lockF (l.take k)
theorem lockTo_all {l:List ActP} {k:Nat} (hk:l.length<=k):lockTo l k=lockF l:=by unfold lockTo;rw [List.take_of_length_le hk]
theorem lockTo_succ {l:List ActP} {k:Nat} (hk:k<l.length):lockTo l (k+1)=lockStep (lockTo l k) l[k]:=by
 unfold lockTo lockF
 rw [List.take_succ_eq_append_getElem hk,List.foldl_append];rfl
theorem keeps_any {A:Nat->Prop} {B:Nat} {s:Stp} {ak:Option Addr} {ck:Nat} {av:Option Addr} {cv:Nat} {L:List AcC} {w:World} (h:VwAt w A B s ak ck av cv L) (ok:StpOk s) (author day round value:Int) :
 Calls Tryz.prog 134 #[viewV s ak ck av L.length cv,.int .i64 author,.int .i64 day,.int .i64 round,.int .i64 value] w fun e w'=>e=.returned (.bool (decide (KeepsP s (actsOf L) author day round value)))/\Upd (fun _=>False) w w':=by
 obtain ⟨W1,hW1⟩:∃ W,W=w.alloc (.cells #[.slice ak s.keys.length ck,.int .i64 s.liars,.int .i64 s.seed,.slice av L.length cv] 167 (0,0)):=⟨_,rfl⟩
 have u1:Upd (fun _=>False) w W1:=by rw [hW1];exact (Upd.refl _ _).alloc _
 have b1:W1.heap[w.heap.size]? = some (.cells #[.slice ak s.keys.length ck,.int .i64 s.liars,.int .i64 s.seed,.slice av L.length cv] 167 (0,0)):=by rw [hW1];exact heap_alloc_new
 obtain ⟨W2,hW2⟩:∃ W,W=W1.alloc (.cells #[.int .i64 day] 3 (0,0)):=⟨_,rfl⟩
 have u2:Upd (fun _=>False) W1 W2:=by rw [hW2];exact (Upd.refl _ _).alloc _
 have b2:W2.heap[W1.heap.size]? = some (.cells #[.int .i64 day] 3 (0,0)):=by rw [hW2];exact heap_alloc_new
 obtain ⟨W3,hW3⟩:∃ W,W=W2.alloc (.cells #[.int .i64 round] 3 (0,0)):=⟨_,rfl⟩
 have u3:Upd (fun _=>False) W2 W3:=by rw [hW3];exact (Upd.refl _ _).alloc _
 have b3:W3.heap[W2.heap.size]? = some (.cells #[.int .i64 round] 3 (0,0)):=by rw [hW3];exact heap_alloc_new
 obtain ⟨W4,hW4⟩:∃ W,W=W3.alloc (.cells #[.int .i64 value] 3 (0,0)):=⟨_,rfl⟩
 have u4:Upd (fun _=>False) W3 W4:=by rw [hW4];exact (Upd.refl _ _).alloc _
 have b4:W4.heap[W3.heap.size]? = some (.cells #[.int .i64 value] 3 (0,0)):=by rw [hW4];exact heap_alloc_new
 obtain ⟨W5,hW5⟩:∃ W,W=W4.alloc (.cells #[.int .i64 (-1)] 3 (0,0)):=⟨_,rfl⟩
 have u5:Upd (fun _=>False) W4 W5:=by rw [hW5];exact (Upd.refl _ _).alloc _
 have b5:W5.heap[W4.heap.size]? = some (.cells #[.int .i64 (-1)] 3 (0,0)):=by rw [hW5];exact heap_alloc_new
 obtain ⟨p,hp⟩:∃ p,w.heap.size=p:=⟨_,rfl⟩
 have s1:W1.heap.size=p+1:=by rw [hW1,<-hp];simp
 have s2:W2.heap.size=p+2:=by rw [hW2];simp [s1]
 have s3:W3.heap.size=p+3:=by rw [hW3];simp [s2]
 have s4:W4.heap.size=p+4:=by rw [hW4];simp [s3]
 have s5:W5.heap.size=p+5:=by rw [hW5];simp [s4]
 rw [hp] at b1
 rw [s1] at b2
 rw [s2] at b3
 rw [s3] at b4
 rw [s4] at b5
 have v5:Upd (fun _=>False) W4 W5:=u5
 have v4:Upd (fun _=>False) W3 W5:=u4.trans v5
 have v3:Upd (fun _=>False) W2 W5:=u3.trans v4
 have v2:Upd (fun _=>False) W1 W5:=u2.trans v3
 have HB1:=hid ((v2.block _ (heap_lt b1) id).trans b1)
 have HB2:=hid ((v3.block _ (heap_lt b2) id).trans b2)
 have HB3:=hid ((v4.block _ (heap_lt b3) id).trans b3)
 have HB4:=hid ((v5.block _ (heap_lt b4) id).trans b4)
 have HB5:=hid b5
 have U:=hid (u1.trans v2)
 have HV:=hid (h.keep U.out)
 have HV0:=hid (show ∀ g,A g->g<p from fun g hg=>by have:=h.lt g hg;omega)
 have ROW0:=hid (show ∀ g,(Value.slice av L.length cv).ownBlock=some g->g<p from fun g hg=>by have:=(rowlt h.acts g hg).2;omega)
 have HOK:=hid ok
 have HP:=hid hp;have S5:=hid s5
 have HW1:=hid hW1;have HW2:=hid hW2;have HW3:=hid hW3;have HW4:=hid hW4;have HW5:=hid hW5
 have KP:=hid (show KeepsP s (actsOf L) author day round value↔(lockF (ownA (actsOf L) author day)).1<0\/(lockF (ownA (actsOf L) author day)).2=value\/∃ n∈roundsF (actsOf L) 19 day,LaterP s (actsOf L) day (lockF (ownA (actsOf L) author day)).1 round value n from Iff.rfl)
 have SHOW:=hid (fun (y:World) (u:Upd (· = p + 4) W5 y)=>(show y.heap[p]? = some (.cells #[.slice ak s.keys.length ck,.int .i64 s.liars,.int .i64 s.seed,.slice av L.length cv] 167 (0,0))/\y.heap[p+1]? = some (.cells #[.int .i64 day] 3 (0,0))/\y.heap[p+2]? = some (.cells #[.int .i64 round] 3 (0,0))/\y.heap[p+3]? = some (.cells #[.int .i64 value] 3 (0,0)) from
  ⟨(u.block _ (heap_lt HB1.out) (by omega)).trans HB1.out,(u.block _ (heap_lt HB2.out) (by omega)).trans HB2.out,(u.block _ (heap_lt HB3.out) (by omega)).trans HB3.out,(u.block _ (heap_lt HB4.out) (by omega)).trans HB4.out⟩))
 clear hW1 hW2 hW3 hW4 hW5 u1 u2 u3 u4 u5 b1 b2 b3 b4 b5 v2 v3 v4 v5 s1 s2 s3 s4 s5 hp h ok
 unfold viewV
 go_enter Tryz.func134,Tryz.ntmps134
 go_upto_region 2 with (fail)
 rw [<-HW1.out]
 try rw [HP.out]
 (try rw [show p+1+1+1+1=p+4 from rfl])
 (try rw [show p+1+1+1=p+3 from rfl])
 (try rw [show p+1+1=p+2 from rfl])
 rw [<-HW2.out]
 rw [<-HW3.out]
 rw [<-HW4.out]
 rw [<-HW5.out]
 obtain ⟨m0,m1,m2,m3⟩:=cells4 HB1.out
 have dd:=cells1 HB2.out
 clear HW1 HW2 HW3 HW4 HW5
 go_wp2_with fail
 refine (owna_any HV.out author day).mono ?_
 rintro en x1 ⟨v,L',rfl,hA,hin,hlen,hown,u⟩
 have U1:=hid (show Upd (· = p + 4) W5 x1 from u.mono fun _ q=>q.elim)
 have X1:=hid (show x1.heap[p+4]? = some (.cells #[.int .i64 (-1)] 3 (0,0)) from (u.block _ (heap_lt HB5.out) id).trans HB5.out)
 obtain ⟨AA,hAA⟩:∃ AA,actsOf L'=AA:=⟨_,rfl⟩
 rw [<-hA,hAA] at KP
 have HAA:=hid hAA
 obtain ⟨ar,cr,rfl,hv1,hv2⟩:=own_slice hown
 have hv2:cr<=9223372036854775807:=hv2
 have hfew:L'.length<=1000:=Nat.le_trans hlen HV.out.few
 have OWN:=hid (show ActsAt x1 (p+5) (.slice ar L'.length cr) L' from by have q:=hown;rw [S5.out] at q;exact q)
 obtain ⟨N,hN⟩:∃ N,L'.length=N:=⟨_,rfl⟩
 have HN:=hid hN
 have HLA:=hid (show AA.length=N by rw [<-hAA];unfold actsOf;rw [List.length_map];exact hN)
 have GET:=hid (fun (y:World) (u:Upd (· = p + 4) x1 y) (hp:0<L'.length)=>(show ∃ g,ar=some ⟨g,0,none⟩/\∀ i (hi:i<L'.length),ActCs y g (i*15) L'[i] from by
  obtain ⟨g,c,e,_,_,_,hgl,hc⟩:=ActsAt.get (ownsRow_upd OWN.out u fun g hg e=>by have:=(rowlt OWN.out g hg).1;omega) hp
  injection e with e1 _ _
  exact ⟨g,e1,fun i hi=>⟨fun j hj=>hc i hi j hj⟩⟩))
 rw [hN] at hv1 hfew ⊢
 clear hA hin hlen hown u hAA hN m0 m1 m2 m3 dd
 go_wp2_with fail
 go_loopg [12,20] N (fun gg s12 s20 wr=>∃ k:Nat,k<=N/\gg=N-k/\s20=.int .i64 k/\∃ a b,s12=.int .i64 b/\lockTo AA k=(a,b)/\wr.heap[p+4]? = some (.cells #[.int .i64 a] 3 (0,0))/\Upd (· = p + 4) x1 wr)
 case atStart=>exact ⟨0,Nat.zero_le _,rfl,rfl,-1,-1,rfl,rfl,X1.out,Upd.refl _ _⟩
 case round =>
  obtain ⟨k,hk,hg,rfl,a,b,rfl,hlk,hbx,u1⟩:=hrel
  have HG:=hid hg;have UR:=hid u1;have LK:=hid hlk;have BX:=hid hbx
  have UW:=hid (U1.out.trans u1)
  have hat:=cells1 hbx
  clear hg u1 hlk hbx
  by_cases hlt:k<N
  case neg =>
   have hlti:¬(k:Int)<N:=by omega
   have LF:=hid (show lockF AA=(a,b) by rw [<-LK.out];exact (lockTo_all (by rw [HLA.out];omega)).symm)
   rw [LF.out] at KP
   clear LK GET
   obtain ⟨hbv,hbd,hbr,hbx⟩:=SHOW.out wr UW.out
   have UE:=hid (show Upd (fun _=>False) w wr from U.out.comp UW.out fun i hi e=>by have:=HP.out;omega)
   have HVR:=hid (show VwAt wr A B s ak ck av cv L from ⟨(show StpAt wr A s ak ck from ⟨kInts.keep HV.out.stp.keys (Same.of_upd UW.out fun g hg e=>by have:=HV0.out g hg;omega),HV.out.stp.cap,HV.out.stp.liars,HV.out.stp.seed⟩),ownsRow_upd HV.out.acts UW.out fun g hg e=>by have:=ROW0.out g hg;omega,fun g hg=>Nat.lt_of_lt_of_le (HV.out.lt g hg) UW.out.size,HV.out.keys,HV.out.few,HV.out.wf⟩)
   have dv:=cells1 hbx
   by_cases t1:a<0
   case pos =>
    have d1:decide (a<0)=true:=decide_eq_true t1
    have VV:=hid (show decide (KeepsP s (actsOf L) author day round value)=true from decide_eq_true (KP.out.2 (.inl t1)))
    clear t1
    go_wp2_with fail
    go_ret
    exact ⟨by rw [VV.out]<;>rfl,UE.out⟩
   have d1:decide (a<0)=false:=decide_eq_false t1
   by_cases t2:b=value
   case pos =>
    have d2:(b==value)=true:=beq_iff_eq.2 t2
    have VV:=hid (show decide (KeepsP s (actsOf L) author day round value)=true from decide_eq_true (KP.out.2 (.inr (.inl t2))))
    clear t1 t2
    go_wp2_with fail
    go_ret
    exact ⟨by rw [VV.out]<;>rfl,UE.out⟩
   have d2:(b==value)=false:=beq_eq_false_iff_ne.2 t2
   have KP2:=hid (show KeepsP s (actsOf L) author day round value↔∃ n∈roundsF (actsOf L) 19 day,LaterP s (actsOf L) day a round value n from ⟨fun q=>(((KP.out.1 q).resolve_left t1).resolve_left t2),fun q=>KP.out.2 (.inr (.inr q))⟩)
   have KA:=hid (show KeepAt wr s ak ck av L.length cv (p+4) (p+2) p (p+1) (p+3) a round day value from ⟨hat,cells1 hbr,hbv,cells1 hbd,dv⟩)
   have RFW:=hid (show (roundsF (actsOf L) 19 day).length<=1000 from Nat.le_trans (rounds_few _ _ _) (by unfold actsOf;rw [List.length_map];exact HV.out.few))
   obtain ⟨m0,m1,m2,m3⟩:=cells4 hbv
   have dd:=cells1 hbd
   clear t1 t2 KP hbv hbd hbr hbx
   go_wp2_with fail
   refine (rounds_any HVR.out 19 day).mono ?_
   rintro en y1 ⟨vr,rfl,ho,u⟩
   obtain ⟨Rn,hRn⟩:∃ Rn,roundsF (actsOf L) 19 day=Rn:=⟨_,rfl⟩
   rw [hRn] at ho KP2 RFW
   have ROW:=hid ho;have UY:=hid u
   have ROWS:=hid (fun (y:World) (u:Upd (fun _=>False) y1 y)=>IntRow.of_own (ownsRow_upd ROW.out u fun _ _=>id))
   have ASK:=hid (show AsksI 195 #[.pointer (some ⟨p+4,0,none⟩),.pointer (some ⟨p+2,0,none⟩),.pointer (some ⟨p,0,none⟩),.pointer (some ⟨p+1,0,none⟩),.pointer (some ⟨p+3,0,none⟩)] (fun n=>decide (LaterP s (actsOf L) day a round value n)) Rn y1 from fun W x _ uw =>
    keeps1_any (HVR.out.keep (UY.out.trans uw)) HOK.out (KA.out.keep (UY.out.trans uw)) x)
   obtain ⟨aq,cq,rfl,_,_⟩:=own_slice ho
   clear u ho hRn
   go_wp2_with fail
   refine (cfi_any _ _ egK _ ROWS.out RFW.out ASK.out).mono ?_
   rintro en y2 ⟨rfl,u⟩
   have VV:=hid (show decide (KeepsP s (actsOf L) author day round value)=decide (∃ x∈Rn,decide (LaterP s (actsOf L) day a round value x)=true) from decide_eq_decide.2 (KP2.out.trans ⟨fun ⟨n,h1,h2⟩=>⟨n,h1,decide_eq_true h2⟩,fun ⟨n,h1,h2⟩=>⟨n,h1,of_decide_eq_true h2⟩⟩))
   have U2:=hid u
   obtain ⟨bb,hbb⟩:∃ bb,decide (∃ x∈Rn,decide (LaterP s (actsOf L) day a round value x)=true)=bb:=⟨_,rfl⟩
   rw [hbb] at VV ⊢
   clear u hbb
   go_wp2_with fail
   go_ret
   exact ⟨by rw [VV.out]<;>rfl,(UE.out.trans UY.out).trans U2.out⟩
  have hlti:(k:Int)<N:=by omega
  have hk1:(k:Int)+1<=100000:=by omega
  have hkl:k<L'.length:=by rw [HN.out];exact hlt
  have hka:k<AA.length:=by rw [HLA.out];exact hlt
  obtain ⟨g,rfl,hc⟩:=GET.out _ UR.out (by omega)
  have NK:=hid (hc k hkl)
  have EA:AA[k]=L'[k].a:=by
   have hz:=HAA.out
   subst hz
   exact acts_get hka hkl
  have ST:=hid (show lockTo AA (k+1)=if L'[k].a.en.kind=20/\0<=L'[k].a.value/\(a<L'[k].a.en.n\/L'[k].a.en.n=a/\L'[k].a.value<b) then (L'[k].a.en.n,L'[k].a.value) else (a,b) by
   rw [lockTo_succ hka,EA,LK.out];rfl)
  obtain ⟨c,hcc⟩:∃ c,L'[k]=c:=⟨_,rfl⟩
  rw [hcc] at NK ST
  obtain ⟨Wn,hWn⟩:∃ Wn,Wn=wr.alloc (.cells c.cells.toArray 184 (0,0)):=⟨_,rfl⟩
  have un:Upd (· = p + 4) wr Wn:=by rw [hWn];exact (Upd.refl _ _).alloc _
  have hbn:Wn.heap[wr.heap.size]? = some (.cells c.cells.toArray 184 (0,0)):=by rw [hWn];exact heap_alloc_new
  have hbl:Wn.heap[p+4]? = some (.cells #[.int .i64 a] 3 (0,0)):=by rw [hWn];exact (((Upd.refl (fun _=>False) wr).alloc _).block _ (heap_lt BX.out) id).trans BX.out
  obtain ⟨_,_,q5,q8,_,_,q14⟩:=act_cells hbn
  have HWn:=hid hWn;have HBL:=hid hbl
  have UN:=hid (UR.out.trans un)
  have hat:=cells1 hbl
  have hfz:∀ o,Wn.frozen? ⟨p+4,o,none⟩=false:=fun o=>frozen_of_block hbl
  obtain ⟨xk,hxk⟩:∃ xk,c.a.en.kind=xk:=⟨_,rfl⟩
  obtain ⟨xn,hxn⟩:∃ xn,c.a.en.n=xn:=⟨_,rfl⟩
  obtain ⟨xv,hxv⟩:∃ xv,c.a.value=xv:=⟨_,rfl⟩
  rw [hxk] at q5 ST
  rw [hxn] at q8 ST
  rw [hxv] at q14 ST
  have SZ:=hid (show p+4<wr.heap.size from heap_lt BX.out)
  clear hc hcc hWn un hbn hbl EA LK hxk hxn hxv
  go_upto_region 4 with (fail)
  refine wp_region_lit ?_
  refine op_index rfl _ _ _ rfl rfl rfl (act_index hlt hv1 hv2 _) ?_
  (try go_frame)
  refine op_load rfl _ _ rfl rfl (act_load NK.out) ?_
  (try go_frame)
  refine op_alloc rfl _ rfl (act_alloc _) ?_
  (try go_frame)
  refine op_store rfl _ _ _ rfl rfl rfl (act_store _ _) ?_
  rw [<-HWn.out]
  refine wpList_nil ?_
  go_frame
  by_cases t1:xk=20
  case neg =>
   have d1:(xk==20)=false:=beq_eq_false_iff_ne.2 t1
   have NX:=hid (show lockTo AA (k+1)=(a,b) by rw [ST.out,if_neg (fun q=>t1 q.1)])
   clear ST
   go_wp2_with fail
   go_roundg (N-(k+1))
   case measure=>have:=HG.out;omega
   case rel=>exact ⟨k+1,by omega,rfl,by go_num,a,b,rfl,NX.out,HBL.out,UN.out⟩
  have d1:(xk==20)=true:=beq_iff_eq.2 t1
  by_cases t2:0<=xv
  case neg =>
   have d2:decide (0<=xv)=false:=decide_eq_false t2
   have t2':xv<0:=by omega
   have NX:=hid (show lockTo AA (k+1)=(a,b) by rw [ST.out,if_neg (fun q=>t2 q.2.1)])
   clear ST
   go_wp2_with fail
   go_roundg (N-(k+1))
   case measure=>have:=HG.out;omega
   case rel=>exact ⟨k+1,by omega,rfl,by go_num,a,b,rfl,NX.out,HBL.out,UN.out⟩
  have d2:decide (0<=xv)=true:=decide_eq_true t2
  by_cases t3:a<xn
  case pos =>
   have d3:decide (a<xn)=true:=decide_eq_true t3
   have NX:=hid (show lockTo AA (k+1)=(xn,xv) by rw [ST.out,if_pos (⟨t1,t2,.inl t3⟩)])
   clear ST
   go_upto_region 6 with (fail)
   go_region
   have UE:=hid (show Upd (· = p + 4) x1 (Wn.setCell ⟨p+4,0,none⟩ (.int .i64 xn)).drew from (UN.out.setCell _ _ (.inl rfl)).drew)
   have BE:=hid (show (Wn.setCell ⟨p+4,0,none⟩ (.int .i64 xn)).drew.heap[p+4]? = some (.cells #[.int .i64 xn] 3 (0,0)) from int_put HBL.out)
   obtain ⟨We,hWe⟩:∃ We,(Wn.setCell ⟨p+4,0,none⟩ (.int .i64 xn)).drew=We:=⟨_,rfl⟩
   rw [hWe] at UE BE ⊢
   clear hWe
   go_wp2_with fail
   go_roundg (N-(k+1))
   case measure=>have:=HG.out;omega
   case rel=>exact ⟨k+1,by omega,rfl,by go_num,xn,xv,rfl,NX.out,BE.out,UE.out⟩
  have d3:decide (a<xn)=false:=decide_eq_false t3
  by_cases t4:xn=a
  case neg =>
   have d4:(xn==a)=false:=beq_eq_false_iff_ne.2 t4
   have NX:=hid (show lockTo AA (k+1)=(a,b) by rw [ST.out,if_neg (fun q=>q.2.2.elim t3 fun z=>t4 z.1)])
   clear ST
   go_wp2_with fail
   go_roundg (N-(k+1))
   case measure=>have:=HG.out;omega
   case rel=>exact ⟨k+1,by omega,rfl,by go_num,a,b,rfl,NX.out,HBL.out,UN.out⟩
  have d4:(xn==a)=true:=beq_iff_eq.2 t4
  by_cases t5:xv<b
  case neg =>
   have d5:decide (xv<b)=false:=decide_eq_false t5
   have NN:=hid (show ¬(xk=20/\0<=xv/\(a<xn\/xn=a/\xv<b)) from fun q=>q.2.2.elim t3 fun z=>t5 z.2)
   clear t4
   have NX:=hid (show lockTo AA (k+1)=(a,b) by rw [ST.out,if_neg (NN.out)])
   clear ST
   go_wp2_with fail
   go_roundg (N-(k+1))
   case measure=>have:=HG.out;omega
   case rel=>exact ⟨k+1,by omega,rfl,by go_num,a,b,rfl,NX.out,HBL.out,UN.out⟩
  have d5:decide (xv<b)=true:=decide_eq_true t5
  have YY:=hid (show xk=20/\0<=xv/\(a<xn\/xn=a/\xv<b) from ⟨t1,t2,.inr ⟨t4,t5⟩⟩)
  clear t4
  have NX:=hid (show lockTo AA (k+1)=(xn,xv) by rw [ST.out,if_pos (YY.out)])
  clear ST
  go_upto_region 6 with (fail)
  go_region
  have UE:=hid (show Upd (· = p + 4) x1 (Wn.setCell ⟨p+4,0,none⟩ (.int .i64 xn)).drew from (UN.out.setCell _ _ (.inl rfl)).drew)
  have BE:=hid (show (Wn.setCell ⟨p+4,0,none⟩ (.int .i64 xn)).drew.heap[p+4]? = some (.cells #[.int .i64 xn] 3 (0,0)) from int_put HBL.out)
  obtain ⟨We,hWe⟩:∃ We,(Wn.setCell ⟨p+4,0,none⟩ (.int .i64 xn)).drew=We:=⟨_,rfl⟩
  rw [hWe] at UE BE ⊢
  clear hWe
  go_wp2_with fail
  go_roundg (N-(k+1))
  case measure=>have:=HG.out;omega
  case rel=>exact ⟨k+1,by omega,rfl,by go_num,xn,xv,rfl,NX.out,BE.out,UE.out⟩
end Go.Proofs.YtjkmalddfoemhaaGreatDoor
