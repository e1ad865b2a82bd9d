/- Walks: what an author did for a day (own). -/
import Derived.Test.YtjkmalddfoemhaaGreatDoorRn
import Derived.Test.YtjkmalddfoemhaaGreatDoorOrG
import Derived.Test.YtjkmalddfoemhaaGreatDoorClStays
set_option maxRecDepth 100000
set_option maxHeartbeats 4000000
namespace Go.Proofs.YtjkmalddfoemhaaGreatDoor
open Go.RowKit Go.Deep
theorem isday_any (n:Int) (w:World):Calls Tryz.prog 135 #[.int .i64 n] w fun e w'=>e=.returned (.bool (decide (DayP n)))/\w=w':=by
 go_enter Tryz.func135,Tryz.ntmps135
 by_cases t1:0<=n
 case neg =>
  have FF:=hid (show decide (DayP n)=false from decide_eq_false fun q=>t1 q.1)
  have d1:decide (0<=n)=false:=decide_eq_false t1
  go_wp2_with fail
  go_ret
  exact ⟨by rw [FF.out]<;>rfl,rfl⟩
 have d1:decide (0<=n)=true:=decide_eq_true t1
 by_cases t2:n<=1048576
 case neg =>
  have FF:=hid (show decide (DayP n)=false from decide_eq_false fun q=>t2 q.2)
  have d2:decide (n<=1048576)=false:=decide_eq_false t2
  go_wp2_with fail
  go_ret
  exact ⟨by rw [FF.out]<;>rfl,rfl⟩
 have FF:=hid (show decide (DayP n)=true from decide_eq_true ⟨t1,t2⟩)
 have d2:decide (n<=1048576)=true:=decide_eq_true t2
 go_wp2_with fail
 go_ret
 exact ⟨by rw [FF.out]<;>rfl,rfl⟩
theorem leader_any {A:Nat->Prop} {s:Stp} {ak:Option Addr} {ck:Nat} {w:World} (h:StpAt w A s ak ck) (hA:∀ g,A g->g<w.heap.size) (hl:s.keys.length<=1000) (ok:StpOk s) (day round:Int):Calls Tryz.prog 73 #[stpV s ak ck,.int .i64 day,.int .i64 round] w fun e w'=>e=.returned (.int .i64 (leaderF s day round))/\Upd (fun _=>False) w w':=by
 obtain ⟨W1,hW1⟩:∃ W1,W1=w.alloc (.cells #[.slice ak s.keys.length ck,.int .i64 s.liars,.int .i64 s.seed] 60 (0,0)):=⟨_,rfl⟩
 have u1:Upd (fun _=>False) w W1:=by rw [hW1];exact (Upd.refl _ _).alloc _
 have HB:=hid (show W1.heap[w.heap.size]? = some (.cells #[.slice ak s.keys.length ck,.int .i64 s.liars,.int .i64 s.seed] 60 (0,0)) by rw [hW1];exact heap_alloc_new)
 have U:=hid u1;have HW:=hid hW1
 obtain ⟨p,hp⟩:∃ p,w.heap.size=p:=⟨_,rfl⟩
 rw [hp] at HB
 have HP:=hid hp
 have HS:=hid (h.keep u1);have HL:=hid hl;have HOK:=hid ok
 have HA:=hid (fun g (q:A g)=>(show g<W1.heap.size from Nat.lt_of_lt_of_le (hA g q) u1.size))
 have hc1:=h.cap.1;have hc2:=h.cap.2
 have KP:=hid (show 0<s.keys.length from by have:=ok.liars;omega)
 clear hW1 u1 hp h hA ok
 unfold stpV
 go_enter Tryz.func73,Tryz.ntmps73
 go_upto_region 1 with (fail)
 rw [<-HW.out]
 try rw [HP.out]
 obtain ⟨m0,m1,m2⟩:=cells3s HB.out
 clear HW
 go_wp2_with fail
 refine (sright_any HS.out HA.out HL.out).mono ?_
 rintro en w2 ⟨⟨b,rfl,hb⟩,u⟩
 obtain rfl:b=true:=hb.2 HOK.out
 have U2:=hid (U.out.trans u)
 have HB2:=hid ((u.block _ (heap_lt HB.out) id).trans HB.out)
 have RW:=hid (IntRow.of_rep (HS.out.keep u).keys)
 clear u hb m0 m1 m2
 go_wp2_with fail
 refine (isday_any day _).mono ?_
 rintro en y1 ⟨rfl,rfl⟩
 by_cases t1:DayP day
 case neg =>
  rw [decide_eq_false t1]
  have LN:=hid (show leaderF s day round=-1 by unfold leaderF;rw [if_neg fun q=>t1 q.1])
  go_wp2_with fail
  go_ret
  exact ⟨by rw [LN.out]<;>rfl,U2.out⟩
 rw [decide_eq_true t1]
 go_wp2_with fail
 refine (isday_any round _).mono ?_
 rintro en y2 ⟨rfl,rfl⟩
 by_cases t2:DayP round
 case neg =>
  rw [decide_eq_false t2]
  have LN:=hid (show leaderF s day round=-1 by unfold leaderF;rw [if_neg fun q=>t2 q.2])
  go_wp2_with fail
  go_ret
  exact ⟨by rw [LN.out]<;>rfl,U2.out⟩
 rw [decide_eq_true t2]
 have LF:=hid (show leaderF s day round=s.keys.getD ((day+round)%(s.keys.length:Int)).toNat (-1) by unfold leaderF;rw [if_pos ⟨t1,t2⟩])
 obtain ⟨t11,t12⟩:=t1
 obtain ⟨t21,t22⟩:=t2
 obtain ⟨_,_,e9,_,_,h9⟩:=RW.out
 obtain ⟨g,oo,rfl,hc⟩:∃ g o,ak=some ⟨g,o,none⟩/\∀ i (hi:i<s.keys.length),w2.cell? ⟨g,o+i,none⟩=some (.int .i64 s.keys[i]):=by
  obtain ⟨g,o,e1,e2⟩:=h9 KP.out
  injection e9 with e9 _ _
  exact ⟨g,o,by rw [e9,e1],e2⟩
 obtain ⟨N,hN⟩:∃ N,s.keys.length=N:=⟨_,rfl⟩
 have hNp:0<N:=by rw [<-hN];exact KP.out
 have hNi:(0:Int)<N:=by omega
 have hNne:(N:Int)≠0:=by omega
 obtain ⟨sm,hsm⟩:∃ sm,day+round=sm:=⟨_,rfl⟩
 have hsm0:0<=sm:=by omega
 have hsm1:sm<=9223372036854775807:=by omega
 have hw1:IntKind.i64.wrap (day+round)=sm:=by rw [IntWalk.i64_in _ (by omega)];exact hsm
 obtain ⟨k,hk⟩:∃ k:Nat,sm%(N:Int)=k:=⟨(sm%(N:Int)).toNat,by have:=Int.emod_nonneg sm hNne;omega⟩
 have hkN:k<N:=by have:=Int.emod_lt_of_pos sm hNi;omega
 have hki:(k:Int)<N:=by omega
 have hrem:Int.tmod sm N=k:=by rw [Int.tmod_eq_emod_of_nonneg hsm0];exact hk
 have cK:=hc k (by rw [hN];exact hkN)
 have VAL:=hid (show leaderF s day round=s.keys[k]'(by rw [hN];exact hkN) by
  rw [LF.out,hsm,show sm%(s.keys.length:Int)=(k:Int) from by rw [hN];exact hk,Int.toNat_natCast,List.getD_eq_getElem?_getD,List.getElem?_eq_getElem (by rw [hN];exact hkN)];rfl)
 obtain ⟨x,hx⟩:∃ x,s.keys[k]'(by rw [hN];exact hkN)=x:=⟨_,rfl⟩
 rw [hx] at cK VAL
 rw [hN] at hc1 HB2
 obtain ⟨m0,m1,m2⟩:=cells3s HB2.out
 clear hc hx e9 h9 RW LF hk
 go_upto_region 3 with (fail)
 go_region
 all_goals (go_wp2_with fail;go_ret;exact ⟨by rw [VAL.out]<;>rfl,(U2.out).drewN _⟩)
theorem permits_any {O Or:Nat->Prop} {b r:Nat} {hs:Hs} {R:Rg} {w:World} (h:HPre w O Or b r hs R) (m day round:Int) (hm:(Lit.int .i64 m).wf=true):Calls Tryz.prog 131 #[.pointer (some ⟨b,0,none⟩),.int .i64 m,.int .i64 day,.int .i64 round] w fun e w'=>e=.returned (.bool (decide (PermitP hs m day round)))/\Upd (fun _=>False) w w':=by
 have HH:=hid h;have MW:=hid hm
 clear h hm
 go_enter Tryz.func131,Tryz.ntmps131
 go_wp2_with fail
 refine (hentry_any HH.out.his HH.out.plain m MW.out).mono ?_
 rintro en y1 ⟨a1,a2,a3,c1,c2,c3,rfl,_,u⟩
 have PP:=hid (show PermitP hs m day round↔(entryM hs m).2=true/\(entryM hs m).1.kind=18/\(entryM hs m).1.m=day/\(entryM hs m).1.n<round/\(entryM hs m).1.ref=-1 from Iff.rfl)
 obtain ⟨x,hx⟩:∃ x,(entryM hs m).1=x:=⟨_,rfl⟩
 obtain ⟨is,his⟩:∃ x,(entryM hs m).2=x:=⟨_,rfl⟩
 rw [hx,his] at PP ⊢
 obtain ⟨W3,hW3⟩:∃ W3,W3=y1.alloc (.cells (en13 x a1 a2 a3 c1 c2 c3) 72 (0,0)):=⟨_,rfl⟩
 have u3:Upd (fun _=>False) y1 W3:=by rw [hW3];exact (Upd.refl _ _).alloc _
 obtain ⟨eb,heb⟩:∃ eb,y1.heap.size=eb:=⟨_,rfl⟩
 have EB:=hid (show W3.heap[eb]? = some (.cells (en13 x a1 a2 a3 c1 c2 c3) 72 (0,0)) by rw [hW3,<-heb];exact heap_alloc_new)
 have UW:=hid (u.trans u3)
 have HW3:=hid hW3;have HEB:=hid heb
 clear hx his hW3 heb u u3
 unfold enV
 go_upto_region 2 with (fail)
 rw [<-(show W3=y1.alloc (.cells #[.int .i64 x.author,.int .i64 x.seq,.int .i64 x.day,.slice a1 x.knows.length c1,.int .i64 x.kind,.int .i64 x.circle,.int .i64 x.who,.int .i64 x.n,.int .i64 x.m,.int .i64 x.ref,.slice a2 x.keys.length c2,.slice a3 x.spans.length c3,.string ⟨x.text.toArray⟩] 72 (0,0)) from HW3.out)]
 try rw [HEB.out]
 clear HW3 HEB
 obtain ⟨r0,r1,r2,r3,r4,r5,r6,r7,r8,r9,r10,r11,r12⟩:=cells13 EB.out
 clear r0 r1 r2 r3 r5 r6 r10 r11 r12
 have FIN:=hid (fun (q:¬PermitP hs m day round)=>(show decide (PermitP hs m day round)=false from decide_eq_false q))
 cases is with
 | false =>
   have FF:=hid (FIN.out fun q=>by have:=(PP.out.1 q).1;cases this)
   go_wp2_with fail
   go_ret
   exact ⟨by rw [FF.out]<;>rfl,UW.out⟩
 | true =>
   by_cases t1:x.kind=18
   case neg =>
    have FF:=hid (FIN.out fun q=>t1 (PP.out.1 q).2.1)
    have d1:(x.kind==18)=false:=by simpa using t1
    go_wp2_with fail
    go_ret
    exact ⟨by rw [FF.out]<;>rfl,UW.out⟩
   have d1:(x.kind==18)=true:=by simpa using t1
   by_cases t2:x.m=day
   case neg =>
    have FF:=hid (FIN.out fun q=>t2 (PP.out.1 q).2.2.1)
    have d2:(x.m==day)=false:=by simpa using t2
    go_wp2_with fail
    go_ret
    exact ⟨by rw [FF.out]<;>rfl,UW.out⟩
   have d2:(x.m==day)=true:=by simpa using t2
   by_cases t3:x.n<round
   case neg =>
    have FF:=hid (FIN.out fun q=>t3 (PP.out.1 q).2.2.2.1)
    have d3:decide (x.n<round)=false:=by simpa using t3
    go_wp2_with fail
    go_ret
    exact ⟨by rw [FF.out]<;>rfl,UW.out⟩
   have d3:decide (x.n<round)=true:=by simpa using t3
   by_cases t4:x.ref=-1
   case neg =>
    have FF:=hid (FIN.out fun q=>t4 (PP.out.1 q).2.2.2.2)
    have d4:(x.ref==-1)=false:=by simpa using t4
    go_wp2_with fail
    go_ret
    exact ⟨by rw [FF.out]<;>rfl,UW.out⟩
   have d4:(x.ref==-1)=true:=by simpa using t4
   have TT:=hid (decide_eq_true (PP.out.2 ⟨rfl,t1,t2,t3,t4⟩))
   go_wp2_with fail
   go_ret
   exact ⟨by rw [TT.out]<;>rfl,UW.out⟩
end Go.Proofs.YtjkmalddfoemhaaGreatDoor
set_option maxRecDepth 100000
set_option maxHeartbeats 4000000
namespace Go.Proofs.YtjkmalddfoemhaaGreatDoor
open Go.RowKit Go.Deep
def ownTo (acts:List ActP) (a day:Int) (k:Nat):List ActP:=ownA (acts.take k) a day
theorem ownTo_all {acts:List ActP} {a day:Int} {k:Nat} (hk:acts.length<=k):ownTo acts a day k=ownA acts a day:=by unfold ownTo;rw [List.take_of_length_le hk]
theorem ownTo_yes {acts:List ActP} {a day:Int} {k:Nat} (hk:k<acts.length) (e:acts[k].en.author=a/\acts[k].en.m=day):ownTo acts a day (k+1)=ownTo acts a day k++[acts[k]]:=by
 unfold ownTo ownA
 rw [List.take_succ_eq_append_getElem hk,List.filter_append,List.filter_cons_of_pos (by simpa using e)]
 rfl
theorem ownTo_no {acts:List ActP} {a day:Int} {k:Nat} (hk:k<acts.length) (e:¬(acts[k].en.author=a/\acts[k].en.m=day)):ownTo acts a day (k+1)=ownTo acts a day k:=by
 unfold ownTo ownA
 rw [List.take_succ_eq_append_getElem hk,List.filter_append,List.filter_cons_of_neg (by simpa using e)]
 simp
def OwnAPost (L:List AcC) (a day:Int) (w:World) (e:Ending) (w':World):Prop:=∃ v L',e=.returned v/\actsOf L'=ownA (actsOf L) a day/\(∀ c∈L',c∈L)/\L'.length<=L.length/\ActsAt w' w.heap.size v L'/\Upd (fun _=>False) w w'
theorem owna_any {A:Nat->Prop} {B:Nat} {s:Stp} {ak:Option Addr} {ck:Nat} {av:Option Addr} {cv:Nat} {L:List AcC} {w:World} (h:VwAt w A B s ak ck av cv L) (a day:Int):Calls Tryz.prog 136 #[viewV s ak ck av L.length cv,.int .i64 a,.int .i64 day] w (OwnAPost L a day w):=by
 obtain ⟨W1,hW1⟩:∃ W1,W1=w.alloc (.cells #[.slice ak s.keys.length ck,.int .i64 s.liars,.int .i64 s.seed,.slice av L.length cv] 167 (0,0)):=⟨_,rfl⟩
 have u1:Upd (fun _=>False) w W1:=by rw [hW1];exact (Upd.refl _ _).alloc _
 have HB:=hid (show W1.heap[w.heap.size]? = some (.cells #[.slice ak s.keys.length ck,.int .i64 s.liars,.int .i64 s.seed,.slice av L.length cv] 167 (0,0)) by rw [hW1];exact heap_alloc_new)
 have HV:=hid (h.keep u1);have U:=hid u1;have HW:=hid hW1
 obtain ⟨p,hp⟩:∃ p,w.heap.size=p:=⟨_,rfl⟩
 rw [hp] at HB
 have HP:=hid hp
 obtain ⟨_,cvx,ev,hv1,hv2⟩:∃ a c,(Value.slice av L.length cv)=.slice a L.length c/\L.length<=c/\c<=maxLen:=own_slice h.acts
 have ev:cv=cvx:=by injection ev
 subst ev
 have hv2:cv<=9223372036854775807:=hv2
 have hfew:=h.few
 obtain ⟨N,hN⟩:∃ N,L.length=N:=⟨_,rfl⟩
 have HN:=hid hN
 have HLA:=hid (show (actsOf L).length=N by unfold actsOf;rw [List.length_map];exact hN)
 have GET:=hid (fun (y:World) (u:Upd (fun _=>False) W1 y) (hp:0<L.length)=>(show ∃ g,av=some ⟨g,0,none⟩/\∀ i (hi:i<L.length),ActCs y g (i*15) L[i] from by
  obtain ⟨g,c,e,_,_,_,hgl,hc⟩:=ActsAt.get (HV.out.keep u).acts hp
  injection e with e1 _ _
  exact ⟨g,e1,fun i hi=>⟨fun j hj=>hc i hi j hj⟩⟩))
 rw [hN] at HB HW hv1 hfew ⊢
 clear hW1 u1 h hp hN
 unfold viewV
 go_enter Tryz.func136,Tryz.ntmps136
 go_upto_region 1 with (fail)
 rw [<-HW.out]
 try rw [HP.out]
 obtain ⟨m0,m1,m2,m3⟩:=cells4 HB.out
 clear HW
 go_wp2_with fail
 go_loopg [7,13] N (fun gg s7 s13 wr=>∃ k:Nat,k<=N/\gg=N-k/\s13=.int .i64 k/\∃ L',actsOf L'=ownTo (actsOf L) a day k/\(∀ c∈L',c∈L)/\L'.length<=k/\ActsAt wr W1.heap.size s7 L'/\Upd (fun _=>False) W1 wr)
 case atStart=>exact ⟨0,Nat.zero_le _,rfl,rfl,[],rfl,fun c hc=>(nomatch hc),Nat.le_refl _,World.ownsRow_nil _ _ _ _,Upd.refl _ _⟩
 case round =>
  obtain ⟨k,hk,hg,rfl,L',hL',hin,hle,hown,u1⟩:=hrel
  have HG:=hid hg;have OW:=hid hown;have U1:=hid u1;have HL':=hid hL';have HIN:=hid hin;have HLE:=hid hle
  clear hg hown u1 m0 m1 m2 m3 hL' hin hle
  by_cases hlt:k<N
  case neg =>
   have hlti:¬(k:Int)<N:=by omega
   have KE:=hid (ownTo_all (acts:=actsOf L) (a:=a) (day:=day) (k:=k) (by rw [HLA.out];omega))
   go_wp2_with fail
   go_ret
   exact ⟨_,L',rfl,by rw [HL'.out,KE.out],HIN.out,by rw [HN.out];have:=HLE.out;omega,ownsRow_base OW.out U.out.size,U.out.trans U1.out⟩
  have hlti:(k:Int)<N:=by omega
  have hk1:(k:Int)+1<=100000:=by omega
  have hkl:k<L.length:=by rw [HN.out];exact hlt
  have hka:k<(actsOf L).length:=by rw [HLA.out];exact hlt
  obtain ⟨g,rfl,hc⟩:=GET.out _ U1.out (by omega)
  have NK:=hid (hc k hkl)
  have EA:(actsOf L)[k]=L[k].a:=acts_get hka hkl
  have YES:=hid (fun e=>ownTo_yes (acts:=actsOf L) (a:=a) (day:=day) hka e)
  have NO:=hid (fun e=>ownTo_no (acts:=actsOf L) (a:=a) (day:=day) hka e)
  rw [EA] at YES NO
  have CM:=hid (show L[k]∈L from List.getElem_mem hkl)
  obtain ⟨c,hcc⟩:∃ c,L[k]=c:=⟨_,rfl⟩
  rw [hcc] at NK YES NO CM
  obtain ⟨W2,hW2⟩:∃ W2,W2=wr.alloc (.cells c.cells.toArray 184 (0,0)):=⟨_,rfl⟩
  have u2:Upd (fun _=>False) wr W2:=by rw [hW2];exact (Upd.refl _ _).alloc _
  have hb2:W2.heap[wr.heap.size]? = some (.cells c.cells.toArray 184 (0,0)):=by rw [hW2];exact heap_alloc_new
  obtain ⟨_,q1,q5,q8,q9,_,_⟩:=act_cells hb2
  have HL0:=hid (act_load0 hb2)
  have HW2:=hid hW2
  have U12:=hid (U1.out.trans u2)
  have OW2:=hid (ownsRow_upd OW.out u2 fun _ _=>id)
  obtain ⟨x,hx⟩:∃ x,c.a.en=x:=⟨_,rfl⟩
  have HXK:=hid hx
  rw [hx] at q1 q5 q8 q9 YES NO
  clear hc hcc hW2 u2 hb2 hx EA
  go_upto_region 4 with (fail)
  refine wp_region_lit ?_
  refine op_index rfl _ _ _ rfl rfl rfl (act_index hlt hv1 hv2 _) ?_
  (try go_frame)
  refine op_load rfl _ _ rfl rfl (act_load NK.out) ?_
  (try go_frame)
  refine op_alloc rfl _ rfl (act_alloc _) ?_
  (try go_frame)
  refine op_store rfl _ _ _ rfl rfl rfl (act_store _ _) ?_
  rw [<-HW2.out]
  refine wpList_nil ?_
  go_frame
  by_cases t1:x.author=a
  case neg =>
   have d1:(x.author==a)=false:=beq_eq_false_iff_ne.2 t1
   have ST:=hid (NO.out fun q=>t1 q.1)
   go_wp2_with fail
   go_roundg (N-(k+1))
   case measure=>have:=HG.out;omega
   case rel=>exact ⟨k+1,by omega,rfl,by go_num,L',by rw [ST.out];exact HL'.out,HIN.out,Nat.le_succ_of_le HLE.out,OW2.out,U12.out⟩
  have d1:(x.author==a)=true:=beq_iff_eq.2 t1
  by_cases t2:x.m=day
  case neg =>
   have d2:(x.m==day)=false:=beq_eq_false_iff_ne.2 t2
   have ST:=hid (NO.out fun q=>t2 q.2)
   go_wp2_with fail
   go_roundg (N-(k+1))
   case measure=>have:=HG.out;omega
   case rel=>exact ⟨k+1,by omega,rfl,by go_num,L',by rw [ST.out];exact HL'.out,HIN.out,Nat.le_succ_of_le HLE.out,OW2.out,U12.out⟩
  have d2:(x.m==day)=true:=beq_iff_eq.2 t2
  have ST:=hid (YES.out ⟨t1,t2⟩)
  obtain ⟨v',w4,r4,o4,u4,n4⟩:=append_one elemAc OW2.out c.cells.toArray (by simp [AcC.cells,en13]) (by simp [AcC.cells,en13,Value.oneCell']) (by have:=HLE.out;unfold maxLen;omega) (by have:=HLE.out;omega) U12.out.size 165 (0,0)
  have O4:=hid o4;have R4:=hid r4;have U4:=hid u4
  have OB:=hid (fun i e=>(rowlt OW2.out i e).1)
  clear o4 u4 n4 r4
  go_upto_region 6 with (fail)
  refine wp_region_lit ?_
  refine op_move rfl _ rfl rfl ?_
  (try go_frame)
  refine op_load rfl _ _ rfl rfl HL0.out ?_
  (try go_frame)
  refine op_buildSlice rfl _ _ _ rfl (vs:=[(0,.agg c.cells.toArray)]) rfl (act_slice c _) ?_
  (try go_frame)
  refine wpList_append_run rfl _ _ _ _ rfl rfl rfl R4.out ?_
  (try go_frame)
  refine op_assign rfl _ rfl rfl ?_
  refine wpList_nil ?_
  go_frame
  go_wp2_with fail
  go_roundg (N-(k+1))
  case measure=>have:=HG.out;omega
  case rel =>
   refine ⟨k+1,by omega,rfl,by go_num,L'++[c],?_,fun y hy=>(List.mem_append.1 hy).elim (HIN.out y) fun q=>by rw [List.mem_singleton.1 q];exact CM.out,by rw [List.length_append];have:=HLE.out;simp;omega,?_,U12.out.comp U4.out fun i hi e=>by have:=OB.out i e;omega⟩
   · rw [ST.out,<-HL'.out];unfold actsOf;rw [List.map_append];rfl
   · show ActsAt _ _ _ _
     unfold ActsAt
     rw [acFlat_snoc,List.length_append]
     exact O4.out
end Go.Proofs.YtjkmalddfoemhaaGreatDoor
