/- Walks: the keys that have broken a rule, or forked (Guilty). -/
import Derived.Test.YtjkmalddfoemhaaGreatDoorRn
import Derived.Test.YtjkmalddfoemhaaGreatDoorClF
set_option maxRecDepth 100000
set_option maxHeartbeats 16000000
namespace Go.Proofs.YtjkmalddfoemhaaGreatDoor
open Go.RowKit Go.Deep
def GuiltPost (s:Stp) (hs:Hs) (w:World) (e:Ending) (w':World):Prop:=∃ v l,e=.returned v/\(StpOk s->l=guiltC hs s)/\(¬StpOk s->l=[])/\w'.ownsRow w.heap.size 3 1 v l.length (l.map fun x=>.int .i64 x)/\Upd (fun _=>False) w w'
theorem guilty_wf {w:World} {O:Nat->Prop} {b r:Nat} {hs:Hs} {R:Rg} (h:IsHis w O b r hs) (H:His rdF R hs):∀ a∈guiltyF hs,(Lit.int .i64 a).wf=true:=fun a ha=>by
 obtain ⟨x,hx,_⟩:=(mem_guilty H a).1 ha
 have e:=((mem_own H a x).1 hx).2
 rw [<-e,<-ent_entry]
 exact iwf (his_wf h x).2.author
theorem guilty_few (hs:Hs):(guiltyF hs).length<=hs.length:=by
 obtain ⟨h1,h2⟩:=rising_ok (hs.map fun n=>n.en.author)
 have:=nodup_sub_len (l1:=guiltyF hs) (l2:=hs.map fun n=>n.en.author) ((h1.imp fun h e=>by subst e;exact absurd h (Int.lt_irrefl _)).sublist List.filter_sublist) fun x hx=>(h2 x).1 (List.mem_filter.1 hx).1
 rwa [List.length_map] at this
def guiltTo (hs:Hs) (s:Stp) (k:Nat):List Int:=(s.keys.take k).filter fun a=>decide (GuiltP hs s a)
theorem guiltTo_yes {hs:Hs} {s:Stp} {k:Nat} (hk:k<s.keys.length) (e:GuiltP hs s s.keys[k]):guiltTo hs s (k+1)=guiltTo hs s k++[s.keys[k]]:=by
 unfold guiltTo
 rw [List.take_succ_eq_append_getElem hk,List.filter_append,List.filter_cons_of_pos (by simpa using e)];rfl
theorem guiltTo_no {hs:Hs} {s:Stp} {k:Nat} (hk:k<s.keys.length) (e:¬GuiltP hs s s.keys[k]):guiltTo hs s (k+1)=guiltTo hs s k:=by
 unfold guiltTo
 rw [List.take_succ_eq_append_getElem hk,List.filter_append,List.filter_cons_of_neg (by simpa using e)];simp
theorem guiltTo_all {hs:Hs} {s:Stp} {k:Nat} (hk:s.keys.length<=k):guiltTo hs s k=guiltC hs s:=by unfold guiltTo guiltC;rw [List.take_of_length_le hk]
theorem guiltTo_len (hs:Hs) (s:Stp) (k:Nat):(guiltTo hs s k).length<=k:=by
 unfold guiltTo
 exact Nat.le_trans (List.length_filter_le _ _) (by rw [List.length_take];exact Nat.min_le_left _ _)
theorem guiltK_any {O Or A:Nat->Prop} {b r:Nat} {hs:Hs} {R:Rg} {s:Stp} {ak:Option Addr} {ck:Nat} {w:World} (h:HPre w O Or b r hs R) (hst:StpAt w A s ak ck) (hA:∀ g,A g->g<w.heap.size) (hk:s.keys.length<=1000) (rk:RgOk R):Calls Tryz.prog 58 #[.pointer (some ⟨b,0,none⟩),stpV s ak ck] w (GuiltPost s hs w):=by
 obtain ⟨W1,hW1⟩:∃ W1,W1=w.alloc (.cells #[.slice ak s.keys.length ck,.int .i64 s.liars,.int .i64 s.seed] 60 (0,0)):=⟨_,rfl⟩
 have u1:Upd (fun _=>False) w W1:=by rw [hW1];exact (Upd.refl _ _).alloc _
 have HB:=hid (show W1.heap[w.heap.size]? = some (.cells #[.slice ak s.keys.length ck,.int .i64 s.liars,.int .i64 s.seed] 60 (0,0)) by rw [hW1];exact heap_alloc_new)
 have HH:=hid (h.keep u1);have HS:=hid (hst.keep u1);have U:=hid u1;have HW:=hid hW1
 have HA:=hid (fun (y:World) (u:Upd (fun _=>False) W1 y) g (q:A g)=>(show g<y.heap.size from Nat.lt_of_lt_of_le (hA g q) (Nat.le_trans u1.size u.size)))
 have HK:=hid hk;have RK:=hid rk
 have ML:=hid (show (marksF hs).length<=60 by rw [marksF_len];exact Nat.le_trans h.plain.len h.few)
 have MWF:=hid (show ∀ x∈marksF hs,(Lit.int .i64 x).wf=true from fun x hx=>iwf (mark_i64 h.plain h.few x hx))
 have GWF:=hid (guilty_wf h.his h.plain)
 have GFW:=hid (show (guiltyF hs).length<=60 from Nat.le_trans (guilty_few hs) (Nat.le_trans h.plain.len h.few))
 have KWF:=hid (show ∀ x∈s.keys,(Lit.int .i64 x).wf=true from fun x hx=>iwf (ints_wf hst.keys x hx))
 obtain ⟨p,hp⟩:∃ p,w.heap.size=p:=⟨_,rfl⟩
 rw [hp] at HB
 have HP:=hid hp
 clear hW1 u1 h hst hA hk hp rk
 unfold stpV
 go_enter Tryz.func58,Tryz.ntmps58
 go_upto_region 1 with (fail)
 rw [<-HW.out]
 try rw [HP.out]
 obtain ⟨m0,m1,m2⟩:=cells3s HB.out
 clear HW
 go_wp2_with fail
 refine (sright_any HS.out (HA.out _ (Upd.refl _ _)) HK.out).mono ?_
 rintro en X ⟨⟨bo,rfl,hbo⟩,u⟩
 have UX:=hid u;have HBO:=hid hbo
 have HBX:=hid ((u.block _ (heap_lt HB.out) id).trans HB.out)
 clear u hbo m0 m1 m2
 cases bo with
 | false =>
   go_wp2_with fail
   go_ret
   exact ⟨_,[],rfl,fun q=>absurd (HBO.out.2 q) (by decide),fun _=>rfl,World.ownsRow_nil _ _ _ _,U.out.trans UX.out⟩
 | true =>
   have OKS:=hid (HBO.out.1 rfl)
   clear HBO
   have hmk:∀ w,(Instr.makeMap 164 none).run Tryz.prog w=.ok (.map (some w.heap.size)) (w.alloc (.map #[] 0)):=fun w=>run_makeMap _ w
   obtain ⟨W2,hW2⟩:∃ W2,W2=X.alloc (.map #[] 0):=⟨_,rfl⟩
   have u2:Upd (fun _=>False) X W2:=by rw [hW2];exact (Upd.refl _ _).alloc _
   have S0:=hid (show SeenAt W2 X.heap.size [] 0 from ⟨[],by rw [hW2];exact MapIs.made X,fun m=>by simp,Nat.le_refl _⟩)
   have HW2:=hid hW2
   have UW:=hid (UX.out.trans u2)
   obtain ⟨sb,hsb⟩:∃ sb,X.heap.size=sb:=⟨_,rfl⟩
   have HSB:=hid hsb
   rw [hsb] at S0
   have PSB:=hid (show w.heap.size<=sb/\p≠sb/\W1.heap.size<=sb/\sb<W2.heap.size from by
    have h1:=heap_lt HB.out
    have h2:=UX.out.size
    have h3:=U.out.size
    have h4:W2.heap.size=X.heap.size+1:=by rw [hW2];simp
    refine ⟨?_,?_,?_,?_⟩<;>omega)
   have HHU:=hid (fun (y:World) (u:Upd (· = sb) W2 y)=>(show HPre y O Or b r hs R from (HH.out.keep UW.out).upd u (fun k hk e=>by have:=(HH.out.his.lt k hk).2;have:=PSB.out;omega) (fun k hk e=>by have:=(HH.out.gnd.ring.lt k hk).2;have:=PSB.out;omega) fun k e=>by have:=HH.out.gnd.six;have:=PSB.out;omega))
   have HSU:=hid (fun (y:World) (u:Upd (· = sb) W2 y)=>(show StpAt y A s ak ck from ⟨kInts.keep (HS.out.keep UW.out).keys (Same.of_upd u fun g hg e=>by have:=HA.out _ (Upd.refl _ _) g hg;have:=PSB.out;omega),HS.out.cap,HS.out.liars,HS.out.seed⟩))
   have HAU:=hid (fun (y:World) (u:Upd (· = sb) W2 y) g (q:A g)=>(show g<y.heap.size from Nat.lt_of_lt_of_le (HA.out _ UW.out g q) u.size))
   have HBU:=hid (fun (y:World) (u:Upd (· = sb) W2 y)=>(show y.heap[p]? = some (.cells #[.slice ak s.keys.length ck,.int .i64 s.liars,.int .i64 s.seed] 60 (0,0)) from (u.block _ (heap_lt ((UW.out.block _ (heap_lt HB.out) id).trans HB.out)) PSB.out.2.1).trans ((UW.out.block _ (heap_lt HB.out) id).trans HB.out)))
   clear hW2 u2 hsb HBX
   go_upto_region 4 with (fail)
   rw [<-HW2.out]
   try rw [HSB.out]
   clear HW2 hmk
   go_wp2_with fail
   have HP2:=HHU.out _ (Upd.refl _ _)
   refine (fguilty_any HP2.his HP2.plain RK.out HP2.few).mono ?_
   rintro en x1 ⟨vg,rfl,ho,u⟩
   obtain ⟨G,hG⟩:∃ G,guiltyF hs=G:=⟨_,rfl⟩
   have HG0:=hid hG
   rw [hG] at ho GWF GFW
   have ROW:=hid ho
   obtain ⟨ag,cg,rfl,hg1,hg2⟩:=own_slice ho
   have hg2:cg<=9223372036854775807:=hg2
   have GB:=hid (fun g (hg:(Value.slice ag G.length cg).ownBlock=some g)=>(show g≠sb from fun e=>by have:=(own_lt ho g hg).1;have:=PSB.out;omega))
   have CG:=hid (fun (y:World) (u:Upd (· = sb) x1 y)=>IntRow.of_own (ownsRow_upd ROW.out u fun g hg=>GB.out g hg))
   have S1:=hid (S0.out.upd u id (Nat.le_refl _))
   have U1:=hid (show Upd (· = sb) W2 x1 from u.mono fun _ q=>q.elim)
   obtain ⟨n1,hn1⟩:∃ n1,G.length=n1:=⟨_,rfl⟩
   have HN1:=hid hn1
   rw [hn1] at hg1 GFW ⊢
   have hn160:=GFW.out
   clear hG ho u hn1 HP2 S0
   go_wp2_with fail
   go_loopg [22] n1 (fun gg s22 wr=>∃ k:Nat,k<=n1/\gg=n1-k/\s22=.int .i64 k/\∃ S,SeenAt wr sb S k/\(∀ x,x∈S↔x∈G.take k)/\Upd (· = sb) x1 wr)
   case atStart=>exact ⟨0,Nat.zero_le _,rfl,rfl,[],S1.out,fun x=>by simp,Upd.refl _ _⟩
   case round =>
    obtain ⟨k,hk,hg,rfl,S,hS,hmem,u⟩:=hrel
    have HG:=hid hg;have SA:=hid hS;have SM:=hid hmem;have UR:=hid u
    clear hg hS hmem u
    by_cases hlt:k<n1
    case pos =>
     as_aux_lemma =>
     have hlti:(k:Int)<n1:=by omega
     have hk1:(k:Int)+1<=9223372036854775807:=by omega
     have hkl:k<G.length:=by rw [HN1.out];exact hlt
     obtain ⟨_,_,e9,_,_,hc9⟩:=CG.out wr UR.out
     obtain ⟨gb,oo,rfl,hcell⟩:∃ g o,ag=some ⟨g,o,none⟩/\∀ i (hi:i<G.length),wr.cell? ⟨g,o+i,none⟩=some (.int .i64 G[i]):=by
      obtain ⟨g,o,e1,e2⟩:=hc9 (by omega)
      injection e9 with e9 _ _
      exact ⟨g,o,by rw [e9,e1],e2⟩
     have c0:=hcell k hkl
     have TK:=hid (show ∀ x,x∈G.take (k+1)↔x=G[k]\/x∈G.take k from fun x=>by rw [List.take_succ_eq_append_getElem hkl,List.mem_append,List.mem_singleton];exact or_comm)
     have XW:=hid (GWF.out _ (List.getElem_mem hkl))
     obtain ⟨x,hx⟩:∃ x,G[k]=x:=⟨_,rfl⟩
     rw [hx] at c0 TK XW
     obtain ⟨w4,r4,s4,u4⟩:=SA.out.put XW.out (by unfold maxLen;omega)
     have S4:=hid s4;have U4:=hid (UR.out.trans u4)
     clear hx hcell e9 hc9 s4 u4
     go_wp2_with fail
     go_roundg (n1-(k+1))
     case measure=>have:=HG.out;omega
     case rel=>exact ⟨k+1,by omega,rfl,by go_num,x::S,S4.out,fun z=>by rw [List.mem_cons,SM.out z,TK.out z],U4.out⟩
    have hlti:¬(k:Int)<n1:=by omega
    have SG:=hid (show ∀ x,x∈S↔x∈G from fun x=>by rw [SM.out x,List.take_of_length_le (by rw [HN1.out];omega)])
    have UA:=hid (U1.out.trans UR.out)
    clear CG GB SM
    go_wp2_with fail
    refine (hmarks_any (HHU.out _ UA.out).his).mono ?_
    rintro en x3 ⟨vm,rfl,ho,u⟩
    have ROWM:=hid ho
    obtain ⟨am,cm,rfl,hm1,hm2⟩:=own_slice ho
    have hm2:cm<=9223372036854775807:=hm2
    obtain ⟨M,hM⟩:∃ M,marksF hs=M:=⟨_,rfl⟩
    have HM0:=hid hM
    rw [hM] at ROWM MWF ML hm1 ⊢
    have MB:=hid (fun g (hg:(Value.slice am M.length cm).ownBlock=some g)=>(show g≠sb from fun e=>by have:=(own_lt ROWM.out g hg).1;have:=PSB.out;have:=UA.out.size;omega))
    have CM:=hid (fun (y:World) (u:Upd (· = sb) x3 y)=>IntRow.of_own (ownsRow_upd ROWM.out u fun g hg=>MB.out g hg))
    have S3:=hid (SA.out.upd u id (Nat.le_refl _))
    have U3:=hid (show Upd (· = sb) W2 x3 from UA.out.trans (u.mono fun _ q=>q.elim))
    obtain ⟨n2,hn2⟩:∃ n2,M.length=n2:=⟨_,rfl⟩
    have HN2:=hid hn2
    rw [hn2] at hm1 ML ⊢
    have hn260:=ML.out
    clear hM ho u hn2 SA HG
    go_wp2_with fail
    go_loopg [32] n2 (fun gg s32 wr=>∃ j:Nat,j<=n2/\gg=n2-j/\s32=.int .i64 j/\∃ S,SeenAt wr sb S (k+j)/\(∀ x,x∈S↔x∈G\/∃ m∈M.take j,(entryM hs m).1.author=x/\legalF hs s m≠0)/\Upd (· = sb) x3 wr)
    case atStart=>exact ⟨0,Nat.zero_le _,rfl,rfl,S,S3.out,fun x=>by rw [SG.out x];simp,Upd.refl _ _⟩
    case round =>
     obtain ⟨j,hj,hg,rfl,S2,hS,hmem,u⟩:=hrel
     have HG:=hid hg;have SA:=hid hS;have SM:=hid hmem;have UR:=hid u
     have UA:=hid (U3.out.trans u)
     clear hg hS hmem u S3
     by_cases hjt:j<n2
     case pos =>
      as_aux_lemma =>
      have hjti:(j:Int)<n2:=by omega
      have hj1:(j:Int)+1<=1000:=by omega
      have hjl:j<M.length:=by rw [HN2.out];exact hjt
      obtain ⟨_,_,e9,_,_,hc9⟩:=CM.out wr UR.out
      obtain ⟨gb,oo,rfl,hcell⟩:∃ g o,am=some ⟨g,o,none⟩/\∀ i (hi:i<M.length),wr.cell? ⟨g,o+i,none⟩=some (.int .i64 M[i]):=by
       obtain ⟨g,o,e1,e2⟩:=hc9 (by omega)
       injection e9 with e9 _ _
       exact ⟨g,o,by rw [e9,e1],e2⟩
      have c0:=hcell j hjl
      have TK:=hid (show ∀ x,(∃ m∈M.take (j+1),(entryM hs m).1.author=x/\legalF hs s m≠0)↔(∃ m∈M.take j,(entryM hs m).1.author=x/\legalF hs s m≠0)\/((entryM hs M[j]).1.author=x/\legalF hs s M[j]≠0) from fun x=>by
       rw [List.take_succ_eq_append_getElem hjl]
       constructor
       · rintro ⟨m,hm,q⟩
         rcases List.mem_append.1 hm with z | z
         · exact .inl ⟨m,z,q⟩
         · rw [List.mem_singleton.1 z] at q;exact .inr q
       · rintro (⟨m,hm,q⟩ | q)
         · exact ⟨m,List.mem_append.2 (.inl hm),q⟩
         · exact ⟨_,List.mem_append.2 (.inr (List.mem_singleton.2 rfl)),q⟩)
      have XW:=hid (MWF.out _ (List.getElem_mem hjl))
      obtain ⟨m,hm⟩:∃ m,M[j]=m:=⟨_,rfl⟩
      rw [hm] at c0 TK XW
      clear hm hcell e9 hc9
      go_wp2_with fail
      refine (hentry_any (HHU.out _ UA.out).his (HHU.out _ UA.out).plain m XW.out).mono ?_
      rintro en y1 ⟨a1,a2,a3,c1,c2,c3,rfl,_,u⟩
      have AW:=hid (show (Lit.int .i64 (entryM hs m).1.author).wf=true from iwf (his_wf (HHU.out _ UA.out).his m).2.author)
      obtain ⟨x,hx⟩:∃ x,(entryM hs m).1=x:=⟨_,rfl⟩
      obtain ⟨is,his⟩:∃ x,(entryM hs m).2=x:=⟨_,rfl⟩
      rw [hx] at TK AW
      rw [hx,his]
      obtain ⟨Y,hYY⟩:∃ W3,W3=y1.alloc (.cells (en13 x a1 a2 a3 c1 c2 c3) 72 (0,0)):=⟨_,rfl⟩
      have u3:Upd (fun _=>False) y1 Y:=by rw [hYY];exact (Upd.refl _ _).alloc _
      obtain ⟨eb,heb⟩:∃ eb,y1.heap.size=eb:=⟨_,rfl⟩
      have EB:=hid (show Y.heap[eb]? = some (.cells (en13 x a1 a2 a3 c1 c2 c3) 72 (0,0)) by rw [hYY,<-heb];exact heap_alloc_new)
      have uY:Upd (· = sb) wr Y:=(u.trans u3).mono fun _ q=>q.elim
      have URY:=hid (UR.out.trans uY);have UAY:=hid (UA.out.trans uY)
      have SAY:=hid (SA.out.upd (u.trans u3) id (Nat.le_refl _))
      have HYY:=hid hYY;have HEB:=hid heb
      clear hx his hYY heb u u3 uY c0
      unfold enV
      go_upto_region 13 with (fail)
      rw [<-(show Y=y1.alloc (.cells #[.int .i64 x.author,.int .i64 x.seq,.int .i64 x.day,.slice a1 x.knows.length c1,.int .i64 x.kind,.int .i64 x.circle,.int .i64 x.who,.int .i64 x.n,.int .i64 x.m,.int .i64 x.ref,.slice a2 x.keys.length c2,.slice a3 x.spans.length c3,.string ⟨x.text.toArray⟩] 72 (0,0)) from HYY.out)]
      try rw [HEB.out]
      clear HYY HEB
      obtain ⟨r0,_⟩:=cells13 EB.out
      obtain ⟨xa,hxa⟩:∃ xa,x.author=xa:=⟨_,rfl⟩
      rw [hxa] at r0 TK AW
      have HXA:=hid hxa
      clear hxa
      by_cases hin:xa∈S2
      case pos =>
       have hlk:=SAY.out.yes AW.out hin
       have NX:=hid (show ∀ y,y∈S2↔y∈G\/∃ m∈M.take (j+1),(entryM hs m).1.author=y/\legalF hs s m≠0 from fun y=>by
        rw [TK.out y,<-or_assoc,<-SM.out y]
        exact ⟨.inl,fun q=>q.elim id fun z=>by rw [<-z.1];exact hin⟩)
       clear hin
       go_wp2_with fail
       go_roundg (n2-(j+1))
       case measure=>have:=HG.out;omega
       case rel=>exact ⟨j+1,by omega,rfl,by go_num,S2,SAY.out.upd (Upd.refl (fun _=>False) _) id (by omega),NX.out,URY.out⟩
      have hlk:=SAY.out.no AW.out hin
      obtain ⟨m0,m1,m2⟩:=cells3s (HBU.out _ UAY.out)
      go_wp2_with fail
      refine (legal_any (HHU.out _ UAY.out) (HSU.out _ UAY.out) (HAU.out _ UAY.out) HK.out m XW.out).mono ?_
      rintro en z1 ⟨⟨r',rfl,hr,_⟩,u⟩
      have HR:=hid (hr OKS.out)
      have URZ:=hid (show Upd (· = sb) x3 z1 from URY.out.trans (u.mono fun _ q=>q.elim))
      have SAZ:=hid (SAY.out.upd u id (Nat.le_refl _))
      have EBZ:=hid ((u.block _ (heap_lt EB.out) id).trans EB.out)
      clear hr u r0 m0 m1 m2 hlk
      by_cases hz:r'=0
      case pos =>
       have d1:(r' != 0)=false:=by simp [hz]
       have NX:=hid (show ∀ y,y∈S2↔y∈G\/∃ m∈M.take (j+1),(entryM hs m).1.author=y/\legalF hs s m≠0 from fun y=>by
        rw [TK.out y,<-or_assoc,<-SM.out y]
        exact ⟨.inl,fun q=>q.elim id fun z=>absurd (HR.out.symm.trans hz) z.2⟩)
       clear hz
       go_wp2_with fail
       go_roundg (n2-(j+1))
       case measure=>have:=HG.out;omega
       case rel=>exact ⟨j+1,by omega,rfl,by go_num,S2,SAZ.out.upd (Upd.refl (fun _=>False) _) id (by omega),NX.out,URZ.out⟩
      have d1:(r' != 0)=true:=bne_iff_ne.2 hz
      obtain ⟨r0,_⟩:=cells13 EBZ.out
      rw [HXA.out] at r0
      have NX:=hid (show ∀ y,y∈xa::S2↔y∈G\/∃ m∈M.take (j+1),(entryM hs m).1.author=y/\legalF hs s m≠0 from fun y=>by
       rw [TK.out y,<-or_assoc,<-SM.out y,List.mem_cons]
       exact ⟨fun q=>q.elim (fun z=>.inr ⟨z.symm,fun z2=>hz (HR.out.trans z2)⟩) .inl,fun q=>q.elim .inr fun z=>.inl z.1.symm⟩)
      obtain ⟨w4,r4,s4,u4⟩:=SAZ.out.put AW.out (by unfold maxLen;omega)
      have S4:=hid s4;have U4:=hid (URZ.out.trans u4)
      clear hz s4 u4
      go_wp2_with fail
      go_roundg (n2-(j+1))
      case measure=>have:=HG.out;omega
      case rel=>exact ⟨j+1,by omega,rfl,by go_num,xa::S2,S4.out,NX.out,U4.out⟩
     have hjti:¬(j:Int)<n2:=by omega
     have GP:=hid (show ∀ x,x∈S2↔GuiltP hs s x from fun x=>by
      rw [SM.out x,List.take_of_length_le (by rw [HN2.out];omega),<-HG0.out,<-HM0.out]
      exact Iff.rfl)
     obtain ⟨m0,m1,m2⟩:=cells3s (HBU.out _ UA.out)
     have KC:=hid (fun (y:World) (u:Upd (fun _=>False) wr y)=>IntRow.of_rep ((HSU.out _ UA.out).keep u).keys)
     obtain ⟨hk1c,hk2c⟩:=HS.out.cap
     obtain ⟨n3,hn3⟩:∃ n3,s.keys.length=n3:=⟨_,rfl⟩
     have HN3:=hid hn3
     rw [hn3] at m0 hk1c
     have hn1000:n3<=1000:=by rw [<-hn3];exact HK.out
     obtain ⟨B3,hB3⟩:∃ B3,wr.heap.size=B3:=⟨_,rfl⟩
     have HB3:=hid hB3
     clear hn3 CM MB SM hB3
     go_wp2_with fail
     go_loopg [12,61] n3 (fun gg s12 s61 wi=>∃ i:Nat,i<=n3/\gg=n3-i/\s61=.int .i64 i/\wi.ownsRow B3 3 1 s12 (guiltTo hs s i).length ((guiltTo hs s i).map fun x=>.int .i64 x)/\Upd (fun _=>False) wr wi)
     case atStart=>exact ⟨0,Nat.zero_le _,rfl,rfl,World.ownsRow_nil _ _ _ _,Upd.refl _ _⟩
     case round =>
      obtain ⟨i,hi,hg,rfl,hrow,u⟩:=hrel
      have HG:=hid hg;have ROW3:=hid hrow;have UI:=hid u
      obtain ⟨a12,c12,rfl,h121,h122⟩:=own_slice hrow
      have h122:c12<=9223372036854775807:=h122
      have SI:=hid (SA.out.upd u id (Nat.le_refl _))
      have TL:=hid (guiltTo_len hs s i)
      clear hg hrow u
      by_cases hit:i<n3
      case neg =>
       as_aux_lemma =>
       have hiti:¬(i:Int)<n3:=by omega
       have ALLK:=hid (show guiltTo hs s i=guiltC hs s from guiltTo_all (by rw [HN3.out];omega))
       have UE:=hid ((U.out.trans UW.out).comp UA.out fun i hi e=>by have:=PSB.out;omega)
       have RE:=hid (ownsRow_base ROW3.out (show w.heap.size<=B3 by rw [<-HB3.out];exact UE.out.size))
       rw [ALLK.out] at RE ⊢
       clear ROW3
       go_wp2_with fail
       go_ret
       exact ⟨_,_,rfl,fun _=>rfl,fun q=>absurd OKS.out q,RE.out,UE.out.trans UI.out⟩
      as_aux_lemma =>
      have hiti:(i:Int)<n3:=by omega
      have hi1:(i:Int)+1<=100000:=by omega
      have hil:i<s.keys.length:=by rw [HN3.out];exact hit
      obtain ⟨_,_,e9,_,_,hc9⟩:=KC.out wr UI.out
      obtain ⟨gb,oo,rfl,hcell⟩:∃ g o,ak=some ⟨g,o,none⟩/\∀ i (hi:i<s.keys.length),wr.cell? ⟨g,o+i,none⟩=some (.int .i64 s.keys[i]):=by
       obtain ⟨g,o,e1,e2⟩:=hc9 (by omega)
       injection e9 with e9 _ _
       exact ⟨g,o,by rw [e9,e1],e2⟩
      have c0:=hcell i hil
      have YES:=hid (fun e=>guiltTo_yes (hs:=hs) (s:=s) hil e)
      have NO:=hid (fun e=>guiltTo_no (hs:=hs) (s:=s) hil e)
      have XW:=hid (KWF.out _ (List.getElem_mem hil))
      obtain ⟨x,hx⟩:∃ x,s.keys[i]=x:=⟨_,rfl⟩
      rw [hx] at c0 YES NO XW
      clear hx hcell e9 hc9
      by_cases hin:x∈S2
      case neg =>
       have hlk:=SI.out.no XW.out hin
       have NX:=hid (NO.out fun q=>hin ((GP.out x).2 q))
       clear hin
       go_wp2_with fail
       go_roundg (n3-(i+1))
       case measure=>have:=HG.out;omega
       case rel=>exact ⟨i+1,by omega,rfl,by go_num,by rw [NX.out];exact ROW3.out,UI.out⟩
      have hlk:=SI.out.yes XW.out hin
      have NX:=hid (YES.out ((GP.out x).1 hin))
      obtain ⟨v',w4,r4,o4,u4,n4⟩:=append_one elemI ROW3.out #[.int .i64 x] rfl (by simp [Value.oneCell']) (by have:=TL.out;unfold maxLen;omega) (by have:=TL.out;omega) (show B3<=wr.heap.size by rw [<-HB3.out];exact UI.out.size) 30 (0,0)
      have O4:=hid (show w4.ownsRow B3 3 1 v' (guiltTo hs s (i+1)).length ((guiltTo hs s (i+1)).map fun x=>.int .i64 x) by rw [NX.out,List.length_append,List.map_append];exact o4)
      have R4:=hid r4
      have U4:=hid (UI.out.comp u4 fun i hi e=>by have:=(own_lt ROW3.out i e).1;have:=HB3.out;omega)
      have tl9:(guiltTo hs s i).length<=1000:=by have:=TL.out;omega
      clear o4 u4 n4 r4 hin
      go_wp2_with (at_builtin;refine wpList_append_run rfl _ _ _ _ rfl rfl rfl R4.out ?_)
      go_roundg (n3-(i+1))
      case measure=>have:=HG.out;omega
      case rel=>exact ⟨i+1,by omega,rfl,by go_num,O4.out,U4.out⟩
end Go.Proofs.YtjkmalddfoemhaaGreatDoor
