/- Readers: close, number. -/
import Derived.Test.YtjkmalddfoemhaaGreatDoorJ6
set_option maxRecDepth 100000
set_option maxHeartbeats 4000000
namespace Go.Proofs.YtjkmalddfoemhaaGreatDoor
open Go.RowKit Go.Deep
theorem cut_yes (t:List UInt8) (c:UInt8) (w:World) :
 Calls Tryz.prog 171 #[.string ⟨(c::t).toArray⟩,.string ⟨#[c]⟩] w fun e w'=>e=.returned (.tuple #[.string ⟨t.toArray⟩,.bool true])/\w=w' :=
 (Tryz.strings_CutPrefix _ _ w).mono fun _ _ ⟨he,hw⟩=>⟨by rw [he];simp [Lib.trimPrefix,Lib.hasPrefix],hw.symm⟩
theorem cut_no (l:List UInt8) (c:UInt8) (h:l.head?≠some c) (w:World) :
 Calls Tryz.prog 171 #[.string ⟨l.toArray⟩,.string ⟨#[c]⟩] w fun e w'=>e=.returned (.tuple #[.string ⟨l.toArray⟩,.bool false])/\w=w':=by
 have hp:Lib.hasPrefix l [c]=false:=by
  cases l with
  | nil=>rfl
  | cons b t =>
    have hb:b≠c:=fun e=>h (by rw [e];rfl)
    rw [hasPrefix_one]
    simpa using hb
 exact (Tryz.strings_CutPrefix _ _ w).mono fun _ _ ⟨he,hw⟩=>⟨by rw [he];simp [Lib.trimPrefix,hp],hw.symm⟩
theorem close_any (b:Nat) (r:RS) (c:UInt8) (w:World) (h:RdAt w b r) :
 Calls Tryz.prog 102 #[.pointer (some ⟨b,0,none⟩),.string ⟨#[c]⟩] w fun e w'=>e=.returned (.tuple #[])/\RdAt w' b (closeF c r)/\Upd (· = b) w w':=by
 obtain ⟨c0,c1,hf⟩:=cells2 h
 have HR:=hid h
 obtain ⟨l,bad⟩:=r
 dsimp only at *
 clear h
 by_cases hh:∃ t,l=c::t
 · obtain ⟨t,rfl⟩:=hh
   have hc:=hid (show closeF c ⟨c::t,bad⟩=⟨t,bad⟩ by unfold closeF;dsimp only;rw [if_pos rfl])
   have hs:=hid (store0 (x:=.string ⟨t.toArray⟩) HR.out)
   go_enter Tryz.func102,Tryz.ntmps102
   go_wp2_with fail
   refine (cut_yes t c _).mono ?_
   rintro e w' ⟨rfl,rfl⟩
   go_wp2_with fail
   go_end0
   exact ⟨rfl,by rw [hc.out];exact hs.out,(Upd.refl _ _).at_ _ _⟩
 · have hc:=hid (show closeF c ⟨l,bad⟩=failS by
    unfold closeF;dsimp only
    cases l with
    | nil=>rfl
    | cons x t=>dsimp only;rw [if_neg fun e=>hh ⟨t,by rw [e]⟩])
   have hn:=hid (show l.head?≠some c from fun e=>by
    cases l with
    | nil=>cases e
    | cons x t=>injection e with e;exact hh ⟨t,by rw [e]⟩)
   have hs:=hid (store0 (x:=.string ⟨l.toArray⟩) HR.out)
   clear hh
   go_enter Tryz.func102,Tryz.ntmps102
   go_wp2_with fail
   refine (cut_no l c hn.out _).mono ?_
   rintro e w' ⟨rfl,rfl⟩
   go_wp2_with fail
   refine (fail_any b ⟨l,bad⟩ _ hs.out).mono ?_
   rintro e w' ⟨rfl,hr,u⟩
   have HF:=hid hr;have U:=hid u
   clear hr u
   go_wp2_with fail
   go_end0
   exact ⟨rfl,by rw [hc.out];exact HF.out,((Upd.refl _ _).at_ _ _).trans U.out⟩
theorem index_any (l:List UInt8) (e:UInt8) (w:World) :
 Calls Tryz.prog 169 #[.string ⟨l.toArray⟩,.int .u8 e.toNat] w fun e' w'=>e'=.returned (.int .i64 (Lib.indexByte l e))/\w=w' :=
 (Tryz.strings_IndexByte _ _ w).mono fun _ _ ⟨he,hw⟩=>⟨by rw [he];simp,hw.symm⟩
theorem index_le (l:List UInt8) (e:UInt8):Lib.indexByte l e<l.length\/Lib.indexByte l e=-1:=by
 by_cases h:0<=Lib.indexByte l e
 · obtain ⟨p,t,hp,_,hi⟩:=index_some h
   left;rw [hi,hp];simp;omega
 · right
   have:=Lib.indexByte_ge l e
   omega
def AtoiPost (l:List UInt8) (w:World) (e:Ending) (w':World):Prop :=
 (∃ n,Lib.atoiAll l=.ok n/\e=.returned (.tuple #[.int .i64 n,.nilIface])/\Upd (fun _=>False) w w') ∨
 (∃ n g,(∀ m,Lib.atoiAll l≠.ok m)/\e=.returned (.tuple #[.int .i64 n,.iface 285 (.pointer (some ⟨g,0,none⟩))])/\Upd (fun _=>False) w w')
theorem atoi_any (l:List UInt8) (hl:l.length<=10000000) (w:World) (E:Env w):Calls Tryz.prog 170 #[.string ⟨l.toArray⟩] w (AtoiPost l w):=by
 have hs:(ByteArray.mk l.toArray).size<=10000000:=by simpa [ByteArray.size] using hl
 have hd:(ByteArray.mk l.toArray).data.toList=l:=by simp
 cases h:Lib.atoiAll l with
 | ok n =>
   refine (Tryz.strconv_Atoi_ok _ (by omega) n (by rw [hd];exact h) w).mono fun e w' ⟨he,hw⟩=>.inl ⟨n,h,he,?_⟩
   rcases hw with rfl | ⟨t,rfl⟩
   · exact Upd.refl _ _
   · exact upd_of_below (Lib.bytesWorld_below _ _ _)
 | range =>
   obtain ⟨tp,p,hv⟩:=E.rng
   exact (Tryz.strconv_Atoi_range_var _ (by omega) (by rw [hd];exact h) tp p w hv).mono fun e w' ⟨N,he,_,_,hb⟩=>.inr ⟨_,N,(fun m e=>by rw [h] at e;cases e),he,upd_of_below hb⟩
 | _ =>
   obtain ⟨tp,p,hv⟩:=E.syn
   exact (Tryz.strconv_Atoi_syntax_var _ (by omega) (by rw [hd];exact h) tp p w hv).mono fun e w' ⟨N,he,_,_,hb⟩=>.inr ⟨_,N,(fun m e=>by rw [h] at e;cases e),he,upd_of_below hb⟩
theorem ext_take (l:List UInt8) (k:Nat):(ByteArray.mk l.toArray).extract 0 k=⟨(l.take k).toArray⟩:=by
 apply ByteArray.ext
 simp [ByteArray.data_extract]
theorem ext_drop (l:List UInt8) (k n:Nat) (h:l.length<=n):(ByteArray.mk l.toArray).extract k n=⟨(l.drop k).toArray⟩:=by
 apply ByteArray.ext
 simp [ByteArray.data_extract]
 rw [List.take_of_length_le (by simp;omega)]
theorem head21 (l:List UInt8):(ByteArray.mk l.toArray).extract 0 (min (l.length:Int) 21).toNat=⟨(l.take 21).toArray⟩:=by
 rw [ext_take]
 congr 2
 rw [show (min (l.length:Int) 21).toNat=min 21 l.length by omega]
 exact (List.take_eq_take_min).symm
theorem number_any (b:Nat) (r:RS) (e:UInt8) (least:Int) (w:World) (E:Env w) (h:RdAt w b r) (_:6<=b) (hl:r.rest.length<=10000000) (hm:I64 least) :
 Calls Tryz.prog 100 #[.pointer (some ⟨b,0,none⟩),.int .u8 e.toNat,.int .i64 least] w fun en w'=>en=.returned (.int .i64 (numberF e least r).1)/\RdAt w' b (numberF e least r).2/\Upd (· = b) w w':=by
 obtain ⟨c0,c1,hf⟩:=cells2 h
 have HR:=hid h;have HE:=hid E;have HM:=hid hm
 obtain ⟨l,bad⟩:=r
 dsimp only at *
 clear h E hm
 have hle:=index_le (l.take 21) e
 rw [List.length_take] at hle
 generalize hat:Lib.indexByte (l.take 21) e=at_ at *
 have HAT:=hid hat
 clear hat
 by_cases h0:at_<0
 · have hn:=hid (show numRd e least l=none by unfold numRd;rw [HAT.out,if_pos h0])
   have hF:=hid (show numberF e least ⟨l,bad⟩=(0,failS) by unfold numberF;dsimp only;rw [hn.out])
   go_enter Tryz.func100,Tryz.ntmps100
   go_wp2_with fail
   go_quiet (fail)
   rw [head21]
   go_wp2_with fail
   refine (index_any (l.take 21) e _).mono ?_
   rintro e1 w1 ⟨rfl,hw1⟩
   rw [HAT.out]
   subst hw1
   go_wp2_with fail
   refine (fail_any b ⟨l,bad⟩ _ (HR.out.upd (S:=fun _=>False) ((Upd.refl _ _).drewN _) id)).mono ?_
   rintro e1 w2 ⟨rfl,hr,u⟩
   have HF:=hid hr;have U:=hid (((Upd.refl _ _).drewN _).trans u)
   clear hr u
   go_wp2_with fail
   go_ret
   exact ⟨by rw [hF.out];rfl,by rw [hF.out];exact HF.out,U.out⟩
 · obtain ⟨k,rfl⟩:=Int.eq_ofNat_of_zero_le (show 0<=at_ by omega)
   have hk:k<l.length/\k<21:=by omega
   have hki:(k:Int)<=(l.take 21).length:=by rw [List.length_take];omega
   have hki2:(k:Int)<l.length:=by omega
   have e2:((l.take 21).take k)=l.take k:=by rw [List.take_take,Nat.min_eq_left (by omega)]
   have E2:=hid e2
   have hpl:(l.take k).length<=10000000:=by rw [List.length_take];omega
   clear hle e2
   go_enter Tryz.func100,Tryz.ntmps100
   go_wp2_with fail
   go_quiet (fail)
   rw [head21]
   go_wp2_with fail
   refine (index_any (l.take 21) e _).mono ?_
   rintro e1 w1 ⟨rfl,hw1⟩
   rw [HAT.out]
   subst hw1
   have hx:(ByteArray.mk (l.take 21).toArray).extract 0 k=⟨(l.take k).toArray⟩:=by rw [ext_take,E2.out]
   have hkk:k<=(l.take 21).length:=by rw [List.length_take];omega
   clear E2
   have hrd:numRd e least l=(match Lib.atoiAll (l.take k) with
    | .ok n=>if Lib.itoa n=l.take k/\least<=n then some (n,l.drop (k+1)) else none
    | _=>none):=by unfold numRd;rw [HAT.out,if_neg (by omega),Int.toNat_natCast];rfl
   have HRD:=hid hrd
   clear hrd
   generalize l.take 21=hd at *
   go_wp2_with fail
   refine (atoi_any (l.take k) hpl _ (HE.out.keep0 ((Upd.refl _ _).drewN _))).mono ?_
   rintro e1 w2 (⟨n,hn,rfl,u⟩ | ⟨n,g,hn,rfl,u⟩)
   · have hni:=atoi_i64 hn
     have hrd:=HRD.out
     rw [hn] at hrd
     dsimp only at hrd
     have HRD:=hid hrd;have U:=hid (((Upd.refl _ _).drewN _).trans u);have HNI:=hid hni
     clear hn u hni hrd
     go_upto_region 7 with (fail)
     obtain ⟨bx,HBX⟩:∃ bx:Bool,Hid (bx=true↔¬(Lib.itoa n=l.take k/\least<=n)):=⟨decide (¬(Lib.itoa n=l.take k/\least<=n)),hid decide_eq_true_iff⟩
     go_cut [50] (fun s wx=>s=.bool bx/\Upd (fun _=>False) w2 wx)
     case first =>
      by_cases hq:Lib.itoa n=l.take k
      · have hqb:(Lib.itoa n==l.take k)=true:=beq_iff_eq.2 hq
        by_cases hl2:n<least
        · obtain rfl:bx=true:=HBX.out.2 fun h=>by have:=h.2;omega
          clear hq
          go_region_held3 (fun _=>True) (trivial) ((go_at_call 168;refine (itoa_any n HNI.out _ (HE.out.keep0 (U.out.drew))).mono ?_;rintro e w3 ⟨rfl,u3⟩;have U3:=hid u3;clear u3))
          all_goals
           go_wp2_with fail
           go_meet
           case rel=>exact ⟨rfl,((Upd.refl _ _).drew).trans U3.out⟩
        · obtain rfl:bx=false:=Bool.eq_false_iff.2 fun h=>HBX.out.1 h ⟨hq,by omega⟩
          clear hq
          have hl3:decide (n<least)=false:=decide_eq_false hl2
          go_region_held3 (fun _=>True) (trivial) ((go_at_call 168;refine (itoa_any n HNI.out _ (HE.out.keep0 (U.out.drew))).mono ?_;rintro e w3 ⟨rfl,u3⟩;have U3:=hid u3;clear u3))
          all_goals
           go_wp2_with fail
           go_meet
           case rel=>exact ⟨rfl,((Upd.refl _ _).drew).trans U3.out⟩
      · have hqb:(Lib.itoa n==l.take k)=false:=beq_eq_false_iff_ne.2 hq
        obtain rfl:bx=true:=HBX.out.2 fun h=>hq h.1
        clear hq
        first | (go_region_with (go_at_call 168;refine (itoa_any n HNI.out _ (HE.out.keep0 (U.out.drew))).mono ?_;rintro e w3 ⟨rfl,u3⟩;have U3:=hid u3;clear u3)) | fail
        all_goals
         go_wp2_with fail
         go_meet
         case rel=>exact ⟨rfl,((Upd.refl _ _).drew).trans U3.out⟩
     case rest =>
      obtain ⟨rfl,uc⟩:=hcut
      have UC:=hid (U.out.trans uc)
      have HRC:=hid (HR.out.upd UC.out id)
      obtain ⟨d0,d1,df⟩:=cells2 HRC.out
      clear uc c0 c1 hf
      cases bx
      · have hgood:Lib.itoa n=l.take k/\least<=n:=Decidable.not_not.1 fun h=>by have:=HBX.out.2 h;cases this
        have hF:numberF e least ⟨l,bad⟩=(n,⟨l.drop (k+1),bad⟩):=by unfold numberF;dsimp only;rw [HRD.out,if_pos hgood]
        have HF:=hid hF
        have hs:=hid (store0 (x:=.string ⟨(l.drop (k+1)).toArray⟩) HRC.out)
        have hy:(ByteArray.mk l.toArray).extract (k+1) l.length=⟨(l.drop (k+1)).toArray⟩:=ext_drop _ _ _ (Nat.le_refl _)
        have hk1:(k:Int)+1<=l.length:=by omega
        clear hgood hF
        go_wp2_with fail
        go_ret
        exact ⟨by rw [HF.out];rfl,by rw [HF.out];exact hs.out,(UC.out.mono fun _ h=>h.elim).at_ _ _⟩
      · have hbad:¬(Lib.itoa n=l.take k/\least<=n):=HBX.out.1 rfl
        have hF:numberF e least ⟨l,bad⟩=(0,failS):=by unfold numberF;dsimp only;rw [HRD.out,if_neg hbad]
        have HF:=hid hF
        clear hbad hF
        go_wp2_with fail
        refine (fail_any b ⟨l,bad⟩ _ HRC.out).mono ?_
        rintro e1 w4 ⟨rfl,hr,u⟩
        have HQ:=hid hr;have UF:=hid ((UC.out.mono fun _ h=>h.elim).trans u)
        clear hr u
        go_wp2_with fail
        go_ret
        exact ⟨by rw [HF.out];rfl,by rw [HF.out];exact HQ.out,UF.out⟩
   · have hF:numberF e least ⟨l,bad⟩=(0,failS):=by
      unfold numberF;dsimp only;rw [HRD.out]
      cases h:Lib.atoiAll (l.take k) with
      | ok m=>exact absurd h (hn m)
      | _=>rfl
     have HF:=hid hF;have U:=hid (((Upd.refl _ _).drewN _).trans u)
     clear hF hn u
     have HRC:=hid (HR.out.upd U.out id)
     go_wp2_with fail
     go_quiet (fail)
     go_wp2_with fail
     refine (fail_any b ⟨l,bad⟩ _ (HRC.out.upd (S:=fun _=>False) ((Upd.refl _ _).drewN _) id)).mono ?_
     rintro e1 w4 ⟨rfl,hr,u⟩
     have HQ:=hid hr;have UF:=hid ((((U.out.drewN _).mono fun _ h=>h.elim)).trans u)
     clear hr u
     go_wp2_with fail
     go_ret
     exact ⟨by rw [HF.out];rfl,by rw [HF.out];exact HQ.out,UF.out⟩
end Go.Proofs.YtjkmalddfoemhaaGreatDoor
namespace Go.Proofs.YtjkmalddfoemhaaGreatDoor
open Go.RowKit Go.Deep
theorem number_at (b:Nat) (r:RS) (e:UInt8) (least c:Int) (w:World) (hc:(e.toNat:Int)=c) (E:Env w) (h:RdAt w b r) (hb:6<=b) (hl:r.rest.length<=10000000) (hm:I64 least) :
 Calls Tryz.prog 100 #[.pointer (some ⟨b,0,none⟩),.int .u8 c,.int .i64 least] w fun en w'=>en=.returned (.int .i64 (numberF e least r).1)/\RdAt w' b (numberF e least r).2/\Upd (· = b) w w':=by
 subst hc;exact number_any b r e least w E h hb hl hm
theorem numberF_ge (e:UInt8) (r:RS):0<=(numberF e 0 r).1:=by
 rcases numberF_cases e 0 r with ⟨n,t,_,h2,_,_,h3⟩ | ⟨_,h2⟩
 · rw [h2];exact h3
 · rw [h2];exact Int.le_refl 0
theorem intR_any (b:Nat) (r:RS) (w:World) (E:Env w) (h:RdAt w b r) (hb:6<=b) (hl:r.rest.length<=10000000) :
 Calls Tryz.prog 189 #[.pointer (some ⟨b,0,none⟩)] w fun e w'=>e=.returned (.int .i64 (intF r).1)/\RdAt w' b (intF r).2/\Upd (· = b) w w':=by
 have HR:=hid h;have HE:=hid E
 clear h E
 go_enter Tryz.func189,Tryz.ntmps189
 go_wp2_with fail
 refine (number_at b r 59 minI 59 _ (by decide) HE.out HR.out hb hl (by unfold I64 minI;omega)).mono ?_
 rintro e w1 ⟨rfl,hr,u⟩
 have HQ:=hid hr;have U:=hid u
 clear hr u
 go_wp2_with fail
 go_ret
 exact ⟨rfl,HQ.out,U.out⟩
theorem numR_any (b:Nat) (r:RS) (w:World) (E:Env w) (h:RdAt w b r) (hb:6<=b) (hl:r.rest.length<=10000000) :
 Calls Tryz.prog 29 #[.pointer (some ⟨b,0,none⟩)] w fun e w'=>e=.returned (.int .i64 (numF r).1)/\RdAt w' b (numF r).2/\Upd (· = b) w w':=by
 have HR:=hid h;have HE:=hid E
 clear h E
 go_enter Tryz.func29,Tryz.ntmps29
 go_wp2_with fail
 refine (number_at b r 59 0 59 _ (by decide) HE.out HR.out hb hl (by unfold I64;omega)).mono ?_
 rintro e w1 ⟨rfl,hr,u⟩
 have HQ:=hid hr;have U:=hid u
 clear hr u
 go_wp2_with fail
 go_ret
 exact ⟨rfl,HQ.out,U.out⟩
theorem textR_any (b:Nat) (r:RS) (w:World) (E:Env w) (h:RdAt w b r) (hb:6<=b) (hl:r.rest.length<=10000000) :
 Calls Tryz.prog 30 #[.pointer (some ⟨b,0,none⟩)] w fun e w'=>e=.returned (.string ⟨(textF r).1.toArray⟩)/\RdAt w' b (textF r).2/\Upd (· = b) w w':=by
 have HR:=hid h;have HE:=hid E
 have htf:=hid (show textF r=_ from rfl)
 have hge:=numberF_ge 58 r
 have hlen:=numberF_len 58 0 r
 have hi:=hid (numberF_i64 58 0 r)
 clear h E
 go_enter Tryz.func30,Tryz.ntmps30
 go_wp2_with fail
 refine (number_at b r 58 0 58 _ (by decide) HE.out HR.out hb hl (by unfold I64;omega)).mono ?_
 rintro e w1 ⟨rfl,hr,u⟩
 have HQ:=hid hr;have U:=hid u
 clear hr u
 have hT:textF r=(if (((numberF 58 0 r).2.rest.length:Nat):Int)<(numberF 58 0 r).1 then ([],failS)
  else if (closeF 44 ⟨(numberF 58 0 r).2.rest.drop (numberF 58 0 r).1.toNat,(numberF 58 0 r).2.bad⟩).bad then ([],closeF 44 ⟨(numberF 58 0 r).2.rest.drop (numberF 58 0 r).1.toNat,(numberF 58 0 r).2.bad⟩)
  else ((numberF 58 0 r).2.rest.take (numberF 58 0 r).1.toNat,closeF 44 ⟨(numberF 58 0 r).2.rest.drop (numberF 58 0 r).1.toNat,(numberF 58 0 r).2.bad⟩)):=rfl
 have HT:=hid hT
 clear hT htf
 generalize (numberF 58 0 r).1=n at *
 generalize (numberF 58 0 r).2=r1 at *
 obtain ⟨l,bad⟩:=r1
 dsimp only at *
 obtain ⟨c0,c1,hf⟩:=cells2 HQ.out
 obtain ⟨k,rfl⟩:=Int.eq_ofNat_of_zero_le hge
 by_cases hlt:l.length<k
 · have HF:=hid (show textF r=([],failS) by rw [HT.out,if_pos (by omega)])
   have hki:(l.length:Int)<k:=by omega
   go_wp2_with fail
   refine (fail_any b _ _ HQ.out).mono ?_
   rintro e w2 ⟨rfl,hr,u⟩
   have HQ2:=hid hr;have U2:=hid (U.out.trans u)
   clear hr u
   go_wp2_with fail
   go_ret
   exact ⟨by rw [HF.out];rfl,by rw [HF.out];exact HQ2.out,U2.out⟩
 · have hT:=HT.out
   rw [if_neg (by omega),Int.toNat_natCast] at hT
   have HT2:=hid hT
   have hki:(k:Int)<=l.length:=by omega
   have hx1:(ByteArray.mk l.toArray).extract 0 k=⟨(l.take k).toArray⟩:=ext_take l k
   have hx2:(ByteArray.mk l.toArray).extract k l.length=⟨(l.drop k).toArray⟩:=ext_drop l k _ (Nat.le_refl _)
   have hs:=hid (store0 (x:=.string ⟨(l.drop k).toArray⟩) HQ.out)
   clear hT HT
   go_wp2_with fail
   refine (close_any b ⟨l.drop k,bad⟩ 44 _ hs.out).mono ?_
   rintro e w2 ⟨rfl,hr,u⟩
   have U2:=hid ((U.out.at_ _ _).trans u);have HQ2:=hid hr
   clear hr u c0 c1 hf
   obtain ⟨c0,c1,hf⟩:=cells2 HQ2.out
   cases hb2:(closeF 44 ⟨l.drop k,bad⟩).bad with
   | true =>
     have hT:=HT2.out
     rw [hb2,if_pos rfl] at hT
     have HF:=hid hT
     rw [hb2] at c1
     clear hT hb2
     go_wp2_with fail
     go_ret
     exact ⟨by rw [HF.out];rfl,by rw [HF.out];exact HQ2.out,U2.out⟩
   | false =>
     have hT:=HT2.out
     rw [hb2,if_neg (by decide)] at hT
     have HF:=hid hT
     rw [hb2] at c1
     clear hT hb2
     go_wp2_with fail
     go_ret
     exact ⟨by rw [HF.out];rfl,by rw [HF.out];exact HQ2.out,U2.out⟩
theorem left_any (b:Nat) (r:RS) (w:World) (h:RdAt w b r) :
 Calls Tryz.prog 96 #[.pointer (some ⟨b,0,none⟩)] w fun e w'=>e=.returned (.int .i64 r.rest.length)/\w=w':=by
 obtain ⟨c0,c1,hf⟩:=cells2 h
 clear h
 go_enter Tryz.func96,Tryz.ntmps96
 go_wp2_with fail
 go_ret
 exact ⟨rfl,rfl⟩
def doneF (r:RS):Bool:=!r.bad && r.rest.isEmpty
theorem done_any (b:Nat) (r:RS) (w:World) (h:RdAt w b r) :
 Calls Tryz.prog 32 #[.pointer (some ⟨b,0,none⟩)] w fun e w'=>e=.returned (.bool (doneF r))/\w=w':=by
 obtain ⟨c0,c1,hf⟩:=cells2 h
 clear h
 obtain ⟨l,bad⟩:=r
 dsimp only at *
 cases bad
 · go_enter Tryz.func32,Tryz.ntmps32
   go_wp2_with fail
   go_ret
   exact ⟨by unfold doneF;cases l<;>rfl,rfl⟩
 · go_enter Tryz.func32,Tryz.ntmps32
   go_wp2_with fail
   go_ret
   exact ⟨rfl,rfl⟩
end Go.Proofs.YtjkmalddfoemhaaGreatDoor
namespace Go.Proofs.YtjkmalddfoemhaaGreatDoor
open Go.RowKit Go.Deep
theorem elemI:ElemTy Tryz.prog 30 3 1 8:=.mk' Tryz.underlying30 (z:=.int .i64 0) (by kernel_rfl) (by rfl) (by decide)
theorem owns_set {P:Nat->Prop} {w w':World} {base:Nat} {e:TypeId} {v:Value} {n:Nat} {xs:List Value} (h:w.ownsRow base e 1 v n xs) (u:Upd P w w') (hP:∀ k,P k->k<base):w'.ownsRow base e 1 v n xs :=
 ownsRow_upd h u fun g hg hp=>by have:=(h.lt g hg).1;have:=hP g hp;omega
theorem intF_vok (r:RS) (_:r.rest.length<=10000000):I64 (intF r).1:=numberF_i64 _ _ _
theorem intF_len (r:RS):(intF r).2.rest.length<=r.rest.length-1:=numberF_len _ _ _
theorem intF_nil (r:RS) (h:r.rest=[]):(intF r).2.bad=true:=by
 unfold intF numberF
 rw [h,numRd_nil];rfl
theorem intRep {A:Nat->Prop} {w:World} (x:Int) (h:I64 x):(kInt .i64).rep A w [.int .i64 x] x:=⟨rfl,iwf h⟩
def ItemsIntPost (b:Nat) (r:RS) (w:World) (e:Ending) (w':World):Prop :=
 ∃ a n c,e=.returned (.slice a n c)/\kInts.rep (fun g=>w.heap.size<=g/\g<w'.heap.size) w' [.slice a n c] (itemsF intF r).1/\RdAt w' b (itemsF intF r).2/\Upd (· = b) w w'
theorem itemsInt_fin {b:Nat} {r:RS} {w w':World} {v:Value} {out:List Int} (_:(itemsF intF r).2.bad=false) (ho:(itemsF intF r).1=out) (h:w'.ownsRow w.heap.size 3 1 v out.length (out.map fun x=>.int .i64 x)) (hw:∀ x∈out,I64 x) (hr:RdAt w' b (itemsF intF r).2) (u:Upd (· = b) w w'):ItemsIntPost b r w (.returned v) w':=by
 have hrep:=ownsRow_rep1 (K:=(kInt .i64)) (A:=fun g=>w.heap.size<=g/\g<w'.heap.size) rfl (fun x=>.int .i64 x) h (fun x hx=>intRep x (hw x hx)) fun g hg=>h.lt g hg
 obtain ⟨a,c,e,_⟩:=slice_open hrep
 subst e
 exact ⟨_,_,_,rfl,by rw [ho];exact hrep,hr,u⟩
theorem itemsInt_nil {b:Nat} {r:RS} {w w':World} (ho:(itemsF intF r).1=[]) (hr:RdAt w' b (itemsF intF r).2) (u:Upd (· = b) w w'):ItemsIntPost b r w (.returned (.slice none 0 0)) w' :=
 ⟨_,_,_,rfl,by rw [ho];exact .inl ⟨none,0,rfl,Nat.zero_le _,rfl⟩,hr,u⟩
theorem itemsInt_any (b:Nat) (r:RS) (w:World) (E:Env w) (h:RdAt w b r) (hb:6<=b) (hl:r.rest.length<=10000000) (hok:r.Ok) :
 Calls Tryz.prog 245 #[.pointer (some ⟨b,0,none⟩),.func (.func 189) #[.pointer (some ⟨b,0,none⟩)] #[]] w (ItemsIntPost b r w):=by
 have HR:=hid h;have HE:=hid E
 have hge:=numberF_ge 91 r
 have hlen:=numberF_len 91 0 r
 have hi:=numberF_i64 91 0 r
 have HO:=hid (numberF_ok 91 0 hok)
 have hbl:=heap_lt h
 have HIF:=hid (show itemsF intF r=(if (closeF 93 (itemsL intF (numberF 91 0 r).1.toNat (numberF 91 0 r).2 []).2).bad then ([],closeF 93 (itemsL intF (numberF 91 0 r).1.toNat (numberF 91 0 r).2 []).2)
  else ((itemsL intF (numberF 91 0 r).1.toNat (numberF 91 0 r).2 []).1,closeF 93 (itemsL intF (numberF 91 0 r).1.toNat (numberF 91 0 r).2 []).2)) from rfl)
 have eg:∀ args w,(callFunc 189 args).run Tryz.prog w=.ok (.enter 189 args) w:=enters_of Tryz.func189 (by kernel_rfl) rfl
 clear h E hok
 go_enter Tryz.func245,Tryz.ntmps245
 go_wp2_with fail
 refine (number_at b r 91 0 91 _ (by decide) HE.out HR.out hb hl (by unfold I64;omega)).mono ?_
 rintro e w1 ⟨rfl,hr,u⟩
 have HQ:=hid hr;have U:=hid u
 clear hr u
 generalize (numberF 91 0 r).1=n at *
 generalize (numberF 91 0 r).2=r1 at *
 obtain ⟨n0,rfl⟩:=Int.eq_ofNat_of_zero_le hge
 rw [Int.toNat_natCast] at HIF
 have hn9:(n0:Int)<=9223372036854775807:=hi.2
 have HN9:=hid hn9
 clear hi hn9
 have HBL:=hid hbl;clear hbl
 go_wp2_with fail
 go_loopg [5,6] n0 (fun gg s5 s6 wr=>∃ (m:Nat) (rc:RS) (out:List Int),gg=m/\m<=n0/\s6=.int .i64 m/\RdAt wr b rc/\wr.ownsRow w.heap.size 3 1 s5 out.length (out.map fun x=>.int .i64 x)/\itemsL intF m rc out=itemsL intF n0 r1 []/\rc.Ok/\(rc.rest.length<=10000000/\out.length+rc.rest.length<=10000001/\(rc.bad=false->out.length+rc.rest.length<=10000000))/\(∀ x∈out,I64 x)/\Upd (· = b) w wr)
 case atStart=>exact ⟨n0,r1,[],rfl,Nat.le_refl _,rfl,HQ.out,World.ownsRow_nil _ _ _ _,rfl,HO.out,⟨by omega,by simp;omega,fun _=>by simp;omega⟩,fun x hx=>(List.not_mem_nil hx).elim,U.out⟩
 case round =>
  clear HQ U HO
  obtain ⟨m,rc,out,hg,hm,rfl,hr,hown,htot,hok,hbd,hwf,u⟩:=hrel
  have HG:=hid hg;have HRC:=hid hr;have OWN:=hid hown;have TOT:=hid htot;have OK:=hid hok;have BD:=hid hbd;have WF:=hid hwf;have U:=hid u
  have hm9:(m:Int)<=9223372036854775807:=by have:=HN9.out;omega
  obtain ⟨c0,c1,hf⟩:=cells2 hr
  clear hg hr hown htot hok hbd hwf u
  have stop:itemsL intF m rc out=(out,rc)->itemsF intF r=(if (closeF 93 rc).bad then ([],closeF 93 rc) else (out,closeF 93 rc)):=fun h=>by
   rw [HIF.out,<-TOT.out,h]
  have STOP:=hid stop
  clear stop
  by_cases hgo:0<m/\rc.bad=false
  · obtain ⟨m',rfl⟩:∃ m',m=m'+1:=⟨m-1,by omega⟩
    have hb2:=hgo.2
    have hstep:itemsL intF (m'+1) rc out=itemsL intF m' (intF rc).2 (out++[(intF rc).1]):=by rw [itemsL,if_neg (by rw [hb2];decide)]
    have HSTEP:=hid (hstep.symm.trans TOT.out)
    rw [hb2] at c1
    have hmi:(0:Int)<((m'+1:Nat):Int):=by omega
    have hb3:=BD.out.2.2 hb2
    have e1:(((m'+1:Nat):Int)-1)=m':=by omega
    have hl1:=BD.out.1
    have olen:=intF_len rc
    have ovok:=intF_vok rc hl1
    have oent:=fun h=>intF_nil rc h
    have HB3:=hid hb3;have HL1:=hid hl1;have OLEN:=hid olen;have OVOK:=hid ovok;have OENT:=hid oent
    clear hgo hb2 hstep hb3 hl1 olen ovok oent
    go_wp2_with fail
    refine (intR_any b rc _ (HE.out.keep U.out fun k hk=>by omega) HRC.out hb HL1.out).mono ?_
    rintro e w3 ⟨rfl,hr,u⟩
    have own3:=owns_set OWN.out u fun k hk=>by have:=HBL.out;omega
    have U3:=hid (U.out.trans u);have HR3:=hid hr
    have hsz:=(U.out.trans u).size
    obtain ⟨v',w4,r4,o4,u4,n4⟩:=append_one elemI own3 #[.int .i64 (intF rc).1] rfl (by simp [Value.oneCell']) (by have:=HB3.out;unfold maxLen;omega) (by have:=HB3.out;omega) hsz 30 (0,0)
    have U4:=hid (U3.out.comp u4 fun i hi e=>by have:=(own3.lt i e).1;omega)
    have HR4:=hid (HR3.out.upd u4 fun e=>by have:=(own3.lt b e).1;have:=HBL.out;omega)
    have O4:=hid o4
    clear hr u own3 hsz o4 u4 n4 c0 c1 hf
    go_wp2_with (at_builtin;refine wpList_append_run rfl _ _ _ _ rfl rfl rfl r4 ?_)
    go_roundg m'
    case measure=>have:=HG.out;omega
    case rel =>
     refine ⟨m',(intF rc).2,out++[(intF rc).1],rfl,by omega,by go_num,HR4.out,by rw [List.length_append,List.map_append];exact O4.out,HSTEP.out,intF_ok OK.out,⟨by have:=OLEN.out;have:=HL1.out;omega,?_,?_⟩,?_,U4.out⟩
     · have:=OLEN.out;have:=HB3.out
       rw [List.length_append,List.length_singleton];omega
     · intro hg2
       have:=OLEN.out;have:=HB3.out
       have hne:rc.rest≠[]:=fun h=>by have:=OENT.out h;rw [hg2] at this;cases this
       have:=List.length_pos_iff.2 hne
       rw [List.length_append,List.length_singleton];omega
     · intro x hx
       rcases List.mem_append.1 hx with hx | hx
       · exact WF.out x hx
       · rw [List.mem_singleton] at hx;subst hx;exact OVOK.out
  · have hst:itemsL intF m rc out=(out,rc):=by
     cases m with
     | zero=>rfl
     | succ m =>
       have:rc.bad=true:=by
        cases hx:rc.bad
        · exact absurd ⟨Nat.succ_pos m,hx⟩ hgo
        · rfl
       exact itemsL_snoc intF _ _ _ this
    have HF:=hid (STOP.out hst)
    clear hst STOP
    by_cases hm0:0<m
    · have hbt:rc.bad=true:=by
       cases hx:rc.bad
       · exact absurd ⟨hm0,hx⟩ hgo
       · rfl
      rw [hbt] at c1
      have hmi:(0:Int)<(m:Int):=by omega
      clear hgo hbt hm0
      go_wp2_with fail
      clear c0 c1 hf
      refine (close_any b rc 93 _ HRC.out).mono ?_
      rintro e w2 ⟨rfl,hr,u⟩
      have O2:=hid (owns_set OWN.out u fun k hk=>by have:=HBL.out;omega);have HR2:=hid hr;have U2:=hid (U.out.trans u)
      clear hr u
      obtain ⟨c0,c1,hf⟩:=cells2 HR2.out
      cases hb2:(closeF 93 rc).bad with
      | true =>
        have hF:=HF.out
        rw [hb2,if_pos rfl] at hF
        have HF2:=hid hF
        rw [hb2] at c1
        clear hF hb2
        go_wp2_with fail
        go_ret
        exact itemsInt_nil (by rw [HF2.out]) (by rw [HF2.out];exact HR2.out) U2.out
      | false =>
        have hF:=HF.out
        rw [hb2,if_neg (by decide)] at hF
        have HF2:=hid hF
        have HB2:=hid hb2
        rw [hb2] at c1
        clear hF hb2
        go_wp2_with fail
        go_ret
        exact itemsInt_fin (by rw [HF2.out];exact HB2.out) (by rw [HF2.out]) O2.out WF.out (by rw [HF2.out];exact HR2.out) U2.out
    · obtain rfl:m=0:=by omega
      clear hgo hm0
      go_wp2_with fail
      clear c0 c1 hf
      refine (close_any b rc 93 _ HRC.out).mono ?_
      rintro e w2 ⟨rfl,hr,u⟩
      have O2:=hid (owns_set OWN.out u fun k hk=>by have:=HBL.out;omega);have HR2:=hid hr;have U2:=hid (U.out.trans u)
      clear hr u
      obtain ⟨c0,c1,hf⟩:=cells2 HR2.out
      cases hb2:(closeF 93 rc).bad with
      | true =>
        have hF:=HF.out
        rw [hb2,if_pos rfl] at hF
        have HF2:=hid hF
        rw [hb2] at c1
        clear hF hb2
        go_wp2_with fail
        go_ret
        exact itemsInt_nil (by rw [HF2.out]) (by rw [HF2.out];exact HR2.out) U2.out
      | false =>
        have hF:=HF.out
        rw [hb2,if_neg (by decide)] at hF
        have HF2:=hid hF
        have HB2:=hid hb2
        rw [hb2] at c1
        clear hF hb2
        go_wp2_with fail
        go_ret
        exact itemsInt_fin (by rw [HF2.out];exact HB2.out) (by rw [HF2.out]) O2.out WF.out (by rw [HF2.out];exact HR2.out) U2.out
theorem numsR_any (b:Nat) (r:RS) (w:World) (E:Env w) (h:RdAt w b r) (hb:6<=b) (hl:r.rest.length<=10000000) (hok:r.Ok) :
 Calls Tryz.prog 188 #[.pointer (some ⟨b,0,none⟩)] w (ItemsIntPost b r w):=by
 have HR:=hid h;have HE:=hid E;have HO:=hid hok
 clear h E hok
 go_enter Tryz.func188,Tryz.ntmps188
 go_wp2_with fail
 refine (itemsInt_any b r _ HE.out HR.out hb hl HO.out).mono ?_
 rintro e w1 ⟨a,n,c,rfl,h1,h2,h3⟩
 have HH:=hid (show ItemsIntPost b r w (.returned (.slice a n c)) w1 from ⟨a,n,c,rfl,h1,h2,h3⟩)
 clear h1 h2 h3
 go_wp2_with fail
 go_ret
 exact HH.out
end Go.Proofs.YtjkmalddfoemhaaGreatDoor
