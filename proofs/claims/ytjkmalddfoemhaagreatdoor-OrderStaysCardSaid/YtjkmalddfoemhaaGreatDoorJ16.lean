/- Walks: the reference's spare. -/
import Derived.Test.YtjkmalddfoemhaaGreatDoorJ15
import Derived.Test.YtjkmalddfoemhaaGreatDoorJ5
set_option maxRecDepth 100000
set_option maxHeartbeats 40000000
namespace Go.Proofs.YtjkmalddfoemhaaGreatDoor
open Go.RowKit Go.Deep
theorem useF_set {k:Int} (h:0<=k/\k<21):useF k=[99]\/useF k=[99,107]\/useF k=[99,109]\/useF k=[99,110,109,114]\/useF k=[99,110,109,116]\/useF k=[99,116]\/useF k=[99,119,109,114,115]\/useF k=[99,119,110,109]\/useF k=[107,116]\/useF k=[110,109,114]\/useF k=[110,114]\/useF k=[114]\/useF k=[114,116]\/useF k=[119,109,115]\/useF k=[119,110]\/useF k=[119,115]:=by
 rcases kinds h with rfl | rfl | rfl | rfl | rfl | rfl | rfl | rfl | rfl | rfl | rfl | rfl | rfl | rfl | rfl | rfl | rfl | rfl | rfl | rfl | rfl<;>decide
theorem ne_f {x y:Int} (h:(x != y)=false):x=y:=by simpa using h
theorem ne_t {x y:Int} (h:(x != y)=true) (e:x=y):False:=by simp [e] at h
theorem len0 {α:Type} {l:List α} {n:Nat} (h:l.length=n) (h0:n=0):l=[]:=List.length_eq_zero_iff.1 (h.trans h0)
theorem len1 {α:Type} {l:List α} {n:Nat} (h:l.length=n) (h0:¬n=0) (e:l=[]):False:=h0 (by rw [<-h,e];rfl)
theorem txt0 {l:List UInt8} (h:(!l.isEmpty)=false):l=[]:=by simpa using h
theorem txt1 {l:List UInt8} (h:(!l.isEmpty)=true) (e:l=[]):False:=by simp [e] at h
theorem spare_c (e:En) (hk:0<=e.kind/\e.kind<21) (hs:useF e.kind=[99]) (a1 a2 a3:Option Addr) (c1 c2 c3:Nat) (w:World) :
 Calls Tryz.prog 231 #[enV e a1 a2 a3 c1 c2 c3] w fun en w'=>en=.returned (.bool (decide (plainP e)))/\Upd (fun _=>False) w w':=by
 have HS:=hid hs
 have PL:=hid (show plainP e↔(e.who=0/\e.n=0/\e.m=0/\e.ref=-1/\e.keys=[]/\e.spans=[]/\e.text=[]) by unfold plainP;rw [hs];simp)
 unfold enV
 obtain ⟨kl,hkl⟩:∃ x,e.keys.length=x:=⟨_,rfl⟩
 obtain ⟨sl,hsl⟩:∃ x,e.spans.length=x:=⟨_,rfl⟩
 have KL:=hid hkl;have SL:=hid hsl
 rw [hkl,hsl]
 clear hkl hsl
 go_enter Tryz.func231,Tryz.ntmps231
 go_wp2_with (first | (go_at_call 233;with_reducible refine (ruses_any e.kind hk _).mono ?_;rintro en w1 ⟨rfl,rfl⟩;rw [hs]) | (go_at_call 234;with_reducible refine (rin_any [99] 99 99 rfl (by decide) _).mono ?_;rintro en w1 ⟨rfl,rfl⟩;rw [show decide ((99:UInt8)∈([99]:List UInt8))=true from rfl]) | (go_at_call 234;with_reducible refine (rin_any [99] 119 119 rfl (by decide) _).mono ?_;rintro en w1 ⟨rfl,rfl⟩;rw [show decide ((119:UInt8)∈([99]:List UInt8))=false from rfl]) | (go_at_call 234;with_reducible refine (rin_any [99] 110 110 rfl (by decide) _).mono ?_;rintro en w1 ⟨rfl,rfl⟩;rw [show decide ((110:UInt8)∈([99]:List UInt8))=false from rfl]) | (go_at_call 234;with_reducible refine (rin_any [99] 109 109 rfl (by decide) _).mono ?_;rintro en w1 ⟨rfl,rfl⟩;rw [show decide ((109:UInt8)∈([99]:List UInt8))=false from rfl]) | (go_at_call 234;with_reducible refine (rin_any [99] 114 114 rfl (by decide) _).mono ?_;rintro en w1 ⟨rfl,rfl⟩;rw [show decide ((114:UInt8)∈([99]:List UInt8))=false from rfl]) | (go_at_call 234;with_reducible refine (rin_any [99] 107 107 rfl (by decide) _).mono ?_;rintro en w1 ⟨rfl,rfl⟩;rw [show decide ((107:UInt8)∈([99]:List UInt8))=false from rfl]) | (go_at_call 234;with_reducible refine (rin_any [99] 115 115 rfl (by decide) _).mono ?_;rintro en w1 ⟨rfl,rfl⟩;rw [show decide ((115:UInt8)∈([99]:List UInt8))=false from rfl]) | (go_at_call 234;with_reducible refine (rin_any [99] 116 116 rfl (by decide) _).mono ?_;rintro en w1 ⟨rfl,rfl⟩;rw [show decide ((116:UInt8)∈([99]:List UInt8))=false from rfl]))
 all_goals
  go_ret
  refine ⟨?_,(Upd.refl _ _).alloc _⟩
  first
   | exact ret_t (PL.out.2 ⟨(by first | assumption | exact ne_f (by assumption)),(by first | assumption | exact ne_f (by assumption)),(by first | assumption | exact ne_f (by assumption)),(by first | assumption | exact ne_f (by assumption)),len0 KL.out (by assumption),len0 SL.out (by assumption),txt0 (by assumption)⟩)
   | (refine ret_f fun hp=>?_
      obtain ⟨h0,h1,h2,h3,h4,h5,h6⟩:=PL.out.1 hp
      first | exact absurd h0 (by assumption) | exact ne_t (by assumption) h0 | exact absurd h1 (by assumption) | exact ne_t (by assumption) h1 | exact absurd h2 (by assumption) | exact ne_t (by assumption) h2 | exact absurd h3 (by assumption) | exact ne_t (by assumption) h3 | exact len1 KL.out (by assumption) h4 | exact len1 SL.out (by assumption) h5 | exact txt1 (by assumption) h6)
theorem spare_ck (e:En) (hk:0<=e.kind/\e.kind<21) (hs:useF e.kind=[99,107]) (a1 a2 a3:Option Addr) (c1 c2 c3:Nat) (w:World) :
 Calls Tryz.prog 231 #[enV e a1 a2 a3 c1 c2 c3] w fun en w'=>en=.returned (.bool (decide (plainP e)))/\Upd (fun _=>False) w w':=by
 have HS:=hid hs
 have PL:=hid (show plainP e↔(e.who=0/\e.n=0/\e.m=0/\e.ref=-1/\e.spans=[]/\e.text=[]) by unfold plainP;rw [hs];simp)
 unfold enV
 obtain ⟨kl,hkl⟩:∃ x,e.keys.length=x:=⟨_,rfl⟩
 obtain ⟨sl,hsl⟩:∃ x,e.spans.length=x:=⟨_,rfl⟩
 have KL:=hid hkl;have SL:=hid hsl
 rw [hkl,hsl]
 clear hkl hsl
 go_enter Tryz.func231,Tryz.ntmps231
 go_wp2_with (first | (go_at_call 233;with_reducible refine (ruses_any e.kind hk _).mono ?_;rintro en w1 ⟨rfl,rfl⟩;rw [hs]) | (go_at_call 234;with_reducible refine (rin_any [99,107] 99 99 rfl (by decide) _).mono ?_;rintro en w1 ⟨rfl,rfl⟩;rw [show decide ((99:UInt8)∈([99,107]:List UInt8))=true from rfl]) | (go_at_call 234;with_reducible refine (rin_any [99,107] 119 119 rfl (by decide) _).mono ?_;rintro en w1 ⟨rfl,rfl⟩;rw [show decide ((119:UInt8)∈([99,107]:List UInt8))=false from rfl]) | (go_at_call 234;with_reducible refine (rin_any [99,107] 110 110 rfl (by decide) _).mono ?_;rintro en w1 ⟨rfl,rfl⟩;rw [show decide ((110:UInt8)∈([99,107]:List UInt8))=false from rfl]) | (go_at_call 234;with_reducible refine (rin_any [99,107] 109 109 rfl (by decide) _).mono ?_;rintro en w1 ⟨rfl,rfl⟩;rw [show decide ((109:UInt8)∈([99,107]:List UInt8))=false from rfl]) | (go_at_call 234;with_reducible refine (rin_any [99,107] 114 114 rfl (by decide) _).mono ?_;rintro en w1 ⟨rfl,rfl⟩;rw [show decide ((114:UInt8)∈([99,107]:List UInt8))=false from rfl]) | (go_at_call 234;with_reducible refine (rin_any [99,107] 107 107 rfl (by decide) _).mono ?_;rintro en w1 ⟨rfl,rfl⟩;rw [show decide ((107:UInt8)∈([99,107]:List UInt8))=true from rfl]) | (go_at_call 234;with_reducible refine (rin_any [99,107] 115 115 rfl (by decide) _).mono ?_;rintro en w1 ⟨rfl,rfl⟩;rw [show decide ((115:UInt8)∈([99,107]:List UInt8))=false from rfl]) | (go_at_call 234;with_reducible refine (rin_any [99,107] 116 116 rfl (by decide) _).mono ?_;rintro en w1 ⟨rfl,rfl⟩;rw [show decide ((116:UInt8)∈([99,107]:List UInt8))=false from rfl]))
 all_goals
  go_ret
  refine ⟨?_,(Upd.refl _ _).alloc _⟩
  first
   | exact ret_t (PL.out.2 ⟨(by first | assumption | exact ne_f (by assumption)),(by first | assumption | exact ne_f (by assumption)),(by first | assumption | exact ne_f (by assumption)),(by first | assumption | exact ne_f (by assumption)),len0 SL.out (by assumption),txt0 (by assumption)⟩)
   | (refine ret_f fun hp=>?_
      obtain ⟨h0,h1,h2,h3,h4,h5⟩:=PL.out.1 hp
      first | exact absurd h0 (by assumption) | exact ne_t (by assumption) h0 | exact absurd h1 (by assumption) | exact ne_t (by assumption) h1 | exact absurd h2 (by assumption) | exact ne_t (by assumption) h2 | exact absurd h3 (by assumption) | exact ne_t (by assumption) h3 | exact len1 SL.out (by assumption) h4 | exact txt1 (by assumption) h5)
theorem spare_cm (e:En) (hk:0<=e.kind/\e.kind<21) (hs:useF e.kind=[99,109]) (a1 a2 a3:Option Addr) (c1 c2 c3:Nat) (w:World) :
 Calls Tryz.prog 231 #[enV e a1 a2 a3 c1 c2 c3] w fun en w'=>en=.returned (.bool (decide (plainP e)))/\Upd (fun _=>False) w w':=by
 have HS:=hid hs
 have PL:=hid (show plainP e↔(e.who=0/\e.n=0/\e.ref=-1/\e.keys=[]/\e.spans=[]/\e.text=[]) by unfold plainP;rw [hs];simp)
 unfold enV
 obtain ⟨kl,hkl⟩:∃ x,e.keys.length=x:=⟨_,rfl⟩
 obtain ⟨sl,hsl⟩:∃ x,e.spans.length=x:=⟨_,rfl⟩
 have KL:=hid hkl;have SL:=hid hsl
 rw [hkl,hsl]
 clear hkl hsl
 go_enter Tryz.func231,Tryz.ntmps231
 go_wp2_with (first | (go_at_call 233;with_reducible refine (ruses_any e.kind hk _).mono ?_;rintro en w1 ⟨rfl,rfl⟩;rw [hs]) | (go_at_call 234;with_reducible refine (rin_any [99,109] 99 99 rfl (by decide) _).mono ?_;rintro en w1 ⟨rfl,rfl⟩;rw [show decide ((99:UInt8)∈([99,109]:List UInt8))=true from rfl]) | (go_at_call 234;with_reducible refine (rin_any [99,109] 119 119 rfl (by decide) _).mono ?_;rintro en w1 ⟨rfl,rfl⟩;rw [show decide ((119:UInt8)∈([99,109]:List UInt8))=false from rfl]) | (go_at_call 234;with_reducible refine (rin_any [99,109] 110 110 rfl (by decide) _).mono ?_;rintro en w1 ⟨rfl,rfl⟩;rw [show decide ((110:UInt8)∈([99,109]:List UInt8))=false from rfl]) | (go_at_call 234;with_reducible refine (rin_any [99,109] 109 109 rfl (by decide) _).mono ?_;rintro en w1 ⟨rfl,rfl⟩;rw [show decide ((109:UInt8)∈([99,109]:List UInt8))=true from rfl]) | (go_at_call 234;with_reducible refine (rin_any [99,109] 114 114 rfl (by decide) _).mono ?_;rintro en w1 ⟨rfl,rfl⟩;rw [show decide ((114:UInt8)∈([99,109]:List UInt8))=false from rfl]) | (go_at_call 234;with_reducible refine (rin_any [99,109] 107 107 rfl (by decide) _).mono ?_;rintro en w1 ⟨rfl,rfl⟩;rw [show decide ((107:UInt8)∈([99,109]:List UInt8))=false from rfl]) | (go_at_call 234;with_reducible refine (rin_any [99,109] 115 115 rfl (by decide) _).mono ?_;rintro en w1 ⟨rfl,rfl⟩;rw [show decide ((115:UInt8)∈([99,109]:List UInt8))=false from rfl]) | (go_at_call 234;with_reducible refine (rin_any [99,109] 116 116 rfl (by decide) _).mono ?_;rintro en w1 ⟨rfl,rfl⟩;rw [show decide ((116:UInt8)∈([99,109]:List UInt8))=false from rfl]))
 all_goals
  go_ret
  refine ⟨?_,(Upd.refl _ _).alloc _⟩
  first
   | exact ret_t (PL.out.2 ⟨(by first | assumption | exact ne_f (by assumption)),(by first | assumption | exact ne_f (by assumption)),(by first | assumption | exact ne_f (by assumption)),len0 KL.out (by assumption),len0 SL.out (by assumption),txt0 (by assumption)⟩)
   | (refine ret_f fun hp=>?_
      obtain ⟨h0,h1,h2,h3,h4,h5⟩:=PL.out.1 hp
      first | exact absurd h0 (by assumption) | exact ne_t (by assumption) h0 | exact absurd h1 (by assumption) | exact ne_t (by assumption) h1 | exact absurd h2 (by assumption) | exact ne_t (by assumption) h2 | exact len1 KL.out (by assumption) h3 | exact len1 SL.out (by assumption) h4 | exact txt1 (by assumption) h5)
theorem spare_cnmr (e:En) (hk:0<=e.kind/\e.kind<21) (hs:useF e.kind=[99,110,109,114]) (a1 a2 a3:Option Addr) (c1 c2 c3:Nat) (w:World) :
 Calls Tryz.prog 231 #[enV e a1 a2 a3 c1 c2 c3] w fun en w'=>en=.returned (.bool (decide (plainP e)))/\Upd (fun _=>False) w w':=by
 have HS:=hid hs
 have PL:=hid (show plainP e↔(e.who=0/\e.keys=[]/\e.spans=[]/\e.text=[]) by unfold plainP;rw [hs];simp)
 unfold enV
 obtain ⟨kl,hkl⟩:∃ x,e.keys.length=x:=⟨_,rfl⟩
 obtain ⟨sl,hsl⟩:∃ x,e.spans.length=x:=⟨_,rfl⟩
 have KL:=hid hkl;have SL:=hid hsl
 rw [hkl,hsl]
 clear hkl hsl
 go_enter Tryz.func231,Tryz.ntmps231
 go_wp2_with (first | (go_at_call 233;with_reducible refine (ruses_any e.kind hk _).mono ?_;rintro en w1 ⟨rfl,rfl⟩;rw [hs]) | (go_at_call 234;with_reducible refine (rin_any [99,110,109,114] 99 99 rfl (by decide) _).mono ?_;rintro en w1 ⟨rfl,rfl⟩;rw [show decide ((99:UInt8)∈([99,110,109,114]:List UInt8))=true from rfl]) | (go_at_call 234;with_reducible refine (rin_any [99,110,109,114] 119 119 rfl (by decide) _).mono ?_;rintro en w1 ⟨rfl,rfl⟩;rw [show decide ((119:UInt8)∈([99,110,109,114]:List UInt8))=false from rfl]) | (go_at_call 234;with_reducible refine (rin_any [99,110,109,114] 110 110 rfl (by decide) _).mono ?_;rintro en w1 ⟨rfl,rfl⟩;rw [show decide ((110:UInt8)∈([99,110,109,114]:List UInt8))=true from rfl]) | (go_at_call 234;with_reducible refine (rin_any [99,110,109,114] 109 109 rfl (by decide) _).mono ?_;rintro en w1 ⟨rfl,rfl⟩;rw [show decide ((109:UInt8)∈([99,110,109,114]:List UInt8))=true from rfl]) | (go_at_call 234;with_reducible refine (rin_any [99,110,109,114] 114 114 rfl (by decide) _).mono ?_;rintro en w1 ⟨rfl,rfl⟩;rw [show decide ((114:UInt8)∈([99,110,109,114]:List UInt8))=true from rfl]) | (go_at_call 234;with_reducible refine (rin_any [99,110,109,114] 107 107 rfl (by decide) _).mono ?_;rintro en w1 ⟨rfl,rfl⟩;rw [show decide ((107:UInt8)∈([99,110,109,114]:List UInt8))=false from rfl]) | (go_at_call 234;with_reducible refine (rin_any [99,110,109,114] 115 115 rfl (by decide) _).mono ?_;rintro en w1 ⟨rfl,rfl⟩;rw [show decide ((115:UInt8)∈([99,110,109,114]:List UInt8))=false from rfl]) | (go_at_call 234;with_reducible refine (rin_any [99,110,109,114] 116 116 rfl (by decide) _).mono ?_;rintro en w1 ⟨rfl,rfl⟩;rw [show decide ((116:UInt8)∈([99,110,109,114]:List UInt8))=false from rfl]))
 all_goals
  go_ret
  refine ⟨?_,(Upd.refl _ _).alloc _⟩
  first
   | exact ret_t (PL.out.2 ⟨(by first | assumption | exact ne_f (by assumption)),len0 KL.out (by assumption),len0 SL.out (by assumption),txt0 (by assumption)⟩)
   | (refine ret_f fun hp=>?_
      obtain ⟨h0,h1,h2,h3⟩:=PL.out.1 hp
      first | exact absurd h0 (by assumption) | exact ne_t (by assumption) h0 | exact len1 KL.out (by assumption) h1 | exact len1 SL.out (by assumption) h2 | exact txt1 (by assumption) h3)
theorem spare_cnmt (e:En) (hk:0<=e.kind/\e.kind<21) (hs:useF e.kind=[99,110,109,116]) (a1 a2 a3:Option Addr) (c1 c2 c3:Nat) (w:World) :
 Calls Tryz.prog 231 #[enV e a1 a2 a3 c1 c2 c3] w fun en w'=>en=.returned (.bool (decide (plainP e)))/\Upd (fun _=>False) w w':=by
 have HS:=hid hs
 have PL:=hid (show plainP e↔(e.who=0/\e.ref=-1/\e.keys=[]/\e.spans=[]) by unfold plainP;rw [hs];simp)
 unfold enV
 obtain ⟨kl,hkl⟩:∃ x,e.keys.length=x:=⟨_,rfl⟩
 obtain ⟨sl,hsl⟩:∃ x,e.spans.length=x:=⟨_,rfl⟩
 have KL:=hid hkl;have SL:=hid hsl
 rw [hkl,hsl]
 clear hkl hsl
 go_enter Tryz.func231,Tryz.ntmps231
 go_wp2_with (first | (go_at_call 233;with_reducible refine (ruses_any e.kind hk _).mono ?_;rintro en w1 ⟨rfl,rfl⟩;rw [hs]) | (go_at_call 234;with_reducible refine (rin_any [99,110,109,116] 99 99 rfl (by decide) _).mono ?_;rintro en w1 ⟨rfl,rfl⟩;rw [show decide ((99:UInt8)∈([99,110,109,116]:List UInt8))=true from rfl]) | (go_at_call 234;with_reducible refine (rin_any [99,110,109,116] 119 119 rfl (by decide) _).mono ?_;rintro en w1 ⟨rfl,rfl⟩;rw [show decide ((119:UInt8)∈([99,110,109,116]:List UInt8))=false from rfl]) | (go_at_call 234;with_reducible refine (rin_any [99,110,109,116] 110 110 rfl (by decide) _).mono ?_;rintro en w1 ⟨rfl,rfl⟩;rw [show decide ((110:UInt8)∈([99,110,109,116]:List UInt8))=true from rfl]) | (go_at_call 234;with_reducible refine (rin_any [99,110,109,116] 109 109 rfl (by decide) _).mono ?_;rintro en w1 ⟨rfl,rfl⟩;rw [show decide ((109:UInt8)∈([99,110,109,116]:List UInt8))=true from rfl]) | (go_at_call 234;with_reducible refine (rin_any [99,110,109,116] 114 114 rfl (by decide) _).mono ?_;rintro en w1 ⟨rfl,rfl⟩;rw [show decide ((114:UInt8)∈([99,110,109,116]:List UInt8))=false from rfl]) | (go_at_call 234;with_reducible refine (rin_any [99,110,109,116] 107 107 rfl (by decide) _).mono ?_;rintro en w1 ⟨rfl,rfl⟩;rw [show decide ((107:UInt8)∈([99,110,109,116]:List UInt8))=false from rfl]) | (go_at_call 234;with_reducible refine (rin_any [99,110,109,116] 115 115 rfl (by decide) _).mono ?_;rintro en w1 ⟨rfl,rfl⟩;rw [show decide ((115:UInt8)∈([99,110,109,116]:List UInt8))=false from rfl]) | (go_at_call 234;with_reducible refine (rin_any [99,110,109,116] 116 116 rfl (by decide) _).mono ?_;rintro en w1 ⟨rfl,rfl⟩;rw [show decide ((116:UInt8)∈([99,110,109,116]:List UInt8))=true from rfl]))
 all_goals
  go_ret
  refine ⟨?_,(Upd.refl _ _).alloc _⟩
  first
   | exact ret_t (PL.out.2 ⟨(by first | assumption | exact ne_f (by assumption)),(by first | assumption | exact ne_f (by assumption)),len0 KL.out (by assumption),len0 SL.out (by assumption)⟩)
   | (refine ret_f fun hp=>?_
      obtain ⟨h0,h1,h2,h3⟩:=PL.out.1 hp
      first | exact absurd h0 (by assumption) | exact ne_t (by assumption) h0 | exact absurd h1 (by assumption) | exact ne_t (by assumption) h1 | exact len1 KL.out (by assumption) h2 | exact len1 SL.out (by assumption) h3)
theorem spare_ct (e:En) (hk:0<=e.kind/\e.kind<21) (hs:useF e.kind=[99,116]) (a1 a2 a3:Option Addr) (c1 c2 c3:Nat) (w:World) :
 Calls Tryz.prog 231 #[enV e a1 a2 a3 c1 c2 c3] w fun en w'=>en=.returned (.bool (decide (plainP e)))/\Upd (fun _=>False) w w':=by
 have HS:=hid hs
 have PL:=hid (show plainP e↔(e.who=0/\e.n=0/\e.m=0/\e.ref=-1/\e.keys=[]/\e.spans=[]) by unfold plainP;rw [hs];simp)
 unfold enV
 obtain ⟨kl,hkl⟩:∃ x,e.keys.length=x:=⟨_,rfl⟩
 obtain ⟨sl,hsl⟩:∃ x,e.spans.length=x:=⟨_,rfl⟩
 have KL:=hid hkl;have SL:=hid hsl
 rw [hkl,hsl]
 clear hkl hsl
 go_enter Tryz.func231,Tryz.ntmps231
 go_wp2_with (first | (go_at_call 233;with_reducible refine (ruses_any e.kind hk _).mono ?_;rintro en w1 ⟨rfl,rfl⟩;rw [hs]) | (go_at_call 234;with_reducible refine (rin_any [99,116] 99 99 rfl (by decide) _).mono ?_;rintro en w1 ⟨rfl,rfl⟩;rw [show decide ((99:UInt8)∈([99,116]:List UInt8))=true from rfl]) | (go_at_call 234;with_reducible refine (rin_any [99,116] 119 119 rfl (by decide) _).mono ?_;rintro en w1 ⟨rfl,rfl⟩;rw [show decide ((119:UInt8)∈([99,116]:List UInt8))=false from rfl]) | (go_at_call 234;with_reducible refine (rin_any [99,116] 110 110 rfl (by decide) _).mono ?_;rintro en w1 ⟨rfl,rfl⟩;rw [show decide ((110:UInt8)∈([99,116]:List UInt8))=false from rfl]) | (go_at_call 234;with_reducible refine (rin_any [99,116] 109 109 rfl (by decide) _).mono ?_;rintro en w1 ⟨rfl,rfl⟩;rw [show decide ((109:UInt8)∈([99,116]:List UInt8))=false from rfl]) | (go_at_call 234;with_reducible refine (rin_any [99,116] 114 114 rfl (by decide) _).mono ?_;rintro en w1 ⟨rfl,rfl⟩;rw [show decide ((114:UInt8)∈([99,116]:List UInt8))=false from rfl]) | (go_at_call 234;with_reducible refine (rin_any [99,116] 107 107 rfl (by decide) _).mono ?_;rintro en w1 ⟨rfl,rfl⟩;rw [show decide ((107:UInt8)∈([99,116]:List UInt8))=false from rfl]) | (go_at_call 234;with_reducible refine (rin_any [99,116] 115 115 rfl (by decide) _).mono ?_;rintro en w1 ⟨rfl,rfl⟩;rw [show decide ((115:UInt8)∈([99,116]:List UInt8))=false from rfl]) | (go_at_call 234;with_reducible refine (rin_any [99,116] 116 116 rfl (by decide) _).mono ?_;rintro en w1 ⟨rfl,rfl⟩;rw [show decide ((116:UInt8)∈([99,116]:List UInt8))=true from rfl]))
 all_goals
  go_ret
  refine ⟨?_,(Upd.refl _ _).alloc _⟩
  first
   | exact ret_t (PL.out.2 ⟨(by first | assumption | exact ne_f (by assumption)),(by first | assumption | exact ne_f (by assumption)),(by first | assumption | exact ne_f (by assumption)),(by first | assumption | exact ne_f (by assumption)),len0 KL.out (by assumption),len0 SL.out (by assumption)⟩)
   | (refine ret_f fun hp=>?_
      obtain ⟨h0,h1,h2,h3,h4,h5⟩:=PL.out.1 hp
      first | exact absurd h0 (by assumption) | exact ne_t (by assumption) h0 | exact absurd h1 (by assumption) | exact ne_t (by assumption) h1 | exact absurd h2 (by assumption) | exact ne_t (by assumption) h2 | exact absurd h3 (by assumption) | exact ne_t (by assumption) h3 | exact len1 KL.out (by assumption) h4 | exact len1 SL.out (by assumption) h5)
theorem spare_cwmrs (e:En) (hk:0<=e.kind/\e.kind<21) (hs:useF e.kind=[99,119,109,114,115]) (a1 a2 a3:Option Addr) (c1 c2 c3:Nat) (w:World) :
 Calls Tryz.prog 231 #[enV e a1 a2 a3 c1 c2 c3] w fun en w'=>en=.returned (.bool (decide (plainP e)))/\Upd (fun _=>False) w w':=by
 have HS:=hid hs
 have PL:=hid (show plainP e↔(e.n=0/\e.keys=[]/\e.text=[]) by unfold plainP;rw [hs];simp)
 unfold enV
 obtain ⟨kl,hkl⟩:∃ x,e.keys.length=x:=⟨_,rfl⟩
 obtain ⟨sl,hsl⟩:∃ x,e.spans.length=x:=⟨_,rfl⟩
 have KL:=hid hkl;have SL:=hid hsl
 rw [hkl,hsl]
 clear hkl hsl
 go_enter Tryz.func231,Tryz.ntmps231
 go_wp2_with (first | (go_at_call 233;with_reducible refine (ruses_any e.kind hk _).mono ?_;rintro en w1 ⟨rfl,rfl⟩;rw [hs]) | (go_at_call 234;with_reducible refine (rin_any [99,119,109,114,115] 99 99 rfl (by decide) _).mono ?_;rintro en w1 ⟨rfl,rfl⟩;rw [show decide ((99:UInt8)∈([99,119,109,114,115]:List UInt8))=true from rfl]) | (go_at_call 234;with_reducible refine (rin_any [99,119,109,114,115] 119 119 rfl (by decide) _).mono ?_;rintro en w1 ⟨rfl,rfl⟩;rw [show decide ((119:UInt8)∈([99,119,109,114,115]:List UInt8))=true from rfl]) | (go_at_call 234;with_reducible refine (rin_any [99,119,109,114,115] 110 110 rfl (by decide) _).mono ?_;rintro en w1 ⟨rfl,rfl⟩;rw [show decide ((110:UInt8)∈([99,119,109,114,115]:List UInt8))=false from rfl]) | (go_at_call 234;with_reducible refine (rin_any [99,119,109,114,115] 109 109 rfl (by decide) _).mono ?_;rintro en w1 ⟨rfl,rfl⟩;rw [show decide ((109:UInt8)∈([99,119,109,114,115]:List UInt8))=true from rfl]) | (go_at_call 234;with_reducible refine (rin_any [99,119,109,114,115] 114 114 rfl (by decide) _).mono ?_;rintro en w1 ⟨rfl,rfl⟩;rw [show decide ((114:UInt8)∈([99,119,109,114,115]:List UInt8))=true from rfl]) | (go_at_call 234;with_reducible refine (rin_any [99,119,109,114,115] 107 107 rfl (by decide) _).mono ?_;rintro en w1 ⟨rfl,rfl⟩;rw [show decide ((107:UInt8)∈([99,119,109,114,115]:List UInt8))=false from rfl]) | (go_at_call 234;with_reducible refine (rin_any [99,119,109,114,115] 115 115 rfl (by decide) _).mono ?_;rintro en w1 ⟨rfl,rfl⟩;rw [show decide ((115:UInt8)∈([99,119,109,114,115]:List UInt8))=true from rfl]) | (go_at_call 234;with_reducible refine (rin_any [99,119,109,114,115] 116 116 rfl (by decide) _).mono ?_;rintro en w1 ⟨rfl,rfl⟩;rw [show decide ((116:UInt8)∈([99,119,109,114,115]:List UInt8))=false from rfl]))
 all_goals
  go_ret
  refine ⟨?_,(Upd.refl _ _).alloc _⟩
  first
   | exact ret_t (PL.out.2 ⟨(by first | assumption | exact ne_f (by assumption)),len0 KL.out (by assumption),txt0 (by assumption)⟩)
   | (refine ret_f fun hp=>?_
      obtain ⟨h0,h1,h2⟩:=PL.out.1 hp
      first | exact absurd h0 (by assumption) | exact ne_t (by assumption) h0 | exact len1 KL.out (by assumption) h1 | exact txt1 (by assumption) h2)
theorem spare_cwnm (e:En) (hk:0<=e.kind/\e.kind<21) (hs:useF e.kind=[99,119,110,109]) (a1 a2 a3:Option Addr) (c1 c2 c3:Nat) (w:World) :
 Calls Tryz.prog 231 #[enV e a1 a2 a3 c1 c2 c3] w fun en w'=>en=.returned (.bool (decide (plainP e)))/\Upd (fun _=>False) w w':=by
 have HS:=hid hs
 have PL:=hid (show plainP e↔(e.ref=-1/\e.keys=[]/\e.spans=[]/\e.text=[]) by unfold plainP;rw [hs];simp)
 unfold enV
 obtain ⟨kl,hkl⟩:∃ x,e.keys.length=x:=⟨_,rfl⟩
 obtain ⟨sl,hsl⟩:∃ x,e.spans.length=x:=⟨_,rfl⟩
 have KL:=hid hkl;have SL:=hid hsl
 rw [hkl,hsl]
 clear hkl hsl
 go_enter Tryz.func231,Tryz.ntmps231
 go_wp2_with (first | (go_at_call 233;with_reducible refine (ruses_any e.kind hk _).mono ?_;rintro en w1 ⟨rfl,rfl⟩;rw [hs]) | (go_at_call 234;with_reducible refine (rin_any [99,119,110,109] 99 99 rfl (by decide) _).mono ?_;rintro en w1 ⟨rfl,rfl⟩;rw [show decide ((99:UInt8)∈([99,119,110,109]:List UInt8))=true from rfl]) | (go_at_call 234;with_reducible refine (rin_any [99,119,110,109] 119 119 rfl (by decide) _).mono ?_;rintro en w1 ⟨rfl,rfl⟩;rw [show decide ((119:UInt8)∈([99,119,110,109]:List UInt8))=true from rfl]) | (go_at_call 234;with_reducible refine (rin_any [99,119,110,109] 110 110 rfl (by decide) _).mono ?_;rintro en w1 ⟨rfl,rfl⟩;rw [show decide ((110:UInt8)∈([99,119,110,109]:List UInt8))=true from rfl]) | (go_at_call 234;with_reducible refine (rin_any [99,119,110,109] 109 109 rfl (by decide) _).mono ?_;rintro en w1 ⟨rfl,rfl⟩;rw [show decide ((109:UInt8)∈([99,119,110,109]:List UInt8))=true from rfl]) | (go_at_call 234;with_reducible refine (rin_any [99,119,110,109] 114 114 rfl (by decide) _).mono ?_;rintro en w1 ⟨rfl,rfl⟩;rw [show decide ((114:UInt8)∈([99,119,110,109]:List UInt8))=false from rfl]) | (go_at_call 234;with_reducible refine (rin_any [99,119,110,109] 107 107 rfl (by decide) _).mono ?_;rintro en w1 ⟨rfl,rfl⟩;rw [show decide ((107:UInt8)∈([99,119,110,109]:List UInt8))=false from rfl]) | (go_at_call 234;with_reducible refine (rin_any [99,119,110,109] 115 115 rfl (by decide) _).mono ?_;rintro en w1 ⟨rfl,rfl⟩;rw [show decide ((115:UInt8)∈([99,119,110,109]:List UInt8))=false from rfl]) | (go_at_call 234;with_reducible refine (rin_any [99,119,110,109] 116 116 rfl (by decide) _).mono ?_;rintro en w1 ⟨rfl,rfl⟩;rw [show decide ((116:UInt8)∈([99,119,110,109]:List UInt8))=false from rfl]))
 all_goals
  go_ret
  refine ⟨?_,(Upd.refl _ _).alloc _⟩
  first
   | exact ret_t (PL.out.2 ⟨(by first | assumption | exact ne_f (by assumption)),len0 KL.out (by assumption),len0 SL.out (by assumption),txt0 (by assumption)⟩)
   | (refine ret_f fun hp=>?_
      obtain ⟨h0,h1,h2,h3⟩:=PL.out.1 hp
      first | exact absurd h0 (by assumption) | exact ne_t (by assumption) h0 | exact len1 KL.out (by assumption) h1 | exact len1 SL.out (by assumption) h2 | exact txt1 (by assumption) h3)
theorem spare_kt (e:En) (hk:0<=e.kind/\e.kind<21) (hs:useF e.kind=[107,116]) (a1 a2 a3:Option Addr) (c1 c2 c3:Nat) (w:World) :
 Calls Tryz.prog 231 #[enV e a1 a2 a3 c1 c2 c3] w fun en w'=>en=.returned (.bool (decide (plainP e)))/\Upd (fun _=>False) w w':=by
 have HS:=hid hs
 have PL:=hid (show plainP e↔(e.circle=0/\e.who=0/\e.n=0/\e.m=0/\e.ref=-1/\e.spans=[]) by unfold plainP;rw [hs];simp)
 unfold enV
 obtain ⟨kl,hkl⟩:∃ x,e.keys.length=x:=⟨_,rfl⟩
 obtain ⟨sl,hsl⟩:∃ x,e.spans.length=x:=⟨_,rfl⟩
 have KL:=hid hkl;have SL:=hid hsl
 rw [hkl,hsl]
 clear hkl hsl
 go_enter Tryz.func231,Tryz.ntmps231
 go_wp2_with (first | (go_at_call 233;with_reducible refine (ruses_any e.kind hk _).mono ?_;rintro en w1 ⟨rfl,rfl⟩;rw [hs]) | (go_at_call 234;with_reducible refine (rin_any [107,116] 99 99 rfl (by decide) _).mono ?_;rintro en w1 ⟨rfl,rfl⟩;rw [show decide ((99:UInt8)∈([107,116]:List UInt8))=false from rfl]) | (go_at_call 234;with_reducible refine (rin_any [107,116] 119 119 rfl (by decide) _).mono ?_;rintro en w1 ⟨rfl,rfl⟩;rw [show decide ((119:UInt8)∈([107,116]:List UInt8))=false from rfl]) | (go_at_call 234;with_reducible refine (rin_any [107,116] 110 110 rfl (by decide) _).mono ?_;rintro en w1 ⟨rfl,rfl⟩;rw [show decide ((110:UInt8)∈([107,116]:List UInt8))=false from rfl]) | (go_at_call 234;with_reducible refine (rin_any [107,116] 109 109 rfl (by decide) _).mono ?_;rintro en w1 ⟨rfl,rfl⟩;rw [show decide ((109:UInt8)∈([107,116]:List UInt8))=false from rfl]) | (go_at_call 234;with_reducible refine (rin_any [107,116] 114 114 rfl (by decide) _).mono ?_;rintro en w1 ⟨rfl,rfl⟩;rw [show decide ((114:UInt8)∈([107,116]:List UInt8))=false from rfl]) | (go_at_call 234;with_reducible refine (rin_any [107,116] 107 107 rfl (by decide) _).mono ?_;rintro en w1 ⟨rfl,rfl⟩;rw [show decide ((107:UInt8)∈([107,116]:List UInt8))=true from rfl]) | (go_at_call 234;with_reducible refine (rin_any [107,116] 115 115 rfl (by decide) _).mono ?_;rintro en w1 ⟨rfl,rfl⟩;rw [show decide ((115:UInt8)∈([107,116]:List UInt8))=false from rfl]) | (go_at_call 234;with_reducible refine (rin_any [107,116] 116 116 rfl (by decide) _).mono ?_;rintro en w1 ⟨rfl,rfl⟩;rw [show decide ((116:UInt8)∈([107,116]:List UInt8))=true from rfl]))
 all_goals
  go_ret
  refine ⟨?_,(Upd.refl _ _).alloc _⟩
  first
   | exact ret_t (PL.out.2 ⟨(by first | assumption | exact ne_f (by assumption)),(by first | assumption | exact ne_f (by assumption)),(by first | assumption | exact ne_f (by assumption)),(by first | assumption | exact ne_f (by assumption)),(by first | assumption | exact ne_f (by assumption)),len0 SL.out (by assumption)⟩)
   | (refine ret_f fun hp=>?_
      obtain ⟨h0,h1,h2,h3,h4,h5⟩:=PL.out.1 hp
      first | exact absurd h0 (by assumption) | exact ne_t (by assumption) h0 | exact absurd h1 (by assumption) | exact ne_t (by assumption) h1 | exact absurd h2 (by assumption) | exact ne_t (by assumption) h2 | exact absurd h3 (by assumption) | exact ne_t (by assumption) h3 | exact absurd h4 (by assumption) | exact ne_t (by assumption) h4 | exact len1 SL.out (by assumption) h5)
theorem spare_nmr (e:En) (hk:0<=e.kind/\e.kind<21) (hs:useF e.kind=[110,109,114]) (a1 a2 a3:Option Addr) (c1 c2 c3:Nat) (w:World) :
 Calls Tryz.prog 231 #[enV e a1 a2 a3 c1 c2 c3] w fun en w'=>en=.returned (.bool (decide (plainP e)))/\Upd (fun _=>False) w w':=by
 have HS:=hid hs
 have PL:=hid (show plainP e↔(e.circle=0/\e.who=0/\e.keys=[]/\e.spans=[]/\e.text=[]) by unfold plainP;rw [hs];simp)
 unfold enV
 obtain ⟨kl,hkl⟩:∃ x,e.keys.length=x:=⟨_,rfl⟩
 obtain ⟨sl,hsl⟩:∃ x,e.spans.length=x:=⟨_,rfl⟩
 have KL:=hid hkl;have SL:=hid hsl
 rw [hkl,hsl]
 clear hkl hsl
 go_enter Tryz.func231,Tryz.ntmps231
 go_wp2_with (first | (go_at_call 233;with_reducible refine (ruses_any e.kind hk _).mono ?_;rintro en w1 ⟨rfl,rfl⟩;rw [hs]) | (go_at_call 234;with_reducible refine (rin_any [110,109,114] 99 99 rfl (by decide) _).mono ?_;rintro en w1 ⟨rfl,rfl⟩;rw [show decide ((99:UInt8)∈([110,109,114]:List UInt8))=false from rfl]) | (go_at_call 234;with_reducible refine (rin_any [110,109,114] 119 119 rfl (by decide) _).mono ?_;rintro en w1 ⟨rfl,rfl⟩;rw [show decide ((119:UInt8)∈([110,109,114]:List UInt8))=false from rfl]) | (go_at_call 234;with_reducible refine (rin_any [110,109,114] 110 110 rfl (by decide) _).mono ?_;rintro en w1 ⟨rfl,rfl⟩;rw [show decide ((110:UInt8)∈([110,109,114]:List UInt8))=true from rfl]) | (go_at_call 234;with_reducible refine (rin_any [110,109,114] 109 109 rfl (by decide) _).mono ?_;rintro en w1 ⟨rfl,rfl⟩;rw [show decide ((109:UInt8)∈([110,109,114]:List UInt8))=true from rfl]) | (go_at_call 234;with_reducible refine (rin_any [110,109,114] 114 114 rfl (by decide) _).mono ?_;rintro en w1 ⟨rfl,rfl⟩;rw [show decide ((114:UInt8)∈([110,109,114]:List UInt8))=true from rfl]) | (go_at_call 234;with_reducible refine (rin_any [110,109,114] 107 107 rfl (by decide) _).mono ?_;rintro en w1 ⟨rfl,rfl⟩;rw [show decide ((107:UInt8)∈([110,109,114]:List UInt8))=false from rfl]) | (go_at_call 234;with_reducible refine (rin_any [110,109,114] 115 115 rfl (by decide) _).mono ?_;rintro en w1 ⟨rfl,rfl⟩;rw [show decide ((115:UInt8)∈([110,109,114]:List UInt8))=false from rfl]) | (go_at_call 234;with_reducible refine (rin_any [110,109,114] 116 116 rfl (by decide) _).mono ?_;rintro en w1 ⟨rfl,rfl⟩;rw [show decide ((116:UInt8)∈([110,109,114]:List UInt8))=false from rfl]))
 all_goals
  go_ret
  refine ⟨?_,(Upd.refl _ _).alloc _⟩
  first
   | exact ret_t (PL.out.2 ⟨(by first | assumption | exact ne_f (by assumption)),(by first | assumption | exact ne_f (by assumption)),len0 KL.out (by assumption),len0 SL.out (by assumption),txt0 (by assumption)⟩)
   | (refine ret_f fun hp=>?_
      obtain ⟨h0,h1,h2,h3,h4⟩:=PL.out.1 hp
      first | exact absurd h0 (by assumption) | exact ne_t (by assumption) h0 | exact absurd h1 (by assumption) | exact ne_t (by assumption) h1 | exact len1 KL.out (by assumption) h2 | exact len1 SL.out (by assumption) h3 | exact txt1 (by assumption) h4)
theorem spare_nr (e:En) (hk:0<=e.kind/\e.kind<21) (hs:useF e.kind=[110,114]) (a1 a2 a3:Option Addr) (c1 c2 c3:Nat) (w:World) :
 Calls Tryz.prog 231 #[enV e a1 a2 a3 c1 c2 c3] w fun en w'=>en=.returned (.bool (decide (plainP e)))/\Upd (fun _=>False) w w':=by
 have HS:=hid hs
 have PL:=hid (show plainP e↔(e.circle=0/\e.who=0/\e.m=0/\e.keys=[]/\e.spans=[]/\e.text=[]) by unfold plainP;rw [hs];simp)
 unfold enV
 obtain ⟨kl,hkl⟩:∃ x,e.keys.length=x:=⟨_,rfl⟩
 obtain ⟨sl,hsl⟩:∃ x,e.spans.length=x:=⟨_,rfl⟩
 have KL:=hid hkl;have SL:=hid hsl
 rw [hkl,hsl]
 clear hkl hsl
 go_enter Tryz.func231,Tryz.ntmps231
 go_wp2_with (first | (go_at_call 233;with_reducible refine (ruses_any e.kind hk _).mono ?_;rintro en w1 ⟨rfl,rfl⟩;rw [hs]) | (go_at_call 234;with_reducible refine (rin_any [110,114] 99 99 rfl (by decide) _).mono ?_;rintro en w1 ⟨rfl,rfl⟩;rw [show decide ((99:UInt8)∈([110,114]:List UInt8))=false from rfl]) | (go_at_call 234;with_reducible refine (rin_any [110,114] 119 119 rfl (by decide) _).mono ?_;rintro en w1 ⟨rfl,rfl⟩;rw [show decide ((119:UInt8)∈([110,114]:List UInt8))=false from rfl]) | (go_at_call 234;with_reducible refine (rin_any [110,114] 110 110 rfl (by decide) _).mono ?_;rintro en w1 ⟨rfl,rfl⟩;rw [show decide ((110:UInt8)∈([110,114]:List UInt8))=true from rfl]) | (go_at_call 234;with_reducible refine (rin_any [110,114] 109 109 rfl (by decide) _).mono ?_;rintro en w1 ⟨rfl,rfl⟩;rw [show decide ((109:UInt8)∈([110,114]:List UInt8))=false from rfl]) | (go_at_call 234;with_reducible refine (rin_any [110,114] 114 114 rfl (by decide) _).mono ?_;rintro en w1 ⟨rfl,rfl⟩;rw [show decide ((114:UInt8)∈([110,114]:List UInt8))=true from rfl]) | (go_at_call 234;with_reducible refine (rin_any [110,114] 107 107 rfl (by decide) _).mono ?_;rintro en w1 ⟨rfl,rfl⟩;rw [show decide ((107:UInt8)∈([110,114]:List UInt8))=false from rfl]) | (go_at_call 234;with_reducible refine (rin_any [110,114] 115 115 rfl (by decide) _).mono ?_;rintro en w1 ⟨rfl,rfl⟩;rw [show decide ((115:UInt8)∈([110,114]:List UInt8))=false from rfl]) | (go_at_call 234;with_reducible refine (rin_any [110,114] 116 116 rfl (by decide) _).mono ?_;rintro en w1 ⟨rfl,rfl⟩;rw [show decide ((116:UInt8)∈([110,114]:List UInt8))=false from rfl]))
 all_goals
  go_ret
  refine ⟨?_,(Upd.refl _ _).alloc _⟩
  first
   | exact ret_t (PL.out.2 ⟨(by first | assumption | exact ne_f (by assumption)),(by first | assumption | exact ne_f (by assumption)),(by first | assumption | exact ne_f (by assumption)),len0 KL.out (by assumption),len0 SL.out (by assumption),txt0 (by assumption)⟩)
   | (refine ret_f fun hp=>?_
      obtain ⟨h0,h1,h2,h3,h4,h5⟩:=PL.out.1 hp
      first | exact absurd h0 (by assumption) | exact ne_t (by assumption) h0 | exact absurd h1 (by assumption) | exact ne_t (by assumption) h1 | exact absurd h2 (by assumption) | exact ne_t (by assumption) h2 | exact len1 KL.out (by assumption) h3 | exact len1 SL.out (by assumption) h4 | exact txt1 (by assumption) h5)
theorem spare_r (e:En) (hk:0<=e.kind/\e.kind<21) (hs:useF e.kind=[114]) (a1 a2 a3:Option Addr) (c1 c2 c3:Nat) (w:World) :
 Calls Tryz.prog 231 #[enV e a1 a2 a3 c1 c2 c3] w fun en w'=>en=.returned (.bool (decide (plainP e)))/\Upd (fun _=>False) w w':=by
 have HS:=hid hs
 have PL:=hid (show plainP e↔(e.circle=0/\e.who=0/\e.n=0/\e.m=0/\e.keys=[]/\e.spans=[]/\e.text=[]) by unfold plainP;rw [hs];simp)
 unfold enV
 obtain ⟨kl,hkl⟩:∃ x,e.keys.length=x:=⟨_,rfl⟩
 obtain ⟨sl,hsl⟩:∃ x,e.spans.length=x:=⟨_,rfl⟩
 have KL:=hid hkl;have SL:=hid hsl
 rw [hkl,hsl]
 clear hkl hsl
 go_enter Tryz.func231,Tryz.ntmps231
 go_wp2_with (first | (go_at_call 233;with_reducible refine (ruses_any e.kind hk _).mono ?_;rintro en w1 ⟨rfl,rfl⟩;rw [hs]) | (go_at_call 234;with_reducible refine (rin_any [114] 99 99 rfl (by decide) _).mono ?_;rintro en w1 ⟨rfl,rfl⟩;rw [show decide ((99:UInt8)∈([114]:List UInt8))=false from rfl]) | (go_at_call 234;with_reducible refine (rin_any [114] 119 119 rfl (by decide) _).mono ?_;rintro en w1 ⟨rfl,rfl⟩;rw [show decide ((119:UInt8)∈([114]:List UInt8))=false from rfl]) | (go_at_call 234;with_reducible refine (rin_any [114] 110 110 rfl (by decide) _).mono ?_;rintro en w1 ⟨rfl,rfl⟩;rw [show decide ((110:UInt8)∈([114]:List UInt8))=false from rfl]) | (go_at_call 234;with_reducible refine (rin_any [114] 109 109 rfl (by decide) _).mono ?_;rintro en w1 ⟨rfl,rfl⟩;rw [show decide ((109:UInt8)∈([114]:List UInt8))=false from rfl]) | (go_at_call 234;with_reducible refine (rin_any [114] 114 114 rfl (by decide) _).mono ?_;rintro en w1 ⟨rfl,rfl⟩;rw [show decide ((114:UInt8)∈([114]:List UInt8))=true from rfl]) | (go_at_call 234;with_reducible refine (rin_any [114] 107 107 rfl (by decide) _).mono ?_;rintro en w1 ⟨rfl,rfl⟩;rw [show decide ((107:UInt8)∈([114]:List UInt8))=false from rfl]) | (go_at_call 234;with_reducible refine (rin_any [114] 115 115 rfl (by decide) _).mono ?_;rintro en w1 ⟨rfl,rfl⟩;rw [show decide ((115:UInt8)∈([114]:List UInt8))=false from rfl]) | (go_at_call 234;with_reducible refine (rin_any [114] 116 116 rfl (by decide) _).mono ?_;rintro en w1 ⟨rfl,rfl⟩;rw [show decide ((116:UInt8)∈([114]:List UInt8))=false from rfl]))
 all_goals
  go_ret
  refine ⟨?_,(Upd.refl _ _).alloc _⟩
  first
   | exact ret_t (PL.out.2 ⟨(by first | assumption | exact ne_f (by assumption)),(by first | assumption | exact ne_f (by assumption)),(by first | assumption | exact ne_f (by assumption)),(by first | assumption | exact ne_f (by assumption)),len0 KL.out (by assumption),len0 SL.out (by assumption),txt0 (by assumption)⟩)
   | (refine ret_f fun hp=>?_
      obtain ⟨h0,h1,h2,h3,h4,h5,h6⟩:=PL.out.1 hp
      first | exact absurd h0 (by assumption) | exact ne_t (by assumption) h0 | exact absurd h1 (by assumption) | exact ne_t (by assumption) h1 | exact absurd h2 (by assumption) | exact ne_t (by assumption) h2 | exact absurd h3 (by assumption) | exact ne_t (by assumption) h3 | exact len1 KL.out (by assumption) h4 | exact len1 SL.out (by assumption) h5 | exact txt1 (by assumption) h6)
theorem spare_rt (e:En) (hk:0<=e.kind/\e.kind<21) (hs:useF e.kind=[114,116]) (a1 a2 a3:Option Addr) (c1 c2 c3:Nat) (w:World) :
 Calls Tryz.prog 231 #[enV e a1 a2 a3 c1 c2 c3] w fun en w'=>en=.returned (.bool (decide (plainP e)))/\Upd (fun _=>False) w w':=by
 have HS:=hid hs
 have PL:=hid (show plainP e↔(e.circle=0/\e.who=0/\e.n=0/\e.m=0/\e.keys=[]/\e.spans=[]) by unfold plainP;rw [hs];simp)
 unfold enV
 obtain ⟨kl,hkl⟩:∃ x,e.keys.length=x:=⟨_,rfl⟩
 obtain ⟨sl,hsl⟩:∃ x,e.spans.length=x:=⟨_,rfl⟩
 have KL:=hid hkl;have SL:=hid hsl
 rw [hkl,hsl]
 clear hkl hsl
 go_enter Tryz.func231,Tryz.ntmps231
 go_wp2_with (first | (go_at_call 233;with_reducible refine (ruses_any e.kind hk _).mono ?_;rintro en w1 ⟨rfl,rfl⟩;rw [hs]) | (go_at_call 234;with_reducible refine (rin_any [114,116] 99 99 rfl (by decide) _).mono ?_;rintro en w1 ⟨rfl,rfl⟩;rw [show decide ((99:UInt8)∈([114,116]:List UInt8))=false from rfl]) | (go_at_call 234;with_reducible refine (rin_any [114,116] 119 119 rfl (by decide) _).mono ?_;rintro en w1 ⟨rfl,rfl⟩;rw [show decide ((119:UInt8)∈([114,116]:List UInt8))=false from rfl]) | (go_at_call 234;with_reducible refine (rin_any [114,116] 110 110 rfl (by decide) _).mono ?_;rintro en w1 ⟨rfl,rfl⟩;rw [show decide ((110:UInt8)∈([114,116]:List UInt8))=false from rfl]) | (go_at_call 234;with_reducible refine (rin_any [114,116] 109 109 rfl (by decide) _).mono ?_;rintro en w1 ⟨rfl,rfl⟩;rw [show decide ((109:UInt8)∈([114,116]:List UInt8))=false from rfl]) | (go_at_call 234;with_reducible refine (rin_any [114,116] 114 114 rfl (by decide) _).mono ?_;rintro en w1 ⟨rfl,rfl⟩;rw [show decide ((114:UInt8)∈([114,116]:List UInt8))=true from rfl]) | (go_at_call 234;with_reducible refine (rin_any [114,116] 107 107 rfl (by decide) _).mono ?_;rintro en w1 ⟨rfl,rfl⟩;rw [show decide ((107:UInt8)∈([114,116]:List UInt8))=false from rfl]) | (go_at_call 234;with_reducible refine (rin_any [114,116] 115 115 rfl (by decide) _).mono ?_;rintro en w1 ⟨rfl,rfl⟩;rw [show decide ((115:UInt8)∈([114,116]:List UInt8))=false from rfl]) | (go_at_call 234;with_reducible refine (rin_any [114,116] 116 116 rfl (by decide) _).mono ?_;rintro en w1 ⟨rfl,rfl⟩;rw [show decide ((116:UInt8)∈([114,116]:List UInt8))=true from rfl]))
 all_goals
  go_ret
  refine ⟨?_,(Upd.refl _ _).alloc _⟩
  first
   | exact ret_t (PL.out.2 ⟨(by first | assumption | exact ne_f (by assumption)),(by first | assumption | exact ne_f (by assumption)),(by first | assumption | exact ne_f (by assumption)),(by first | assumption | exact ne_f (by assumption)),len0 KL.out (by assumption),len0 SL.out (by assumption)⟩)
   | (refine ret_f fun hp=>?_
      obtain ⟨h0,h1,h2,h3,h4,h5⟩:=PL.out.1 hp
      first | exact absurd h0 (by assumption) | exact ne_t (by assumption) h0 | exact absurd h1 (by assumption) | exact ne_t (by assumption) h1 | exact absurd h2 (by assumption) | exact ne_t (by assumption) h2 | exact absurd h3 (by assumption) | exact ne_t (by assumption) h3 | exact len1 KL.out (by assumption) h4 | exact len1 SL.out (by assumption) h5)
theorem spare_wms (e:En) (hk:0<=e.kind/\e.kind<21) (hs:useF e.kind=[119,109,115]) (a1 a2 a3:Option Addr) (c1 c2 c3:Nat) (w:World) :
 Calls Tryz.prog 231 #[enV e a1 a2 a3 c1 c2 c3] w fun en w'=>en=.returned (.bool (decide (plainP e)))/\Upd (fun _=>False) w w':=by
 have HS:=hid hs
 have PL:=hid (show plainP e↔(e.circle=0/\e.n=0/\e.ref=-1/\e.keys=[]/\e.text=[]) by unfold plainP;rw [hs];simp)
 unfold enV
 obtain ⟨kl,hkl⟩:∃ x,e.keys.length=x:=⟨_,rfl⟩
 obtain ⟨sl,hsl⟩:∃ x,e.spans.length=x:=⟨_,rfl⟩
 have KL:=hid hkl;have SL:=hid hsl
 rw [hkl,hsl]
 clear hkl hsl
 go_enter Tryz.func231,Tryz.ntmps231
 go_wp2_with (first | (go_at_call 233;with_reducible refine (ruses_any e.kind hk _).mono ?_;rintro en w1 ⟨rfl,rfl⟩;rw [hs]) | (go_at_call 234;with_reducible refine (rin_any [119,109,115] 99 99 rfl (by decide) _).mono ?_;rintro en w1 ⟨rfl,rfl⟩;rw [show decide ((99:UInt8)∈([119,109,115]:List UInt8))=false from rfl]) | (go_at_call 234;with_reducible refine (rin_any [119,109,115] 119 119 rfl (by decide) _).mono ?_;rintro en w1 ⟨rfl,rfl⟩;rw [show decide ((119:UInt8)∈([119,109,115]:List UInt8))=true from rfl]) | (go_at_call 234;with_reducible refine (rin_any [119,109,115] 110 110 rfl (by decide) _).mono ?_;rintro en w1 ⟨rfl,rfl⟩;rw [show decide ((110:UInt8)∈([119,109,115]:List UInt8))=false from rfl]) | (go_at_call 234;with_reducible refine (rin_any [119,109,115] 109 109 rfl (by decide) _).mono ?_;rintro en w1 ⟨rfl,rfl⟩;rw [show decide ((109:UInt8)∈([119,109,115]:List UInt8))=true from rfl]) | (go_at_call 234;with_reducible refine (rin_any [119,109,115] 114 114 rfl (by decide) _).mono ?_;rintro en w1 ⟨rfl,rfl⟩;rw [show decide ((114:UInt8)∈([119,109,115]:List UInt8))=false from rfl]) | (go_at_call 234;with_reducible refine (rin_any [119,109,115] 107 107 rfl (by decide) _).mono ?_;rintro en w1 ⟨rfl,rfl⟩;rw [show decide ((107:UInt8)∈([119,109,115]:List UInt8))=false from rfl]) | (go_at_call 234;with_reducible refine (rin_any [119,109,115] 115 115 rfl (by decide) _).mono ?_;rintro en w1 ⟨rfl,rfl⟩;rw [show decide ((115:UInt8)∈([119,109,115]:List UInt8))=true from rfl]) | (go_at_call 234;with_reducible refine (rin_any [119,109,115] 116 116 rfl (by decide) _).mono ?_;rintro en w1 ⟨rfl,rfl⟩;rw [show decide ((116:UInt8)∈([119,109,115]:List UInt8))=false from rfl]))
 all_goals
  go_ret
  refine ⟨?_,(Upd.refl _ _).alloc _⟩
  first
   | exact ret_t (PL.out.2 ⟨(by first | assumption | exact ne_f (by assumption)),(by first | assumption | exact ne_f (by assumption)),(by first | assumption | exact ne_f (by assumption)),len0 KL.out (by assumption),txt0 (by assumption)⟩)
   | (refine ret_f fun hp=>?_
      obtain ⟨h0,h1,h2,h3,h4⟩:=PL.out.1 hp
      first | exact absurd h0 (by assumption) | exact ne_t (by assumption) h0 | exact absurd h1 (by assumption) | exact ne_t (by assumption) h1 | exact absurd h2 (by assumption) | exact ne_t (by assumption) h2 | exact len1 KL.out (by assumption) h3 | exact txt1 (by assumption) h4)
theorem spare_wn (e:En) (hk:0<=e.kind/\e.kind<21) (hs:useF e.kind=[119,110]) (a1 a2 a3:Option Addr) (c1 c2 c3:Nat) (w:World) :
 Calls Tryz.prog 231 #[enV e a1 a2 a3 c1 c2 c3] w fun en w'=>en=.returned (.bool (decide (plainP e)))/\Upd (fun _=>False) w w':=by
 have HS:=hid hs
 have PL:=hid (show plainP e↔(e.circle=0/\e.m=0/\e.ref=-1/\e.keys=[]/\e.spans=[]/\e.text=[]) by unfold plainP;rw [hs];simp)
 unfold enV
 obtain ⟨kl,hkl⟩:∃ x,e.keys.length=x:=⟨_,rfl⟩
 obtain ⟨sl,hsl⟩:∃ x,e.spans.length=x:=⟨_,rfl⟩
 have KL:=hid hkl;have SL:=hid hsl
 rw [hkl,hsl]
 clear hkl hsl
 go_enter Tryz.func231,Tryz.ntmps231
 go_wp2_with (first | (go_at_call 233;with_reducible refine (ruses_any e.kind hk _).mono ?_;rintro en w1 ⟨rfl,rfl⟩;rw [hs]) | (go_at_call 234;with_reducible refine (rin_any [119,110] 99 99 rfl (by decide) _).mono ?_;rintro en w1 ⟨rfl,rfl⟩;rw [show decide ((99:UInt8)∈([119,110]:List UInt8))=false from rfl]) | (go_at_call 234;with_reducible refine (rin_any [119,110] 119 119 rfl (by decide) _).mono ?_;rintro en w1 ⟨rfl,rfl⟩;rw [show decide ((119:UInt8)∈([119,110]:List UInt8))=true from rfl]) | (go_at_call 234;with_reducible refine (rin_any [119,110] 110 110 rfl (by decide) _).mono ?_;rintro en w1 ⟨rfl,rfl⟩;rw [show decide ((110:UInt8)∈([119,110]:List UInt8))=true from rfl]) | (go_at_call 234;with_reducible refine (rin_any [119,110] 109 109 rfl (by decide) _).mono ?_;rintro en w1 ⟨rfl,rfl⟩;rw [show decide ((109:UInt8)∈([119,110]:List UInt8))=false from rfl]) | (go_at_call 234;with_reducible refine (rin_any [119,110] 114 114 rfl (by decide) _).mono ?_;rintro en w1 ⟨rfl,rfl⟩;rw [show decide ((114:UInt8)∈([119,110]:List UInt8))=false from rfl]) | (go_at_call 234;with_reducible refine (rin_any [119,110] 107 107 rfl (by decide) _).mono ?_;rintro en w1 ⟨rfl,rfl⟩;rw [show decide ((107:UInt8)∈([119,110]:List UInt8))=false from rfl]) | (go_at_call 234;with_reducible refine (rin_any [119,110] 115 115 rfl (by decide) _).mono ?_;rintro en w1 ⟨rfl,rfl⟩;rw [show decide ((115:UInt8)∈([119,110]:List UInt8))=false from rfl]) | (go_at_call 234;with_reducible refine (rin_any [119,110] 116 116 rfl (by decide) _).mono ?_;rintro en w1 ⟨rfl,rfl⟩;rw [show decide ((116:UInt8)∈([119,110]:List UInt8))=false from rfl]))
 all_goals
  go_ret
  refine ⟨?_,(Upd.refl _ _).alloc _⟩
  first
   | exact ret_t (PL.out.2 ⟨(by first | assumption | exact ne_f (by assumption)),(by first | assumption | exact ne_f (by assumption)),(by first | assumption | exact ne_f (by assumption)),len0 KL.out (by assumption),len0 SL.out (by assumption),txt0 (by assumption)⟩)
   | (refine ret_f fun hp=>?_
      obtain ⟨h0,h1,h2,h3,h4,h5⟩:=PL.out.1 hp
      first | exact absurd h0 (by assumption) | exact ne_t (by assumption) h0 | exact absurd h1 (by assumption) | exact ne_t (by assumption) h1 | exact absurd h2 (by assumption) | exact ne_t (by assumption) h2 | exact len1 KL.out (by assumption) h3 | exact len1 SL.out (by assumption) h4 | exact txt1 (by assumption) h5)
theorem spare_ws (e:En) (hk:0<=e.kind/\e.kind<21) (hs:useF e.kind=[119,115]) (a1 a2 a3:Option Addr) (c1 c2 c3:Nat) (w:World) :
 Calls Tryz.prog 231 #[enV e a1 a2 a3 c1 c2 c3] w fun en w'=>en=.returned (.bool (decide (plainP e)))/\Upd (fun _=>False) w w':=by
 have HS:=hid hs
 have PL:=hid (show plainP e↔(e.circle=0/\e.n=0/\e.m=0/\e.ref=-1/\e.keys=[]/\e.text=[]) by unfold plainP;rw [hs];simp)
 unfold enV
 obtain ⟨kl,hkl⟩:∃ x,e.keys.length=x:=⟨_,rfl⟩
 obtain ⟨sl,hsl⟩:∃ x,e.spans.length=x:=⟨_,rfl⟩
 have KL:=hid hkl;have SL:=hid hsl
 rw [hkl,hsl]
 clear hkl hsl
 go_enter Tryz.func231,Tryz.ntmps231
 go_wp2_with (first | (go_at_call 233;with_reducible refine (ruses_any e.kind hk _).mono ?_;rintro en w1 ⟨rfl,rfl⟩;rw [hs]) | (go_at_call 234;with_reducible refine (rin_any [119,115] 99 99 rfl (by decide) _).mono ?_;rintro en w1 ⟨rfl,rfl⟩;rw [show decide ((99:UInt8)∈([119,115]:List UInt8))=false from rfl]) | (go_at_call 234;with_reducible refine (rin_any [119,115] 119 119 rfl (by decide) _).mono ?_;rintro en w1 ⟨rfl,rfl⟩;rw [show decide ((119:UInt8)∈([119,115]:List UInt8))=true from rfl]) | (go_at_call 234;with_reducible refine (rin_any [119,115] 110 110 rfl (by decide) _).mono ?_;rintro en w1 ⟨rfl,rfl⟩;rw [show decide ((110:UInt8)∈([119,115]:List UInt8))=false from rfl]) | (go_at_call 234;with_reducible refine (rin_any [119,115] 109 109 rfl (by decide) _).mono ?_;rintro en w1 ⟨rfl,rfl⟩;rw [show decide ((109:UInt8)∈([119,115]:List UInt8))=false from rfl]) | (go_at_call 234;with_reducible refine (rin_any [119,115] 114 114 rfl (by decide) _).mono ?_;rintro en w1 ⟨rfl,rfl⟩;rw [show decide ((114:UInt8)∈([119,115]:List UInt8))=false from rfl]) | (go_at_call 234;with_reducible refine (rin_any [119,115] 107 107 rfl (by decide) _).mono ?_;rintro en w1 ⟨rfl,rfl⟩;rw [show decide ((107:UInt8)∈([119,115]:List UInt8))=false from rfl]) | (go_at_call 234;with_reducible refine (rin_any [119,115] 115 115 rfl (by decide) _).mono ?_;rintro en w1 ⟨rfl,rfl⟩;rw [show decide ((115:UInt8)∈([119,115]:List UInt8))=true from rfl]) | (go_at_call 234;with_reducible refine (rin_any [119,115] 116 116 rfl (by decide) _).mono ?_;rintro en w1 ⟨rfl,rfl⟩;rw [show decide ((116:UInt8)∈([119,115]:List UInt8))=false from rfl]))
 all_goals
  go_ret
  refine ⟨?_,(Upd.refl _ _).alloc _⟩
  first
   | exact ret_t (PL.out.2 ⟨(by first | assumption | exact ne_f (by assumption)),(by first | assumption | exact ne_f (by assumption)),(by first | assumption | exact ne_f (by assumption)),(by first | assumption | exact ne_f (by assumption)),len0 KL.out (by assumption),txt0 (by assumption)⟩)
   | (refine ret_f fun hp=>?_
      obtain ⟨h0,h1,h2,h3,h4,h5⟩:=PL.out.1 hp
      first | exact absurd h0 (by assumption) | exact ne_t (by assumption) h0 | exact absurd h1 (by assumption) | exact ne_t (by assumption) h1 | exact absurd h2 (by assumption) | exact ne_t (by assumption) h2 | exact absurd h3 (by assumption) | exact ne_t (by assumption) h3 | exact len1 KL.out (by assumption) h4 | exact txt1 (by assumption) h5)
theorem rspare_any (e:En) (hk:0<=e.kind/\e.kind<21) (a1 a2 a3:Option Addr) (c1 c2 c3:Nat) (w:World) :
 Calls Tryz.prog 231 #[enV e a1 a2 a3 c1 c2 c3] w fun en w'=>en=.returned (.bool (decide (plainP e)))/\Upd (fun _=>False) w w':=by
 rcases useF_set hk with h | h | h | h | h | h | h | h | h | h | h | h | h | h | h | h
 · exact spare_c e hk h a1 a2 a3 c1 c2 c3 w
 · exact spare_ck e hk h a1 a2 a3 c1 c2 c3 w
 · exact spare_cm e hk h a1 a2 a3 c1 c2 c3 w
 · exact spare_cnmr e hk h a1 a2 a3 c1 c2 c3 w
 · exact spare_cnmt e hk h a1 a2 a3 c1 c2 c3 w
 · exact spare_ct e hk h a1 a2 a3 c1 c2 c3 w
 · exact spare_cwmrs e hk h a1 a2 a3 c1 c2 c3 w
 · exact spare_cwnm e hk h a1 a2 a3 c1 c2 c3 w
 · exact spare_kt e hk h a1 a2 a3 c1 c2 c3 w
 · exact spare_nmr e hk h a1 a2 a3 c1 c2 c3 w
 · exact spare_nr e hk h a1 a2 a3 c1 c2 c3 w
 · exact spare_r e hk h a1 a2 a3 c1 c2 c3 w
 · exact spare_rt e hk h a1 a2 a3 c1 c2 c3 w
 · exact spare_wms e hk h a1 a2 a3 c1 c2 c3 w
 · exact spare_wn e hk h a1 a2 a3 c1 c2 c3 w
 · exact spare_ws e hk h a1 a2 a3 c1 c2 c3 w
end Go.Proofs.YtjkmalddfoemhaaGreatDoor
namespace Go.Proofs.YtjkmalddfoemhaaGreatDoor
open Go.RowKit Go.Deep
theorem use_len (k:Int):(useF k).length<=1000:=by
 unfold useF
 rw [List.getD_eq_getElem?_getD]
 cases h:useTab[k.toNat]? with
 | none=>exact Nat.zero_le _
 | some l =>
   have:∀ l∈useTab,l.length<=1000:=by decide
   exact this l (List.mem_of_getElem? h)
theorem rref_any (e:En) (hk:0<=e.kind/\e.kind<21) (a1 a2 a3:Option Addr) (c1 c2 c3:Nat) (w:World):Calls Tryz.prog 236 #[enV e a1 a2 a3 c1 c2 c3] w fun en w'=>en=.returned (.bool (decide (refR e)))/\Upd (fun _=>False) w w':=by
 unfold enV
 by_cases h1:e.ref=-1
 case neg =>
  have t1:(e.ref==-1)=false:=beq_eq_false_iff_ne.2 h1
  have EQ:=hid (show toP e.ref 1073741824↔refR e by unfold refR;rw [if_neg h1])
  clear h1
  go_enter Tryz.func236,Tryz.ntmps236
  go_wp2_with (go_at_call 230;refine (to_any _ _ _).mono ?_;rintro ex wx ⟨rfl,rfl⟩)
  go_ret
  exact ⟨ret_dec EQ.out,(Upd.refl _ _).alloc _⟩
 have t1:(e.ref==-1)=true:=beq_iff_eq.2 h1
 have EQ:=hid (show refR e↔(114∉useF e.kind\/e.kind=7\/e.kind=8\/e.kind=18\/e.kind=19) by unfold refR;rw [if_pos h1])
 clear h1
 by_cases h2:114∈useF e.kind
 case neg =>
  have HY:=hid (EQ.out.2 (.inl h2))
  go_enter Tryz.func236,Tryz.ntmps236
  go_wp2_with (first | (go_at_call 233;refine (ruses_any _ hk _).mono ?_;rintro ex wx ⟨rfl,rfl⟩) | (go_at_call 234;refine (rin_any (useF e.kind) 114 114 rfl (use_len _) _).mono ?_;rintro ex wx ⟨rfl,rfl⟩;rw [decide_eq_false h2]))
  go_ret
  exact ⟨ret_t HY.out,(Upd.refl _ _).alloc _⟩
 have H2:=hid h2
 clear h2
 go_enter Tryz.func236,Tryz.ntmps236
 go_wp2_with (first | (go_at_call 233;refine (ruses_any _ hk _).mono ?_;rintro ex wx ⟨rfl,rfl⟩) | (go_at_call 234;refine (rin_any (useF e.kind) 114 114 rfl (use_len _) _).mono ?_;rintro ex wx ⟨rfl,rfl⟩;rw [decide_eq_true H2.out]))
 all_goals
  go_ret
  refine ⟨ret_b ?_,(Upd.refl _ _).alloc _⟩
  rw [EQ.out]
  have h2:=H2.out
  simp only [Bool.or_eq_true,beq_iff_eq,true_iff] at *
  first
   | omega
   | simp_all
theorem rm_any (e:En) (a1 a2 a3:Option Addr) (c1 c2 c3:Nat) (w:World):Calls Tryz.prog 238 #[enV e a1 a2 a3 c1 c2 c3] w fun en w'=>en=.returned (.bool (decide (mR e)))/\Upd (fun _=>False) w w':=by
 unfold enV
 by_cases h1:e.kind=16
 case neg =>
  have t1:(e.kind==16)=false:=beq_eq_false_iff_ne.2 h1
  have EQ:=hid (show toP e.m 1048576↔mR e by unfold mR;rw [if_neg h1])
  clear h1
  go_enter Tryz.func238,Tryz.ntmps238
  go_wp2_with (go_at_call 230;refine (to_any _ _ _).mono ?_;rintro ex wx ⟨rfl,rfl⟩)
  go_ret
  exact ⟨ret_dec EQ.out,(Upd.refl _ _).alloc _⟩
 have t1:(e.kind==16)=true:=beq_iff_eq.2 h1
 have EQ:=hid (show mR e↔(toP e.m 1073741824/\e.m≠e.circle) by unfold mR;rw [if_pos h1])
 clear h1
 by_cases h2:toP e.m 1073741824
 case neg =>
  have HN:=hid (show ¬mR e from fun h=>h2 (EQ.out.1 h).1)
  go_enter Tryz.func238,Tryz.ntmps238
  go_wp2_with (go_at_call 230;refine (to_any _ _ _).mono ?_;rintro ex wx ⟨rfl,rfl⟩;rw [decide_eq_false h2])
  go_ret
  exact ⟨ret_f HN.out,(Upd.refl _ _).alloc _⟩
 have EQ2:=hid (show (e.m != e.circle)=true↔mR e by rw [EQ.out,bne_iff_ne];exact ⟨fun h=>⟨h2,h⟩,fun h=>h.2⟩)
 have H2:=hid h2
 clear h2
 go_enter Tryz.func238,Tryz.ntmps238
 go_wp2_with (go_at_call 230;refine (to_any _ _ _).mono ?_;rintro ex wx ⟨rfl,rfl⟩;rw [decide_eq_true H2.out])
 all_goals
  go_ret
  exact ⟨ret_b (by first | exact EQ2.out | (rw [<-EQ2.out];simp_all)),(Upd.refl _ _).alloc _⟩
theorem rn_any (e:En) (hk:0<=e.kind/\e.kind<21) (a1 a2 a3:Option Addr) (c1 c2 c3:Nat) (w:World):Calls Tryz.prog 237 #[enV e a1 a2 a3 c1 c2 c3] w fun en w'=>en=.returned (.bool (decide (nR e)))/\Upd (fun _=>False) w w':=by
 unfold enV
 rcases kinds hk with hk | hk | hk | hk | hk | hk | hk | hk | hk | hk | hk | hk | hk | hk | hk | hk | hk | hk | hk | hk | hk<;>(
 rw [hk]
 have HK:=hid hk
 clear hk
 go_enter Tryz.func237,Tryz.ntmps237
 go_wp2_with (go_at_call 230;refine (to_any _ _ _).mono ?_;rintro ex wx ⟨rfl,rfl⟩)
 all_goals
  go_ret
  refine ⟨?_,(Upd.refl _ _).alloc _⟩
  have hk:=HK.out
  clear HK
  refine ret_b ?_
  try simp only [decide_eq_true_eq,bne_iff_ne,Bool.false_eq_true,false_iff,true_iff,ne_eq]
  try simp only [nR,hk,toP,Int.reduceEq,if_true,if_false,or_self,or_true,or_false,ne_eq] at *
  first | done | omega | exact decide_eq_true_iff (p:=toP _ _) | simp_all)
end Go.Proofs.YtjkmalddfoemhaaGreatDoor
