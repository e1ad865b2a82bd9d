/- The reference: what it writes. -/
import Derived.Test.YtjkmalddfoemhaaGreatDoorJ7
import Derived.Laws.IdiomStrings
set_option maxRecDepth 100000
namespace Go.Proofs.YtjkmalddfoemhaaGreatDoor
open Go.RowKit Go.Deep
theorem neg_tmod10 (u:Nat):(-(u:Int)).tmod 10=-((u%10:Nat):Int):=by rw [Int.neg_tmod];rfl
theorem neg_tdiv10 (u:Nat):(-(u:Int)).tdiv 10=-((u / 10:Nat):Int):=by rw [Int.neg_tdiv];rfl
theorem conv_one (w:World) (d:Nat) (hd:d<=9):(convert 202 9 (.slice (some ⟨w.heap.size,0,none⟩) 1 1)).run Tryz.prog (w.alloc (.cells #[.int .u8 (48+(d:Int))] 5 (0,0)))=.ok (.string ⟨#[UInt8.ofNat (48+d)]⟩) (w.alloc (.cells #[.int .u8 (48+(d:Int))] 5 (0,0))):=by
 have h:=run_convert_bytes_back (P:=Tryz.prog) (w.alloc (.cells #[.int .u8 (48+(d:Int))] 5 (0,0))) 202 9 5 ⟨w.heap.size,0,none⟩ 1 [UInt8.ofNat (48+d)] Tryz.underlying202 Tryz.underlying5 Tryz.underlying9 (fun j hj=>by
  have:j=0:=by simp at hj;omega
  subst this
  show (w.alloc (.cells #[.int .u8 (48+(d:Int))] 5 (0,0))).cell? ⟨w.heap.size,0,none⟩=_
  rw [World.cell?_alloc_mark]
  show some (Value.int .u8 (48+(d:Int)))=_
  have:(UInt8.ofNat (48+d)).toNat=48+d:=by rw [UInt8.toNat_ofNat'];omega
  rw [List.getElem_singleton,this];rfl)
 exact h
theorem dec_small {u:Nat} (h:u<10):Lib.decDigits u=[UInt8.ofNat (48+u%10)]:=by rw [Lib.decDigits,dif_pos h,Nat.mod_eq_of_lt h]
theorem dec_big {u:Nat} (h:¬u<10):Lib.decDigits u=Lib.decDigits (u / 10)++[UInt8.ofNat (48+u%10)]:=by rw [Lib.decDigits,dif_neg h]
theorem digits_any:∀ (k u:Nat),u<10 ^ (k+1)->u<=9223372036854775808->k<=30->∀ (w:World),Calls Tryz.prog 210 #[.int .i64 (-(u:Int))] w fun e w'=>e=.returned (.string ⟨(Lib.decDigits u).toArray⟩)/\Upd (fun _=>False) w w':=by
 intro k
 induction k with
 | zero =>
   intro u hu hu2 _ w
   obtain ⟨n,hn⟩:∃ n:Int,-(u:Int)=n:=⟨_,rfl⟩
   obtain ⟨d,hd⟩:∃ d:Nat,u%10=d:=⟨_,rfl⟩
   have hm:=neg_tmod10 u
   rw [hn,hd] at hm
   have h10:-10<n:=by have:u<10:=by simpa using hu
                      omega
   have hd9:d<=9:=by omega
   have hdec:=dec_small (u:=u) (by simpa using hu)
   have hconv:=conv_one w d hd9
   rw [hn]
   rw [hd] at hdec
   generalize UInt8.ofNat (48+d)=c at *
   have HD:=hid hdec
   clear hu hu2 hn hd hdec
   go_enter Tryz.func210,Tryz.ntmps210
   go_wp2_with fail
   go_ret
   exact ⟨by rw [HD.out];rfl,(Upd.refl _ _).alloc _⟩
 | succ k ih =>
   intro u hu hu2 hk w
   by_cases h10:u<10
   · exact ih u (Nat.lt_of_lt_of_le h10 (by have:=Nat.pow_le_pow_right (n:=10) (by decide) (show 1<=k+1 by omega);omega)) hu2 (by omega) w
   obtain ⟨n,hn⟩:∃ n:Int,-(u:Int)=n:=⟨_,rfl⟩
   obtain ⟨d,hd⟩:∃ d:Nat,u%10=d:=⟨_,rfl⟩
   obtain ⟨q,hq⟩:∃ q:Nat,u / 10=q:=⟨_,rfl⟩
   have hm:=neg_tmod10 u
   have hqq:=neg_tdiv10 u
   rw [hn,hd] at hm
   rw [hn,hq] at hqq
   have hn10:n<=-10:=by omega
   have hd9:d<=9:=by omega
   have hdec:=dec_big (u:=u) h10
   have hlen:=dec_len k q (by rw [<-hq];rw [Nat.pow_succ] at hu;omega)
   have hadd:=add_lists (Lib.decDigits q) [UInt8.ofNat (48+d)] (by simp;omega)
   have hconv:=conv_one w d hd9
   have hm1:-922337203685477581<=-(q:Int):=by omega
   have hm2:-(q:Int)<=0:=by omega
   have IH:=hid (ih q (by rw [<-hq];rw [Nat.pow_succ] at hu;omega) (by omega) (by omega))
   rw [hn]
   rw [hd,hq] at hdec
   generalize UInt8.ofNat (48+d)=c at *
   generalize -(q:Int)=m at *
   have HD:=hid hdec
   clear hu hu2 hn hd hdec hq hlen ih h10 hk
   have hquo:n.tdiv 10=m:=hqq
   clear hqq
   go_enter Tryz.func210,Tryz.ntmps210
   go_wp2_with fail
   refine (IH.out _).mono ?_
   rintro e w1 ⟨rfl,u1⟩
   have U:=hid (((Upd.refl _ _).alloc _).trans u1)
   clear u1
   go_wp2_with fail
   go_ret
   exact ⟨by rw [HD.out];rfl,U.out⟩
end Go.Proofs.YtjkmalddfoemhaaGreatDoor
namespace Go.Proofs.YtjkmalddfoemhaaGreatDoor
open Go.RowKit Go.Deep
theorem dig_any (u:Nat) (h:u<=9223372036854775808) (w:World):Calls Tryz.prog 210 #[.int .i64 (-(u:Int))] w fun e w'=>e=.returned (.string ⟨(Lib.decDigits u).toArray⟩)/\Upd (fun _=>False) w w' :=
 digits_any 18 u (Nat.lt_of_le_of_lt h (by decide)) h (by decide) w
theorem dig_len (u:Nat) (h:u<=9223372036854775808):(Lib.decDigits u).length<=19:=dec_len 18 u (Nat.lt_of_le_of_lt h (by decide))
theorem qInt_any (n:Int) (hn:I64 n) (w:World) :
 Calls Tryz.prog 176 #[.int .i64 n] w fun e w'=>e=.returned (.string ⟨(intE n).toArray⟩)/\Upd (fun _=>False) w w':=by
 by_cases h0:n<0
 · have he:intE n=45::(Lib.decDigits n.natAbs++[59]):=by unfold intE Lib.itoa;rw [if_pos h0];rfl
   have hu:n.natAbs<=9223372036854775808:=by unfold I64 at hn;omega
   have hl:=dig_len _ hu
   have DG:=dig_any _ hu
   have hnn:-(n.natAbs:Int)=n:=by omega
   rw [hnn] at DG
   have IH:=hid DG;have HE:=hid he
   have hn1:=hn.1
   generalize Lib.decDigits n.natAbs=ds at *
   have a1:=add_lists [45] ds (by simp;omega)
   have a2:=add_lists (45::ds) [59] (by simp;omega)
   clear hn hu hl DG hnn he
   go_enter Tryz.func176,Tryz.ntmps176
   go_wp2_with fail
   refine (IH.out _).mono ?_
   rintro e w1 ⟨rfl,u⟩
   have U:=hid u;clear u
   go_wp2_with fail
   go_ret
   exact ⟨by rw [HE.out];rfl,U.out⟩
 · have he:intE n=Lib.decDigits n.toNat++[59]:=by unfold intE Lib.itoa;rw [if_neg h0]
   have hu:n.toNat<=9223372036854775808:=by unfold I64 at hn;omega
   have hl:=dig_len _ hu
   have DG:=dig_any _ hu
   have hnn:-(n.toNat:Int)=-n:=by omega
   rw [hnn] at DG
   have IH:=hid DG;have HE:=hid he
   have hn2:=hn.2
   have h0':0<=n:=by omega
   have hnb:decide (n<0)=false:=decide_eq_false h0
   generalize Lib.decDigits n.toNat=ds at *
   have a1:=add_lists ds [59] (by simp;omega)
   clear hn hu hl DG hnn he h0
   go_enter Tryz.func176,Tryz.ntmps176
   go_wp2_with fail
   refine (IH.out _).mono ?_
   rintro e w1 ⟨rfl,u⟩
   have U:=hid u;clear u
   go_wp2_with fail
   go_ret
   exact ⟨by rw [HE.out];rfl,U.out⟩
theorem qNum_any (n:Int) (hn:I64 n) (w:World) :
 Calls Tryz.prog 163 #[.int .i64 n] w fun e w'=>e=.returned (.string ⟨(numE n).toArray⟩)/\Upd (fun _=>False) w w':=by
 have HN:=hid hn
 clear hn
 by_cases h0:n<0
 · have he:=hid (show numE n=[] by unfold numE;rw [if_pos h0])
   go_enter Tryz.func163,Tryz.ntmps163
   go_wp2_with fail
   go_ret
   exact ⟨by rw [he.out];rfl,Upd.refl _ _⟩
 · have he:=hid (show numE n=intE n by unfold numE;rw [if_neg h0])
   have h0':0<=n:=by omega
   clear h0
   go_enter Tryz.func163,Tryz.ntmps163
   go_wp2_with fail
   refine (qInt_any n HN.out _).mono ?_
   rintro e w1 ⟨rfl,u⟩
   have U:=hid u;clear u
   go_wp2_with fail
   go_ret
   exact ⟨by rw [he.out];rfl,U.out⟩
theorem itoa_nat (n:Nat):Lib.itoa (n:Int)=Lib.decDigits n:=by unfold Lib.itoa;rw [if_neg (by omega),Int.toNat_natCast]
theorem qText_any (s:List UInt8) (hs:s.length<=10000000) (w:World) :
 Calls Tryz.prog 164 #[.string ⟨s.toArray⟩] w fun e w'=>e=.returned (.string ⟨(textE s).toArray⟩)/\Upd (fun _=>False) w w':=by
 have he:textE s=Lib.decDigits s.length++58::(s++[44]):=by unfold textE;rw [itoa_nat]
 have hl:=dig_len s.length (by omega)
 have IH:=hid (dig_any s.length (by omega))
 have HE:=hid he
 have hsi:(s.length:Int)<=10000000:=by omega
 generalize Lib.decDigits s.length=ds at *
 have a1:=add_lists ds [58] (by simp;omega)
 have a2:=add_lists (ds++[58]) s (by simp;omega)
 have a3:=add_lists (ds++[58]++s) [44] (by simp;omega)
 simp only [List.append_assoc,List.cons_append,List.nil_append] at a1 a2 a3
 clear hs hl he
 go_enter Tryz.func164,Tryz.ntmps164
 go_wp2_with fail
 refine (IH.out _).mono ?_
 rintro e w1 ⟨rfl,u⟩
 have U:=hid u;clear u
 go_wp2_with fail
 go_ret
 exact ⟨by rw [HE.out];rfl,U.out⟩
def lp {α:Type} (f:α->List UInt8) (l:List α) (i:Nat):List UInt8:=Lib.decDigits l.length++91::((l.take i).map f).flatten
theorem lp_zero {α:Type} (f:α->List UInt8) (l:List α):lp f l 0=Lib.decDigits l.length++[91]:=by unfold lp;simp
theorem lp_snoc {α:Type} (f:α->List UInt8) (l:List α) (i:Nat) (h:i<l.length):lp f l (i+1)=lp f l i++f l[i]:=by
 unfold lp
 rw [List.take_succ_eq_append_getElem h,List.map_append,List.flatten_append]
 simp
theorem lp_end {α:Type} (f:α->List UInt8) (l:List α):listE f l=lp f l l.length++[93]:=by
 unfold lp listE
 rw [List.take_length,itoa_nat];simp
theorem lp_len {α:Type} (f:α->List UInt8) (l:List α) (i:Nat):(lp f l i).length<=(listE f l).length:=by
 have h:(l.map f).flatten=((l.take i).map f).flatten++((l.drop i).map f).flatten:=by rw [<-List.flatten_append,<-List.map_append,List.take_append_drop]
 unfold lp listE
 rw [itoa_nat,h]
 simp
theorem qNums_any (v:Value) (l:List Int) (w:World) (hl:kInts.rep (· < w.heap.size) w [v] l) (hwf:∀ x∈l,I64 x) (hsum:(listE intE l).length<=50000000) :
 Calls Tryz.prog 175 #[v] w fun e w'=>e=.returned (.string ⟨(numsE l).toArray⟩)/\Upd (fun _=>False) w w':=by
 have HL:=hid hl;have WF:=hid hwf;have SUM:=hid hsum
 obtain ⟨a,cap,rfl,h1,h2,_⟩:=slice_open hl
 have h2:cap<=9223372036854775807:=h2
 have hle:=dig_len l.length (by omega)
 have IH:=hid (dig_any l.length (by omega))
 have Z:=hid (lp_zero intE l)
 have EN:=hid (show numsE l=lp intE l l.length++[93] from lp_end intE l)
 have LP:=hid (lp_len intE l)
 have SN:=hid (lp_snoc intE l)
 have a1:=add_lists (Lib.decDigits l.length) [91] (by simp;omega)
 clear hl hwf hsum hle
 go_enter Tryz.func175,Tryz.ntmps175
 go_wp2_with fail
 refine (IH.out _).mono ?_
 rintro e w1 ⟨rfl,u⟩
 have U:=hid u;clear u
 go_wp2_with fail
 clear a1
 go_loopg [3,4] l.length (fun gg s3 s4 wr=>∃ (i:Nat),i<=l.length/\gg=l.length-i/\s3=.string ⟨(lp intE l i).toArray⟩/\s4=.int .i64 i/\Upd (fun _=>False) w wr)
 case atStart=>exact ⟨0,Nat.zero_le _,rfl,by rw [Z.out],rfl,U.out⟩
 case round =>
  clear U
  obtain ⟨i,hi,hg,rfl,rfl,u⟩:=hrel
  have HG:=hid hg;have U:=hid u
  clear hg u
  by_cases hlt:i<l.length
  · have hlti:(i:Int)<l.length:=by omega
    obtain ⟨b,o,ra,hb,hel⟩:=slice_at HL.out (by omega)
    subst ra
    have c0:=cell_kept (int_cells hel hlt) (U.out.block b hb id)
    have SI:=hid (SN.out i hlt)
    have hx:=WF.out l[i] (List.getElem_mem hlt)
    have l1:=LP.out (i+1)
    rw [SI.out,List.length_append] at l1
    have l2:=SUM.out
    have a2:=add_lists (lp intE l i) (intE l[i]) (by omega)
    have HX:=hid hx;have A2:=hid a2
    clear hel hx l1 l2 a2
    generalize l[i]=x at *
    generalize lp intE l i=T at *
    go_wp2_with fail
    refine (qInt_any x HX.out _).mono ?_
    rintro e w3 ⟨rfl,u⟩
    have U3:=hid (U.out.trans u);clear u c0
    have a2:=A2.out
    go_wp2_with fail
    go_roundg (l.length-(i+1))
    case measure=>have:=HG.out;omega
    case rel=>exact ⟨i+1,by omega,rfl,by rw [SI.out],by go_num,U3.out⟩
  · obtain rfl:i=l.length:=by omega
    have l1:=LP.out l.length
    have l2:=SUM.out
    have a2:=add_lists (lp intE l l.length) [93] (by simp;omega)
    clear l1 l2
    generalize lp intE l l.length=T at *
    go_wp2_with fail
    go_ret
    exact ⟨by rw [EN.out];rfl,U.out⟩
end Go.Proofs.YtjkmalddfoemhaaGreatDoor
namespace Go.Proofs.YtjkmalddfoemhaaGreatDoor
open Go.RowKit Go.Deep
def RqAt (w:World) (b:Nat) (r:RS):Prop:=w.heap[b]? = some (.cells #[.string ⟨r.rest.toArray⟩,.bool r.bad] 261 (0,0))
theorem RqAt.upd {S:Nat->Prop} {w w':World} {b:Nat} {r:RS} (h:RqAt w b r) (u:Upd S w w') (hb:¬S b):RqAt w' b r:=(u.block b (heap_lt h) hb).trans h
theorem idx (l:List UInt8) (k:Nat) (_:k<l.length):∀ h,(ByteArray.mk l.toArray)[k]'h=l[k]:=fun _=>rfl
end Go.Proofs.YtjkmalddfoemhaaGreatDoor
