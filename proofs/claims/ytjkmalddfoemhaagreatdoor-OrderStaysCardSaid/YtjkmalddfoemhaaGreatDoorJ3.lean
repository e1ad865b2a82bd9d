/- Layer 1: the library's calls, and the encodings of numbers and strings. -/
import Derived.Test.YtjkmalddfoemhaaGreatDoorJ2
import Derived.Test.YtjkmalddfoemhaaGreatDoorJ1
import Derived.Test.YtjkmalddfoemhaaGreatDoorShelf
import Derived.ShutString
import Derived.Lib.AppendIntMem
import Derived.Laws.Concat
import Derived.Deep.RegionHeld3
import Derived.Lib.OthersKept
import Derived.Shelf.SlicesQ.IndexFunc
import Derived.Lib.SliceRun
import Derived.Deep.RegionWith
import Derived.StillTailTactics
set_option maxRecDepth 100000
set_option maxHeartbeats 4000000
namespace Go.Proofs.YtjkmalddfoemhaaGreatDoor
open Go.RowKit Go.Deep
structure Env (W:World):Prop where
 tab : Lib.TabIs Tryz.prog W "internal/strconv.uint64pow10" .u64 Lib.pow10Tab
 syn : ∃ tp p, W.var? Tryz.prog "strconv.ErrSyntax" = some #[.iface tp p]
 rng : ∃ tp p, W.var? Tryz.prog "strconv.ErrRange" = some #[.iface tp p]
theorem var_keep {W W':World} {S:Nat->Prop} {n:String} {g:Nat} {cs:Array Value} (hg:Tryz.prog.globalNamed n=some g) (h:W.var? Tryz.prog n=some cs) (u:Upd S W W') (hS:¬S g):W'.var? Tryz.prog n=some cs:=by
 unfold World.var? at *
 simp only [hg,Option.bind_some] at h ⊢
 have hlt:g<W.heap.size:=by
  rcases Nat.lt_or_ge g W.heap.size with h' | h'
  · exact h'
  · rw [Array.getElem?_eq_none h'] at h;simp at h
 rw [u.block g hlt hS]
 exact h
theorem gTab : Tryz.prog.globalNamed "internal/strconv.uint64pow10" = some 4 := by kernel_rfl
theorem gSyn : Tryz.prog.globalNamed "strconv.ErrSyntax" = some 2 := by kernel_rfl
theorem gRng : Tryz.prog.globalNamed "strconv.ErrRange" = some 3 := by kernel_rfl
theorem Env.keep {W W':World} {S:Nat->Prop} (h:Env W) (u:Upd S W W') (hS:∀ k,S k->6<=k):Env W' :=
 ⟨var_keep gTab h.tab u (fun h=>absurd (hS _ h) (by decide)),
  let ⟨tp,p,hv⟩:=h.syn;⟨tp,p,var_keep gSyn hv u (fun h=>absurd (hS _ h) (by decide))⟩,
  let ⟨tp,p,hv⟩:=h.rng;⟨tp,p,var_keep gRng hv u (fun h=>absurd (hS _ h) (by decide))⟩⟩
theorem Env.keep0 {W W':World} (h:Env W) (u:Upd (fun _=>False) W W'):Env W':=h.keep u fun _ h=>h.elim
theorem upd_of_below {a b:World} (k:Below a.heap.size a b):Upd (fun _=>False) a b:=Upd.of_below k fun _ hi _=>hi
theorem itoa_any (n:Int) (hn:I64 n) (w:World) (E:Env w) :
 Calls Tryz.prog 168 #[.int .i64 n] w fun e w'=>e=.returned (.string ⟨(Lib.itoa n).toArray⟩)/\Upd (fun _=>False) w w' :=
 (Tryz.strconv_Itoa n hn.1 hn.2 w E.tab).mono fun _ _ ⟨he,k,os,hw⟩=>⟨he,by rw [hw];exact upd_of_below (Lib.below_grow _ w (Nat.le_refl _) k os)⟩
theorem add_lists (a b:List UInt8) (h:a.length+b.length<=100000000) (w:World):(Op.stringOp .add ⟨a.toArray⟩ ⟨b.toArray⟩).run Tryz.prog w=.ok (.string ⟨(a++b).toArray⟩) w:=by
 rw [run_string_add_sum w _ _ (by simp [ByteArray.size];omega),ByteArray.mk_append_mk]
theorem intE_any (n:Int) (hn:I64 n) (w:World) (E:Env w) :
 Calls Tryz.prog 99 #[.int .i64 n] w fun e w'=>e=.returned (.string ⟨(intE n).toArray⟩)/\Upd (fun _=>False) w w':=by
 have HN:=hid hn;have HE:=hid E
 have a1:∀ w,(Op.stringOp .add ⟨(Lib.itoa n).toArray⟩ ⟨#[59]⟩).run Tryz.prog w=.ok (.string ⟨(Lib.itoa n++[59]).toArray⟩) w:=fun w=>add_lists _ [59] (by have:=itoa_len hn;simp;omega) w
 clear hn E
 go_enter Tryz.func99,Tryz.ntmps99
 go_wp2_with fail
 refine (itoa_any n HN.out _ HE.out).mono ?_
 rintro e w1 ⟨rfl,u⟩
 have U:=hid u;clear u
 go_wp2_with fail
 go_ret
 exact ⟨by unfold intE;rfl,U.out⟩
theorem textE_any (s:List UInt8) (hs:s.length<=10000000) (w:World) (E:Env w) :
 Calls Tryz.prog 103 #[.string ⟨s.toArray⟩] w fun e w'=>e=.returned (.string ⟨(textE s).toArray⟩)/\Upd (fun _=>False) w w':=by
 have hi:I64 s.length:=by unfold I64;omega
 have HN:=hid hi;have HE:=hid E
 have hl:=itoa_len hi
 have a1:∀ w,(Op.stringOp .add ⟨(Lib.itoa s.length).toArray⟩ ⟨#[58]⟩).run Tryz.prog w=.ok (.string ⟨(Lib.itoa s.length++[58]).toArray⟩) w:=fun w=>add_lists _ [58] (by simp;omega) w
 have a2:∀ w,(Op.stringOp .add ⟨(Lib.itoa s.length++[58]).toArray⟩ ⟨s.toArray⟩).run Tryz.prog w=.ok (.string ⟨(Lib.itoa s.length++58::s).toArray⟩) w:=fun w=>by
  have:=add_lists (Lib.itoa s.length++[58]) s (by simp;omega) w
  simpa using this
 have a3:∀ w,(Op.stringOp .add ⟨(Lib.itoa s.length++58::s).toArray⟩ ⟨#[44]⟩).run Tryz.prog w=.ok (.string ⟨(textE s).toArray⟩) w:=fun w=>by
  have:=add_lists (Lib.itoa s.length++58::s) [44] (by simp;omega) w
  simpa [textE] using this
 clear E hi hl
 go_enter Tryz.func103,Tryz.ntmps103
 go_wp2_with fail
 refine (itoa_any s.length HN.out _ HE.out).mono ?_
 rintro e w1 ⟨rfl,u⟩
 have U:=hid u;clear u
 go_wp2_with fail
 go_ret
 exact ⟨rfl,U.out⟩
theorem numE_any (n:Int) (hn:I64 n) (w:World) (E:Env w) :
 Calls Tryz.prog 25 #[.int .i64 n] w fun e w'=>e=.returned (.string ⟨(numE n).toArray⟩)/\Upd (fun _=>False) w w':=by
 have HN:=hid hn;have HE:=hid E
 clear hn E
 by_cases h0:n<0
 · have hf:=hid (show numE n=[] by unfold numE;rw [if_pos h0])
   go_enter Tryz.func25,Tryz.ntmps25
   go_wp2_with fail
   go_ret
   exact ⟨by rw [hf.out];rfl,Upd.refl _ _⟩
 · have hf:=hid (show numE n=intE n by unfold numE;rw [if_neg h0])
   go_enter Tryz.func25,Tryz.ntmps25
   go_wp2_with fail
   refine (intE_any n HN.out _ HE.out).mono ?_
   rintro e w1 ⟨rfl,u⟩
   have U:=hid u;clear u
   go_wp2_with fail
   go_ret
   exact ⟨by rw [hf.out];rfl,U.out⟩
def RdAt (w:World) (b:Nat) (r:RS):Prop:=w.heap[b]? = some (.cells #[.string ⟨r.rest.toArray⟩,.bool r.bad] 142 (0,0))
theorem cells2 {w:World} {p:Nat} {a b:Value} {t:TypeId} (h:w.heap[p]? = some (.cells #[a,b] t (0,0))):w.cell? ⟨p,0,none⟩=some a/\w.cell? ⟨p,1,none⟩=some b/\∀ o,w.frozen? ⟨p,o,none⟩=false :=
 ⟨by rw [cell_of_block h];rfl,by rw [cell_of_block h];rfl,fun _=>frozen_of_block h⟩
theorem store2 {w:World} {p:Nat} {a b x y:Value} {t:TypeId} (h:w.heap[p]? = some (.cells #[a,b] t (0,0))) :
 ((w.setCell ⟨p,0,none⟩ x).setCell ⟨p,1,none⟩ y).heap[p]? = some (.cells #[x,y] t (0,0)):=by
 simp [heap_setCell,Obj.setAt,h]
theorem store0 {w:World} {p:Nat} {a b x:Value} {t:TypeId} (h:w.heap[p]? = some (.cells #[a,b] t (0,0))) :
 (w.setCell ⟨p,0,none⟩ x).heap[p]? = some (.cells #[x,b] t (0,0)):=by
 simp [heap_setCell,Obj.setAt,h]
theorem RdAt.upd {S:Nat->Prop} {w w':World} {b:Nat} {r:RS} (h:RdAt w b r) (u:Upd S w w') (hb:¬S b):RdAt w' b r:=(u.block b (heap_lt h) hb).trans h
theorem open_any (s:List UInt8) (w:World) :
 Calls Tryz.prog 28 #[.string ⟨s.toArray⟩] w fun e w'=>e=.returned (.pointer (some ⟨w.heap.size,0,none⟩))/\RdAt w' w.heap.size ⟨s,false⟩/\Upd (fun _=>False) w w':=by
 go_enter Tryz.func28,Tryz.ntmps28
 go_wp2_with fail
 go_ret
 exact ⟨rfl,heap_alloc_new,(Upd.refl _ _).alloc _⟩
theorem fail_any (b:Nat) (r:RS) (w:World) (h:RdAt w b r) :
 Calls Tryz.prog 101 #[.pointer (some ⟨b,0,none⟩)] w fun e w'=>e=.returned (.tuple #[])/\RdAt w' b failS/\Upd (· = b) w w':=by
 obtain ⟨c0,c1,hf⟩:=cells2 h
 have hs:=hid (store2 (x:=.string ⟨#[]⟩) (y:=.bool true) h)
 clear h
 go_enter Tryz.func101,Tryz.ntmps101
 go_wp2_with fail
 go_end0
 exact ⟨rfl,hs.out,((Upd.refl _ _).at_ _ _).at_ _ _⟩
theorem hasPrefix_one (b c:UInt8) (l:List UInt8):Lib.hasPrefix (b::l) [c]=(b==c):=by
 simp only [Lib.hasPrefix,List.isPrefixOf,Bool.and_true]
 exact BEq.comm
end Go.Proofs.YtjkmalddfoemhaaGreatDoor
namespace Go.Proofs.YtjkmalddfoemhaaGreatDoor
open Go.RowKit Go.Deep
def UsesIn (w:World):Prop:=∀ k (h:k<useTab.length),w.cell? ⟨0,k,none⟩=some (.string ⟨(useTab[k]).toArray⟩)
theorem UsesIn.keep {w w':World} (h:UsesIn w) (u:Upd (fun _=>False) w w'):UsesIn w':=fun k hk=>cell_kept (h k hk) (u.block _ (World.block_lt_of_cell? _ _ (h k hk)) id)
theorem contains_any (l:List UInt8) (c:UInt8) (r:Int) (hr:r=c.toNat) (hc:c.toNat<128) (w:World) :
 Calls Tryz.prog 253 #[.string ⟨l.toArray⟩,.int .i32 r] w fun e w'=>e=.returned (.bool (decide (c∈l)))/\w=w':=by
 refine (Tryz.strings_ContainsRune_ascii ⟨l.toArray⟩ r w (by omega) (by omega)).mono fun e w' h=>⟨?_,h.2.symm⟩
 rw [h.1]
 congr 2
 rw [decide_eq_decide]
 have e1:r.toNat.toUInt8=c:=by subst hr;simp
 rw [e1]
 show 0<=Lib.indexByte l c↔c∈l
 constructor
 · intro h
   obtain ⟨p,t,rfl,_,_⟩:=index_some h
   simp
 · intro h
   obtain ⟨p,t,rfl,hp⟩:=List.eq_append_cons_of_mem h
   rw [index_at t hp];omega
def emptyL (e:En):List Bool:=[e.circle==0,e.who==0,e.n==0,e.m==0,e.ref==-1,((e.keys.length:Int)==0),((e.spans.length:Int)==0),e.text.isEmpty]
theorem plain_iff (e:En):plainP e↔∀ i (h:i<8),letters[i]'h∉useF e.kind->(emptyL e)[i]'h=true:=by
 unfold plainP
 constructor
 · rintro ⟨h0,h1,h2,h3,h4,h5,h6,h7⟩ i hi
   have:i=0\/i=1\/i=2\/i=3\/i=4\/i=5\/i=6\/i=7:=by omega
   rcases this with rfl | rfl | rfl | rfl | rfl | rfl | rfl | rfl
   · intro h;exact beq_iff_eq.2 (h0 h)
   · intro h;exact beq_iff_eq.2 (h1 h)
   · intro h;exact beq_iff_eq.2 (h2 h)
   · intro h;exact beq_iff_eq.2 (h3 h)
   · intro h;exact beq_iff_eq.2 (h4 h)
   · intro h;show ((e.keys.length:Int)==0)=true;rw [h5 h];rfl
   · intro h;show ((e.spans.length:Int)==0)=true;rw [h6 h];rfl
   · intro h;exact List.isEmpty_iff.2 (h7 h)
 · intro h
   refine ⟨fun g=>?_,fun g=>?_,fun g=>?_,fun g=>?_,fun g=>?_,fun g=>?_,fun g=>?_,fun g=>?_⟩
   · exact beq_iff_eq.1 (h 0 (by decide) g)
   · exact beq_iff_eq.1 (h 1 (by decide) g)
   · exact beq_iff_eq.1 (h 2 (by decide) g)
   · exact beq_iff_eq.1 (h 3 (by decide) g)
   · exact beq_iff_eq.1 (h 4 (by decide) g)
   · have h':((e.keys.length:Int)==0)=true:=h 5 (by decide) g
     have:=beq_iff_eq.1 h';exact List.length_eq_zero_iff.1 (by omega)
   · have h':((e.spans.length:Int)==0)=true:=h 6 (by decide) g
     have:=beq_iff_eq.1 h';exact List.length_eq_zero_iff.1 (by omega)
   · exact List.isEmpty_iff.1 (h 7 (by decide) g)
theorem upd_iter (w:World) (s:ByteArray) (p:Nat):Upd (fun _=>False) w (w.iter s p):=(Upd.refl _ w).alloc (.stringIter s p)
theorem upd_iterAt (w:World) (s:ByteArray) (k p:Nat):Upd (· = k) w (w.iterAt k s p):=⟨rfl,rfl,rfl,by simp [World.iterAt],fun j hj hn=>by simp only [World.iterAt];rw [Array.getElem?_setIfInBounds_ne (Ne.symm hn)]⟩
theorem plain_any (e:En) (a1 a2 a3:Option Addr) (c1 c2 c3:Nat) (w:World) (hk:0<=e.kind/\e.kind<21) (hu:UsesIn w) :
 Calls Tryz.prog 202 #[enV e a1 a2 a3 c1 c2 c3] w fun en w'=>en=.returned (.bool (decide (plainP e)))/\Upd (fun _=>False) w w':=by
 obtain ⟨k,hkk⟩:=Int.eq_ofNat_of_zero_le hk.1
 have hk2:k<useTab.length:=by show k<21;omega
 have hki:(k:Int)<21:=by omega
 have m0:=hu k hk2
 obtain ⟨us,hus⟩:∃ us,useTab[k]=us:=⟨_,rfl⟩
 rw [hus] at m0
 have HU:=hid hu
 have hz:0<w.heap.size:=World.block_lt_of_cell? _ _ m0
 have HUS:=hid hus
 unfold enV
 rw [hkk]
 have HK:=hid hkk
 clear hu hk hus hkk
 go_enter Tryz.func202,Tryz.ntmps202
 go_wp2_with fail
 have HE:=hid (show useF (k:Int)=us by rw [<-HUS.out];unfold useF;rw [Int.toNat_natCast,List.getD_eq_getElem?_getD,List.getElem?_eq_getElem hk2];rfl)
 have fin:∀ {b:Bool},(b=true↔∀ i (h:i<8),letters[i]'h∉us->(emptyL e)[i]'h=true)->Ending.returned (.bool b)=.returned (.bool (decide (plainP e))):=fun h=>ret_b (h.trans (by rw [plain_iff,HK.out,HE.out]))
 have FIN:Hid (∀ {b:Bool},(b=true↔∀ i (h:i<8),letters[i]'h∉us->(emptyL e)[i]'h=true)->Ending.returned (.bool b)=.returned (.bool (decide (plainP e)))):=hid fin
 clear fin
 go_loopg [5] 8 (fun gg _ wr=>∃ pos:Nat,pos<=8/\gg=8-pos/\wr.heap[w.heap.size+1+1]? = some (.stringIter ⟨#[99,119,110,109,114,107,115,116]⟩ pos)/\wr.heap[w.heap.size+1]? = some (.cells ((emptyL e).map Value.bool).toArray 270 (0,0))/\(∀ i (h:i<8),i<pos->letters[i]'h∉us->(emptyL e)[i]'h=true)/\Upd (fun _=>False) w wr)
 case atStart =>
  refine ⟨0,Nat.zero_le _,rfl,?_,?_,fun i _ h=>absurd h (Nat.not_lt_zero _),(((Upd.refl _ _).alloc _).alloc _).trans (upd_iter _ _ _)⟩
  · have:=World.iter_heap ((w.alloc (.cells #[.int .i64 e.author,.int .i64 e.seq,.int .i64 e.day,.slice a1 e.knows.length c1,.int .i64 k,.int .i64 e.circle,.int .i64 e.who,.int .i64 e.n,.int .i64 e.m,.int .i64 e.ref,.slice a2 e.keys.length c2,.slice a3 e.spans.length c3,.string ⟨e.text.toArray⟩] 72 (0,0))).alloc (.cells #[.bool (e.circle==0),.bool (e.who==0),.bool (e.n==0),.bool (e.m==0),.bool (e.ref==-1),.bool ((e.keys.length:Int)==0),.bool ((e.spans.length:Int)==0),.bool e.text.isEmpty] 270 (0,0))) ⟨#[99,119,110,109,114,107,115,116]⟩ 0
    simpa using this
  · rw [(upd_iter _ _ _).block (w.heap.size+1) (by simp) id]
    have:((w.alloc (.cells #[.int .i64 e.author,.int .i64 e.seq,.int .i64 e.day,.slice a1 e.knows.length c1,.int .i64 k,.int .i64 e.circle,.int .i64 e.who,.int .i64 e.n,.int .i64 e.m,.int .i64 e.ref,.slice a2 e.keys.length c2,.slice a3 e.spans.length c3,.string ⟨e.text.toArray⟩] 72 (0,0)))).heap.size=w.heap.size+1:=by simp
    rw [<-this]
    exact heap_alloc_new
 case round =>
  obtain ⟨pos,hp,hg,hit,hbl,hinv,u⟩:=hrel
  have HG:=hid hg;have INV:=hid hinv
  have hsz:=heap_lt hit
  clear hg hinv
  by_cases hlt:pos<8
  case neg =>
   have hnx:∀ ty,(Instr.next (.pointer (some ⟨w.heap.size+1+1,0,none⟩)) true ty).run Tryz.prog wr=_:=fun ty=>Lib.run_next_end_at wr (w.heap.size+1+1) _ pos ty hit (by simpa [ByteArray.size] using hlt)
   have HB:=hid (FIN.out (b:=true) ⟨fun _ i h=>INV.out i h (by omega),fun _=>rfl⟩)
   have U:=hid u
   clear hit hbl u
   go_wp2_with fail
   go_ret
   exact ⟨HB.out,U.out⟩
  obtain ⟨c,hc⟩:∃ c,letters[pos]'hlt=c:=⟨_,rfl⟩
  obtain ⟨r,hr⟩:∃ r:Int,r=c.toNat:=⟨_,rfl⟩
  have hcs:c.toNat<128:=by
   have:∀ x∈letters,x.toNat<128:=by decide
   rw [<-hc];exact this _ (List.getElem_mem _)
  obtain ⟨W1,hW1⟩:∃ W1,W1=wr.iterAt (w.heap.size+1+1) ⟨#[99,119,110,109,114,107,115,116]⟩ (pos+1):=⟨_,rfl⟩
  have hnx:∀ ty,(Instr.next (.pointer (some ⟨w.heap.size+1+1,0,none⟩)) true ty).run Tryz.prog wr=.ok (.tuple #[.bool true,.int .i64 pos,.int .i32 r]) W1:=fun ty=>by
   rw [Lib.run_next_ascii_at wr (w.heap.size+1+1) _ pos ty hit (by simpa [ByteArray.size] using hlt) (by rw [show (ByteArray.mk #[99,119,110,109,114,107,115,116])[pos]=c from hc];exact hcs),hW1,hr]
   rw [show (ByteArray.mk #[99,119,110,109,114,107,115,116])[pos]=c from hc]
  have hit1:W1.heap[w.heap.size+1+1]? = some (.stringIter ⟨#[99,119,110,109,114,107,115,116]⟩ (pos+1)):=by rw [hW1];exact Lib.iterAt_heap _ _ _ _ _ hit
  have u1:Upd (· = w.heap.size + 1 + 1) wr W1:=by rw [hW1];exact upd_iterAt _ _ _ _
  have hbl1:=(u1.block (w.heap.size+1) (by omega) (by omega)).trans hbl
  have uw:Upd (fun _=>False) w W1:=u.comp u1 fun i hi e=>by omega
  obtain ⟨bx,hbx⟩:∃ b,(emptyL e)[pos]'hlt=b:=⟨_,rfl⟩
  have n0:W1.cell? ⟨w.heap.size+1,pos,none⟩=some (.bool bx):=by rw [cell_of_block hbl1,<-hbx];simp [hlt,show (emptyL e).length=8 from rfl];rfl
  have hpi:(pos:Int)<8:=by omega
  have step:(letters[pos]'hlt∉us->bx=true)->∀ i (h:i<8),i<pos+1->letters[i]'h∉us->(emptyL e)[i]'h=true:=fun hs i h hi hn=>by
   by_cases e1:i=pos
   · subst e1;rw [hbx];exact hs hn
   · exact INV.out i h (by omega) hn
  have STEP:=hid step;have UW1:=hid uw;have IT:=hid hit1;have BL:=hid hbl1;have HC:=hid hc;have HR:=hid hr;have HCS:=hid hcs;have HBX:=hid hbx
  clear hit hbl u hW1 hit1 u1 hbl1 uw step hc hr hcs hbx
  cases bx with
  | true =>
    go_wp2_with fail
    go_roundg (8-(pos+1))
    case measure=>have:=HG.out;omega
    case rel=>exact ⟨pos+1,by omega,rfl,IT.out,BL.out,STEP.out fun _=>by trivial,UW1.out⟩
  | false =>
    by_cases hin:c∈us
    · have HIN:=hid hin
      clear hin
      go_wp2_with (go_at_call 253;refine (contains_any us c r HR.out HCS.out _).mono ?_;rintro ex wx ⟨rfl,rfl⟩;rw [decide_eq_true HIN.out])
      go_roundg (8-(pos+1))
      case measure=>have:=HG.out;omega
      case rel=>exact ⟨pos+1,by omega,rfl,IT.out,BL.out,STEP.out fun h=>absurd (by rw [HC.out];exact HIN.out) h,UW1.out⟩
    · have HIN:=hid hin
      have HB:=hid (FIN.out (b:=false) ⟨fun h=>(by cases h),fun h=>(by have:=h pos hlt (by rw [HC.out];exact hin);rw [HBX.out] at this;cases this)⟩)
      clear hin
      go_wp2_with (go_at_call 253;refine (contains_any us c r HR.out HCS.out _).mono ?_;rintro ex wx ⟨rfl,rfl⟩;rw [decide_eq_false HIN.out])
      go_ret
      exact ⟨HB.out,UW1.out⟩
end Go.Proofs.YtjkmalddfoemhaaGreatDoor
namespace Go.Proofs.YtjkmalddfoemhaaGreatDoor
open Go.RowKit Go.Deep
theorem ucell {W w1:World} (u:Upd (fun _=>False) W w1):(∀ b o,b<W.heap.size->w1.cell? ⟨b,o,none⟩=W.cell? ⟨b,o,none⟩)/\(∀ b o,b<W.heap.size->w1.frozen? ⟨b,o,none⟩=W.frozen? ⟨b,o,none⟩) :=
 ⟨fun b o h=>World.cell?_of_block (w:=W) (u.block b h id),fun b o h=>by unfold World.frozen?;rw [show w1.heap[(⟨b,o,none⟩:Addr).block]? = W.heap[b]? from u.block b h id]⟩
theorem asc_idx:∀ (l:List Int),ascP l↔∀ i (h:i+1<l.length),l[i]<l[i+1]
 | []=>⟨fun _ i h=>absurd h (Nat.not_lt_zero _),fun _=>trivial⟩
 | [a]=>⟨fun _ i h=>by simp at h,fun _=>trivial⟩
 | a::b::r=>by
   have ih:=asc_idx (b::r)
   unfold ascP
   rw [ih]
   constructor
   · rintro ⟨h1,h2⟩ i h
     cases i with
     | zero=>exact h1
     | succ i=>exact h2 i (by simpa using h)
   · intro h
     exact ⟨h 0 (by simp),fun i hi=>h (i+1) (by simpa using hi)⟩
def gapP (a b:Sp):Prop:=a.mark<b.mark\/(a.mark=b.mark/\a.to<b.fr)
theorem nrm_idx:∀ (l:List Sp),nrmP l↔(∀ i (h:i<l.length),l[i].Ok)/\∀ i (h:i+1<l.length),gapP l[i] l[i+1]
 | []=>⟨fun _=>⟨fun i h=>absurd h (Nat.not_lt_zero _),fun i h=>absurd h (Nat.not_lt_zero _)⟩,fun _=>trivial⟩
 | [a]=>⟨fun h=>⟨fun i hi=>by obtain rfl:i=0:=by simpa using hi
                              exact h,fun i h=>by simp at h⟩,fun h=>h.1 0 (by simp)⟩
 | a::b::r=>by
   have ih:=nrm_idx (b::r)
   unfold nrmP
   rw [ih]
   constructor
   · rintro ⟨h1,h2,h3,h4⟩
     refine ⟨fun i h=>?_,fun i h=>?_⟩
     · cases i with
       | zero=>exact h1
       | succ i=>exact h3 i (by simpa using h)
     · cases i with
       | zero=>exact h2
       | succ i=>exact h4 i (by simpa using h)
   · rintro ⟨h1,h2⟩
     exact ⟨h1 0 (by simp),h2 0 (by simp),fun i hi=>h1 (i+1) (by simpa using hi),fun i hi=>h2 (i+1) (by simpa using hi)⟩
theorem asc_any (A:Nat->Prop) (v:Value) (l:List Int) (w:World) (hl:kInts.rep A w [v] l) :
 Calls Tryz.prog 203 #[v] w fun e w'=>e=.returned (.bool (decide (ascP l)))/\Upd (fun _=>False) w w':=by
 obtain ⟨a,cap,rfl,p1,p2,p3⟩:=slice_open hl
 have p2:cap<=9223372036854775807:=p2
 have H:=hid p3
 clear hl p3
 go_enter Tryz.func203,Tryz.ntmps203
 go_wp2_with fail
 go_loopg [3] l.length (fun gg s3 wr=>∃ j:Nat,j<=l.length/\gg=l.length-j/\s3=.int .i64 ((j+1:Nat):Int)/\(∀ i (h:i+1<l.length),i<j->l[i]<l[i+1])/\Upd (fun _=>False) w wr)
 case atStart=>exact ⟨0,Nat.zero_le _,rfl,rfl,fun i _ h=>absurd h (Nat.not_lt_zero _),Upd.refl _ _⟩
 case round =>
  obtain ⟨j,hj,hg,rfl,he,u⟩:=hrel
  have UU:=hid u;have HG:=hid hg;have EQ:=hid he
  clear u hg he
  obtain ⟨j1,hj1⟩:∃ j1,j1=j+1:=⟨_,rfl⟩
  rw [<-hj1]
  by_cases hlt:j1<l.length
  · obtain ⟨b,o,rfl,hb,hel⟩:=H.out (by omega)
    have hj0:j<l.length:=by omega
    have m1:=int_cells hel hj0
    have m2:=int_cells hel hlt
    have m1:=cell_kept m1 (UU.out.block b (World.block_lt_of_cell? _ _ m1) id)
    have m2:=cell_kept m2 (UU.out.block b (World.block_lt_of_cell? _ _ m2) id)
    have hlti:(j1:Int)<l.length:=by omega
    have hlti0:(j:Int)<l.length:=by omega
    have gs:IntKind.i64.wrap ((j1:Int)-1)=(j:Int):=by rw [IntWalk.i64_in _ (by omega)];omega
    have gs2:(j1:Int)-1=(j:Int):=by omega
    have HE : Hid (∀ h h', l[j1]'h = l[j + 1]'h') := hid (fun h h' => by subst hj1; rfl)
    have HJ:=hid hj1
    clear hel hj1
    by_cases hx:l[j]<l[j1]
    · have hxb:decide (l[j1]<=l[j])=false:=decide_eq_false (by omega)
      have HX:=hid hx
      clear hx
      go_wp2_with fail
      go_quiet (fail)
      go_wp2_with fail
      go_roundg (l.length-(j+1))
      case measure=>have:=HG.out;omega
      case rel =>
       have hj1:=HJ.out
       refine ⟨j+1,by omega,rfl,by subst hj1;go_num,fun i h hi=>?_,UU.out.drewN _⟩
       by_cases e:i=j
       · subst e;rw [<-HE.out hlt];exact HX.out
       · exact EQ.out i h (by omega)
    · have hxb:decide (l[j1]<=l[j])=true:=decide_eq_true (by omega)
      have HN:=hid (show ¬ascP l from fun h=>by
       have:=(asc_idx l).1 h j (by have:=HJ.out;omega)
       rw [<-HE.out hlt] at this
       exact hx this)
      clear hx
      go_wp2_with fail
      go_quiet (fail)
      go_wp2_with fail
      go_ret
      exact ⟨ret_f HN.out,UU.out.drewN _⟩
  · have HY:=hid (show ascP l from (asc_idx l).2 fun i h=>EQ.out i h (by omega))
    have hlti:¬(j1:Int)<l.length:=by omega
    clear hj1
    go_wp2_with fail
    go_ret
    exact ⟨ret_t HY.out,UU.out⟩
theorem keys_any (A:Nat->Prop) (v:Value) (l:List Int) (w:World) (hl:kInts.rep A w [v] l) :
 Calls Tryz.prog 206 #[v] w fun e w'=>e=.returned (.bool (decide (keysP l)))/\Upd (fun _=>False) w w':=by
 have HL:=hid hl
 obtain ⟨a,cap,rfl,p1,p2,p3⟩:=slice_open hl
 have p2:cap<=9223372036854775807:=p2
 have H:=hid p3
 clear hl p3
 by_cases h0:0<l.length
 case neg =>
  have hn:l=[]:=List.length_eq_zero_iff.1 (by omega)
  subst hn
  clear h0
  go_enter Tryz.func206,Tryz.ntmps206
  go_wp2_with fail
  go_ret
  exact ⟨ret_f fun h=>h.1 rfl,Upd.refl _ _⟩
 have hn:=hid (show l≠[] from fun e=>by rw [e] at h0;exact absurd h0 (Nat.lt_irrefl 0))
 have h0i:(0:Int)<l.length:=by omega
 obtain ⟨b,o,rfl,hb,hel⟩:=H.out h0
 obtain ⟨j,hj⟩:∃ j,l.length=j+1:=⟨l.length-1,by omega⟩
 have hjl:j<l.length:=by omega
 have m1:=int_cells hel h0
 have m2:=int_cells hel hjl
 rw [Nat.add_zero] at m1
 have gs2:(l.length:Int)-1=(j:Int):=by omega
 have gs:IntKind.i64.wrap ((l.length:Int)-1)=(j:Int):=by rw [gs2];exact IntWalk.i64_in _ (by omega)
 have e1:=hid (show l.headD 0=l[0] by cases l with | nil=>exact absurd rfl hn.out | cons a r=>rfl)
 have e2:=hid (show l.getLastD 0=l[j] by
  rw [List.getLastD_eq_getLast?,List.getLast?_eq_getElem?]
  rw [show l.length-1=j by omega,List.getElem?_eq_getElem hjl];rfl)
 generalize l[0]=x0 at *
 generalize l[j]=xj at *
 have HJ:=hid hj
 have hB:=World.block_lt_of_cell? _ _ m1
 dsimp only at hB
 clear hel hj
 go_enter Tryz.func206,Tryz.ntmps206
 go_wp2_with (first
  | (go_at_call 200;refine (key_any _ _).mono ?_;rintro e w' ⟨rfl,rfl⟩)
  | (go_at_call 203;refine (asc_any A _ l _ HL.out).mono ?_;rintro e w1 ⟨rfl,u⟩;have U:=hid u;obtain ⟨hc,hf⟩:=ucell u;clear u))
 all_goals
  go_ret
  have f1:=hn.out;have f2:=e1.out;have f3:=e2.out
  refine ⟨?_,by first | exact U.out | exact Upd.refl _ _⟩
  first
   | exact ret_dec (by unfold keysP;rw [f2,f3];constructor<;>intro h<;>simp_all<;>omega)
   | exact ret_f (by unfold keysP;rw [f2,f3];rintro ⟨g1,g2,g3,g4,g5⟩;first | omega | exact absurd g3 ‹_› | exact absurd g4 ‹_› | exact absurd g5 ‹_›)
   | exact ret_b (by unfold keysP;rw [f2,f3];simp_all)
end Go.Proofs.YtjkmalddfoemhaaGreatDoor
namespace Go.Proofs.YtjkmalddfoemhaaGreatDoor
open Go.RowKit Go.Deep
def flatS (l:List Sp):List Value:=(l.map spCells).flatten
theorem flatS_cons (s:Sp) (l:List Sp):flatS (s::l)=.int .i64 s.mark::.int .i64 s.fr::.int .i64 s.to::flatS l:=rfl
theorem flatS_append (a b:List Sp):flatS (a++b)=flatS a++flatS b:=by unfold flatS;rw [List.map_append,List.flatten_append]
theorem flatS_len:∀ l:List Sp,(flatS l).length=l.length*3
 | []=>rfl
 | s::l=>by rw [flatS_cons];simp only [List.length_cons];rw [flatS_len l];omega
theorem flatS_get:∀ (l:List Sp) (i:Nat) (h:i<l.length),(flatS l)[i*3]? = some (.int .i64 l[i].mark)/\(flatS l)[i*3+1]? = some (.int .i64 l[i].fr)/\(flatS l)[i*3+2]? = some (.int .i64 l[i].to)
 | [],i,h=>absurd h (Nat.not_lt_zero _)
 | s::l,0,_=>⟨rfl,rfl,rfl⟩
 | s::l,i+1,h=>by
   have:=flatS_get l i (by simpa using h)
   rw [flatS_cons,show (i+1)*3=i*3+1+1+1 by omega]
   simpa using this
theorem flatS_set:∀ (l:List Sp) (i:Nat) (s:Sp),i<l.length->flatS (l.set i s)=(((flatS l).set (i*3) (.int .i64 s.mark)).set (i*3+1) (.int .i64 s.fr)).set (i*3+2) (.int .i64 s.to)
 | [],i,_,h=>absurd h (Nat.not_lt_zero _)
 | t::l,0,s,_=>rfl
 | t::l,i+1,s,h=>by
   have:=flatS_set l i s (by simpa using h)
   rw [List.set_cons_succ,flatS_cons,flatS_cons,this,show (i+1)*3=i*3+1+1+1 by omega]
   rfl
def SpBlk (w:World) (g:Nat) (l:List Sp) (rest:List Value):Prop:=w.heap[g]? = some (.cells (flatS l++rest).toArray 177 (0,0))
theorem SpBlk.lt {w:World} {g:Nat} {l:List Sp} {rest:List Value} (h:SpBlk w g l rest):g<w.heap.size:=heap_lt h
theorem SpBlk.cell {w:World} {g:Nat} {l:List Sp} {rest:List Value} (h:SpBlk w g l rest) {i:Nat} (hi:i<l.length) :
 w.cell? ⟨g,i*3,none⟩=some (.int .i64 l[i].mark)/\w.cell? ⟨g,i*3+1,none⟩=some (.int .i64 l[i].fr)/\w.cell? ⟨g,i*3+2,none⟩=some (.int .i64 l[i].to):=by
 obtain ⟨h1,h2,h3⟩:=flatS_get l i hi
 have hl:=flatS_len l
 refine ⟨?_,?_,?_⟩
 · rw [cell_of_block h,List.getElem?_toArray,List.getElem?_append_left (by omega)];exact h1
 · rw [cell_of_block h,List.getElem?_toArray,List.getElem?_append_left (by omega)];exact h2
 · rw [cell_of_block h,List.getElem?_toArray,List.getElem?_append_left (by omega)];exact h3
theorem SpBlk.frozen {w:World} {g:Nat} {l:List Sp} {rest:List Value} (h:SpBlk w g l rest) (k:Nat):w.frozen? ⟨g,k,none⟩=false:=frozen_of_block h
theorem SpBlk.upd {S:Nat->Prop} {w w':World} {g:Nat} {l:List Sp} {rest:List Value} (h:SpBlk w g l rest) (u:Upd S w w') (hg:¬S g):SpBlk w' g l rest:=(u.block g h.lt hg).trans h
theorem SpBlk.set {w:World} {g:Nat} {l:List Sp} {rest:List Value} (h:SpBlk w g l rest) {i:Nat} (hi:i<l.length) (s:Sp) :
 SpBlk (((w.setCell ⟨g,i*3,none⟩ (.int .i64 s.mark)).setCell ⟨g,i*3+1,none⟩ (.int .i64 s.fr)).setCell ⟨g,i*3+2,none⟩ (.int .i64 s.to)) g (l.set i s) rest:=by
 have hl:=flatS_len l
 have h1:=heap_setCell_same (p:=⟨g,i*3,none⟩) (u:=.int .i64 s.mark) rfl h
 have h2:=heap_setCell_same (p:=⟨g,i*3+1,none⟩) (u:=.int .i64 s.fr) rfl h1
 have h3:=heap_setCell_same (p:=⟨g,i*3+2,none⟩) (u:=.int .i64 s.to) rfl h2
 unfold SpBlk
 rw [h3,flatS_set l i s hi]
 congr 2
 simp only [List.setIfInBounds_toArray]
 rw [List.set_append_left _ _ (by omega),List.set_append_left _ _ (by rw [List.length_set];omega),List.set_append_left _ _ (by rw [List.length_set,List.length_set];omega)]
theorem SpBlk.elems {A:Nat->Prop} {w:World} {g:Nat} {l:List Sp} {rest:List Value} (h:SpBlk w g l rest) (hw:∀ s∈l,SpWf s):Elems kSp A w g 0 l:=fun i hi =>
 ⟨_,sp_rep (hw _ (List.getElem_mem hi)),fun j hj=>by
  obtain ⟨h1,h2,h3⟩:=h.cell hi
  have hj:j<3:=hj
  have:j=0\/j=1\/j=2:=by omega
  rw [show kSp.size=3 from rfl,Nat.zero_add]
  rcases this with rfl | rfl | rfl
  · exact h1
  · exact h2
  · exact h3⟩
theorem SpBlk.rep {A:Nat->Prop} {w:World} {g cap:Nat} {l:List Sp} {rest:List Value} (h:SpBlk w g l rest) (hw:∀ s∈l,SpWf s) (hc:l.length<=cap) (hm:cap<=maxLen) (hA:A g):kSps.rep A w [.slice (some ⟨g,0,none⟩) l.length cap] l :=
 .inr ⟨g,0,cap,rfl,hc,hm,hA,h.elems hw⟩
theorem own_blk {w:World} {base:Nat} {v:Value} {l:List Sp} (h:w.ownsRow base 177 3 v l.length (flatS l)):(v=.slice none 0 0/\l=[])\/∃ g cap rest,v=.slice (some ⟨g,0,none⟩) l.length cap/\base<=g/\l.length<=cap/\cap<=maxLen/\rest.length+l.length*3=cap*3/\SpBlk w g l rest:=by
 obtain ⟨h1,⟨h2,h3⟩ | ⟨g,cap,cur,hv,hb,hg,hn,hc,hs,ht⟩⟩:=h
 · exact .inl ⟨h2,List.length_eq_zero_iff.1 h3⟩
 · have hlen:cur.toList.length=cap*3:=by simpa using hs
   refine .inr ⟨g,cap,cur.toList.drop (l.length*3),hv,hb,hn,hc,?_,?_⟩
   · rw [List.length_drop,hlen]
     have:=Nat.mul_le_mul_right 3 hn
     omega
   · unfold SpBlk
     rw [hg]
     congr 2
     rw [<-ht,List.take_append_drop]
end Go.Proofs.YtjkmalddfoemhaaGreatDoor
namespace Go.Proofs.YtjkmalddfoemhaaGreatDoor
open Go.RowKit Go.Deep
theorem elemSp:ElemTy Tryz.prog 70 177 3 24:=.mk' Tryz.underlying70 (z:=.agg #[.int .i64 0,.int .i64 0,.int .i64 0]) (by kernel_rfl) (by rfl) (by decide)
theorem sps_own_rep {A:Nat->Prop} {w:World} {base:Nat} {v:Value} {l:List Sp} (h:w.ownsRow base 177 3 v l.length (flatS l)) (hw:∀ s∈l,SpWf s) (hA:∀ g,v.ownBlock=some g->A g):kSps.rep A w [v] l:=by
 rcases own_blk h with ⟨rfl,rfl⟩ | ⟨g,cap,rest,rfl,_,hc,hm,_,hb⟩
 · exact .inl ⟨none,0,rfl,Nat.zero_le _,rfl⟩
 · exact hb.rep hw hc hm (hA g rfl)
end Go.Proofs.YtjkmalddfoemhaaGreatDoor
namespace Go.Proofs.YtjkmalddfoemhaaGreatDoor
open Go.RowKit Go.Deep
instance:Inhabited Sp:=⟨⟨0,0,0⟩⟩
def okL (l:List Sp):List Sp:=l.filter fun s=>decide s.Ok
theorem least {p:Nat->Prop} (h:∃ i,p i):∃ i,p i/\∀ j,j<i->¬p j:=by
 obtain ⟨i,hi⟩:=h
 induction i using Nat.strongRecOn with
 | _ i ih =>
   by_cases hx:∃ j,j<i/\p j
   · obtain ⟨j,hj,hp⟩:=hx
     exact ih j hj hp
   · exact ⟨i,hi,fun j hj hp=>hx ⟨j,hj,hp⟩⟩
structure DelInv (l L:List Sp) (i j:Nat):Prop where
 len:L.length=l.length
 lt:i<j
 le:j<=l.length
 low:L.take i=okL (l.take j)
 high:∀ t (h:t<l.length) (h':t<L.length),j<=t->L[t]=l[t]
theorem okL_snoc (l:List Sp) {j:Nat} (h:j<l.length):okL (l.take (j+1))=okL (l.take j)++if (l[j]).Ok then [l[j]] else []:=by
 unfold okL
 rw [List.take_succ_eq_append_getElem h,List.filter_append]
 by_cases ho:(l[j]).Ok<;>simp [ho]
theorem DelInv.skip {l L:List Sp} {i j:Nat} (h:DelInv l L i j) (hj:j<l.length) (hn:¬(l[j]).Ok):DelInv l L i (j+1) :=
 ⟨h.len,Nat.lt_succ_of_lt h.lt,hj,by rw [okL_snoc l hj,if_neg hn,List.append_nil];exact h.low,fun t a b c=>h.high t a b (by omega)⟩
theorem DelInv.keep {l L:List Sp} {i j:Nat} (h:DelInv l L i j) (hj:j<l.length) (ho:(l[j]).Ok):DelInv l (L.set i l[j]) (i+1) (j+1):=by
 have h1:=h.len;have h2:=h.lt
 refine ⟨by rw [List.length_set];exact h1,by omega,hj,?_,fun t a b c=>?_⟩
 · rw [okL_snoc l hj,if_pos ho,<-h.low,List.take_add_one,List.getElem?_set_self (by omega),List.take_set_of_le (Nat.le_refl i)]
   rfl
 · rw [List.getElem_set_ne (by omega)]
   exact h.high t a _ (by omega)
end Go.Proofs.YtjkmalddfoemhaaGreatDoor
namespace Go.Proofs.YtjkmalddfoemhaaGreatDoor
open Go.RowKit Go.Deep
end Go.Proofs.YtjkmalddfoemhaaGreatDoor
