/- strings.Builder: copyCheck and WriteString, over the shelf's predicates. -/
import Derived.Test.YtjkmalddfoemhaaGreatDoorJ3
import Derived.Test.YtjkmalddfoemhaaGreatDoorCEnRightS
import Derived.Test.YtjkmalddfoemhaaGreatDoorCEnRightZ
import Derived.Test.YtjkmalddfoemhaaGreatDoorCEnRightD
import Derived.Test.YtjkmalddfoemhaaGreatDoorCEnRightO
import Derived.Test.YtjkmalddfoemhaaGreatDoorJ2
import Derived.Lib.Walk
import Derived.Lib.Builder
import Derived.Lib.AppendStr
import Derived.Lib.UnsafeStr
import Derived.Lib.FrozenHead
import Derived.Laws.Externs
set_option maxRecDepth 100000
set_option maxHeartbeats 8000000
namespace Go.Proofs.YtjkmalddfoemhaaGreatDoor
open Go.RowKit Go.Deep
theorem sizeB:(Tryz.prog.info? 204).map (·.size)=some 2:=by kernel_rfl
theorem liesB:liesAt Tryz.prog Tryz.prog.depth 204 (2 / Tryz.prog.cellsOf 204) 0 204 1=true:=by kernel_rfl
theorem info8:(Tryz.prog.info? 5).map (fun i=>(i.zero,i.size,i.bytes))=some (some (.int .u8 0),1,1):=by kernel_rfl
theorem copyCheck_fresh (b:Nat) (w:World) (h0:w.cell? ⟨b,0,none⟩=some (.pointer none)) (hsh:w.shape? b=some (204,2)) (hfz:w.frozen? ⟨b,0,none⟩=false) :
 Calls Tryz.prog 208 #[.pointer (some ⟨b,0,none⟩)] w fun e w'=>e=.returned (.tuple #[])/\w'=w.setCell ⟨b,0,none⟩ (.pointer (some ⟨b,0,none⟩)):=by
 obtain ⟨j,hj,hjs⟩:=Option.map_eq_some_iff.1 sizeB
 go_enter Tryz.func208,Tryz.ntmps208
 go_wp2
 rw [Lib.run_to_unsafe w ⟨b,0,none⟩ Tryz.underlying201 Tryz.underlying273 hj (by rw [hjs];decide) hsh (Nat.zero_lt_succ 1)]
 simp only [Result.andThen]
 rw [Oper.upon_value]
 go_wp2
 rw [run_callFunc_extern Tryz.func255 (by kernel_rfl) (by kernel_rfl) (by kernel_rfl) (e:=Extern.AbiNoEscape.same) (by kernel_rfl)]
 rw [Lib.run_noEscape]
 simp only [Result.andThen]
 rw [Oper.upon_value]
 go_wp2
 rw [Lib.run_from_unsafe w ⟨b,0,none⟩ Tryz.underlying273 Tryz.underlying201 hj hsh liesB]
 simp only [Result.andThen]
 rw [Oper.upon_value]
 go_wp2
 go_end0
 exact ⟨rfl,rfl⟩
theorem copyCheck_used (b:Nat) (w:World) (h0:w.cell? ⟨b,0,none⟩=some (.pointer (some ⟨b,0,none⟩))) :
 Calls Tryz.prog 208 #[.pointer (some ⟨b,0,none⟩)] w fun e w'=>e=.returned (.tuple #[])/\w'=w:=by
 obtain ⟨j,hj,_⟩:=Option.map_eq_some_iff.1 sizeB
 go_enter Tryz.func208,Tryz.ntmps208
 go_wp2
 rw [Lib.run_neq_ptr_same w _ Tryz.underlying201 hj]
 go_wp2
 go_end0
 exact ⟨rfl,rfl⟩
theorem copyCheck_any (B b:Nat) (bs:List Value) (w:World) (h:Lib.IsBuilder 204 5 B b bs w) :
 Calls Tryz.prog 208 #[.pointer (some ⟨b,0,none⟩)] w fun e w'=>e=.returned (.tuple #[])/\(Lib.BuilderAt 204 5 B b (.pointer (some ⟨b,0,none⟩)) bs w'/\Below B w w'):=by
 rcases h with h | h
 · refine (copyCheck_fresh b w h.cell0 h.shape h.frozen0).mono ?_
   rintro e w' ⟨rfl,rfl⟩
   exact ⟨rfl,h.used _,(Below.refl B w).setCell (p:=⟨b,0,none⟩) h.1 _⟩
 · refine (copyCheck_used b w h.cell0).mono ?_
   rintro e w' ⟨rfl,rfl⟩
   exact ⟨rfl,h,Below.refl B _⟩
theorem writeString_any (B b:Nat) (l s:List UInt8) (w:World) (h:Lib.IsBuilder 204 5 B b (Lib.byteCells l) w) (hlen:l.length+s.length<=100000000) (hBw:B<=w.heap.size) :
 Calls Tryz.prog 158 #[.pointer (some ⟨b,0,none⟩),.string ⟨s.toArray⟩] w fun e w'=>e=.returned (.tuple #[.int .i64 s.length,.nilIface])/\(Lib.IsBuilder 204 5 B b (Lib.byteCells (l++s)) w'/\Below B w w'):=by
 obtain ⟨i0,hi,hz0,hz1,hz2⟩:=info_parts info8
 have hbl:(Lib.byteCells l).length=l.length:=Lib.byteCells_length l
 have HBL:=hid hbl;clear hbl
 go_enter Tryz.func158,Tryz.ntmps158
 go_wp2_with (go_at_call 208;refine (copyCheck_any B b _ _ h).mono ?_)
 rintro e w1 ⟨rfl,h1,hb1⟩
 obtain ⟨hB,v,hbk,hown,hne⟩:=h1
 have c0:w1.cell? ⟨b,0,none⟩=some (.pointer (some ⟨b,0,none⟩)):=by rw [Lib.cell_of_heap hbk];rfl
 have c1:w1.cell? ⟨b,1,none⟩=some v:=by rw [Lib.cell_of_heap hbk];rfl
 go_wp2_with (at_builtin;refine Lib.wpList_append_own_string _ rfl _ _ 202 9 rfl B 5 i0 Tryz.underlying202 Tryz.underlying9 hi hz0 hz1 hz2 _ _ _ rfl hown ⟨s.toArray⟩ rfl ?c3 ?c4 ?c5 ?_)
 case c3=>rw [HBL.out];unfold maxLen;simp [ByteArray.size];omega
 case c4=>rw [HBL.out];simp [ByteArray.size];omega
 case c5=>have:=hb1.size;omega
 intro v' w2 hown' hgrow _
 have hlt:b<w1.heap.size:=heap_lt hbk
 have hb2:w2.heap[b]? = some (.cells #[.pointer (some ⟨b,0,none⟩),v] 204 (0,0)):=by
  rw [hgrow.block b hlt (fun e=>hne e.symm)]
  exact hbk
 have d0:w2.cell? ⟨b,0,none⟩=some (.pointer (some ⟨b,0,none⟩)):=by rw [Lib.cell_of_heap hb2];rfl
 have d1:w2.cell? ⟨b,1,none⟩=some v:=by rw [Lib.cell_of_heap hb2];rfl
 have f1:w2.frozen? ⟨b,1,none⟩=false:=Lib.frozen_of_heap hb2 1
 obtain ⟨ao,n',cap,rfl⟩:∃ ao n' cap,v'=.slice ao n' cap:=by
  rcases hown'.2 with ⟨hv,_⟩ | ⟨g,cap,cur,hv,_⟩
  · exact ⟨_,_,_,hv⟩
  · exact ⟨_,_,_,hv⟩
 go_wp2
 go_ret2
 refine ⟨rfl,.inr ?_,?_⟩
 · rw [Lib.byteCells_append]
   exact Lib.BuilderAt.put (T:=204) (e:=5) hB hb2 (bs':=Lib.byteCells l++Lib.byteCells s) (by simpa [Lib.strCells_length,Lib.strCells_eq,Lib.byteCells_length] using hown') (by decide)
 · exact (hb1.grown hgrow (by have:=hb1.size;omega) (fun k hk=>(hown.lt k hk).1)).setCell (p:=⟨b,1,none⟩) hB _
theorem string_any (B b:Nat) (l:List UInt8) (w:World) (h:Lib.IsBuilder 204 5 B b (Lib.byteCells l) w) (hBw:B<=w.heap.size) :
 Calls Tryz.prog 160 #[.pointer (some ⟨b,0,none⟩)] w fun e w'=>e=.returned (.string ⟨l.toArray⟩)/\Below B w w' :=
 (Tryz.Builder_String_any_f B b l w (Lib.IsBuilderF.of h) hBw).mono fun _ _ ⟨he,_,hb⟩=>⟨he,hb⟩
end Go.Proofs.YtjkmalddfoemhaaGreatDoor
namespace Go.Proofs.YtjkmalddfoemhaaGreatDoor
open Go.RowKit Go.Deep
theorem rep_keep {α:Type} {K:Knd α} {v:List Value} {l:α} {w w':World} (h:K.rep (· < w.heap.size) w v l) (u:Upd (fun _=>False) w w'):K.rep (· < w'.heap.size) w' v l :=
 K.mono (K.keep h (Same.of_upd u fun _ _=>id)) fun _ hx=>Nat.lt_of_lt_of_le hx u.size
theorem rep_keep_ne {α:Type} {K:Knd α} {v:List Value} {l:α} {w w':World} {S:Nat->Prop} {A:Nat->Prop} (h:K.rep A w v l) (u:Upd S w w') (hS:∀ b,A b->¬S b):K.rep A w' v l :=
 K.keep h (Same.of_upd u hS)
def preE {α:Type} (f:α->List UInt8) (l:List α) (k:Nat):List UInt8:=Lib.itoa l.length++91::((l.take k).map f).flatten
theorem preE_zero {α:Type} (f:α->List UInt8) (l:List α):preE f l 0=Lib.itoa l.length++[91]:=by simp [preE]
theorem preE_succ {α:Type} (f:α->List UInt8) (l:List α) {k:Nat} (hk:k<l.length):preE f l (k+1)=preE f l k++f l[k]:=by
 unfold preE
 rw [List.take_succ_eq_append_getElem hk,List.map_append,List.flatten_append,List.map_singleton,List.flatten_singleton]
 simp only [List.append_assoc,List.cons_append]
theorem preE_last {α:Type} (f:α->List UInt8) (l:List α):preE f l l.length++[93]=listE f l:=by
 unfold preE listE
 rw [List.take_of_length_le (Nat.le_refl _)]
 simp
theorem preE_len {α:Type} (f:α->List UInt8) (l:List α) (k:Nat):(preE f l k).length<=(listE f l).length:=by
 have h:(l.map f).flatten=((l.take k).map f).flatten++((l.drop k).map f).flatten:=by
  rw [<-List.flatten_append,<-List.map_append,List.take_append_drop]
 unfold preE listE
 rw [h]
 simp<;>omega
theorem elem_len {α:Type} (f:α->List UInt8) (l:List α) {k:Nat} (hk:k<l.length):(preE f l k).length+(f l[k]).length<=(listE f l).length:=by
 have:=preE_len f l (k+1)
 rw [preE_succ f l hk,List.length_append] at this
 exact this
theorem builder_keep {T e:TypeId} {B b:Nat} {bs:List Value} {w w':World} (h:Lib.IsBuilder T e B b bs w) (u:Upd (fun _=>False) w w'):Lib.IsBuilder T e B b bs w':=by
 have aux:∀ p,Lib.BuilderAt T e B b p bs w->Lib.BuilderAt T e B b p bs w':=fun p ⟨hB,v,hb,ho,hne⟩=>⟨hB,v,(u.block b (heap_lt hb) id).trans hb,ownsRow_upd ho u (fun _ _=>id),hne⟩
 exact h.elim (fun h=>.inl (aux _ h)) (fun h=>.inr (aux _ h))
theorem listInt_any (v:Value) (l:List Int) (w:World) (E:Env w) (hl:kInts.rep (· < w.heap.size) w [v] l) (hwf:∀ x∈l,I64 x) (hsum:(listE intE l).length<=50000000) :
 Calls Tryz.prog 209 #[v,.func (.func 99) #[] #[]] w fun e w'=>e=.returned (.string ⟨(listE intE l).toArray⟩)/\Upd (fun _=>False) w w':=by
 have HL:=hid hl
 obtain ⟨a,cap,rfl,h1,h2,_⟩:=slice_open hl
 have h2:cap<=9223372036854775807:=h2
 have hin:I64 l.length:=by unfold I64;omega
 have HI:=hid hin;have HW:=hid hwf;have HE:=hid E;have HS:=hid hsum
 have hit:=itoa_len hin
 have a1:∀ w,(Op.stringOp .add ⟨(Lib.itoa l.length).toArray⟩ ⟨#[91]⟩).run Tryz.prog w=.ok (.string ⟨(Lib.itoa l.length++[91]).toArray⟩) w:=fun w=>add_lists _ [91] (by simp;omega) w
 have a2:∀ w,(Op.stringOp .add ⟨(preE intE l l.length).toArray⟩ ⟨#[93]⟩).run Tryz.prog w=.ok (.string ⟨(listE intE l).toArray⟩) w:=fun w=>by
  have:=add_lists (preE intE l l.length) [93] (by have:=preE_len intE l l.length;simp;omega) w
  rw [preE_last] at this
  exact this
 have A2:=hid a2
 have eg:∀ args w,(callFunc 99 args).run Tryz.prog w=.ok (.enter 99 args) w:=enters_of Tryz.func99 (by kernel_rfl) rfl
 have B0:=hid (Lib.fresh_isBuilder 204 5 w)
 have bl0:Below w.heap.size w (w.alloc (.cells #[.pointer none,.slice none 0 0] 204)):=(Below.refl _ _).alloc (Nat.le_refl _) _
 have BL0:=hid bl0
 have HE0:=hid (E.keep0 (upd_of_below bl0))
 clear hl hin hwf E hsum hit a2 bl0
 go_enter Tryz.func209,Tryz.ntmps209
 go_wp2_with fail
 refine (itoa_any l.length HI.out _ HE0.out).mono ?_
 rintro e w1 ⟨rfl,u⟩
 have bl1:Below w.heap.size w w1:=BL0.out.trans (u.below (by simp) fun _ h=>h.elim)
 have hb1:Lib.IsBuilder 204 5 w.heap.size w.heap.size (Lib.byteCells []) w1:=builder_keep B0.out u
 have B1:=hid hb1;have BL1:=hid bl1;have HZ:=hid bl1.size
 clear u bl1 hb1 B0 BL0 HE0
 go_wp2_with fail
 refine (writeString_any w.heap.size w.heap.size [] (Lib.itoa l.length++[91]) _ B1.out (by have:=itoa_len HI.out;simp;omega) HZ.out).mono ?_
 rintro e w2 ⟨rfl,hb,bl⟩
 rw [List.nil_append,<-preE_zero intE l] at hb
 have B2:=hid hb;have BL2:=hid (BL1.out.trans bl)
 clear hb bl B1 BL1 HZ
 go_wp2_with fail
 clear a1
 go_loopg [15] l.length (fun gg s wr=>∃ k:Nat,k<=l.length/\gg=l.length-k/\s=.int .i64 k/\Lib.IsBuilder 204 5 w.heap.size w.heap.size (Lib.byteCells (preE intE l k)) wr/\Below w.heap.size w wr)
 case atStart=>exact ⟨0,Nat.zero_le _,rfl,rfl,B2.out,BL2.out⟩
 case round =>
  clear B2 BL2
  obtain ⟨k,hk,hg,rfl,hb,bl⟩:=hrel
  have HG:=hid hg;have BB:=hid hb;have BL:=hid bl;have HZ:=hid bl.size
  clear hg hb bl
  by_cases hlt:k<l.length
  · have hlti:(k:Int)<l.length:=by omega
    obtain ⟨b0,o0,rfl,hb0,hel⟩:=slice_at HL.out (by omega)
    have c0:=int_cells hel hlt
    have c0:=cell_kept c0 (BL.out.block b0 hb0)
    have hx:=HW.out l[k] (List.getElem_mem hlt)
    have HS1:=hid (preE_succ intE l hlt);have HS2:=hid (elem_len intE l hlt)
    have HX:=hid hx
    clear hel hx
    generalize l[k]=x at *
    go_wp2_with fail
    refine (intE_any x HX.out _ (HE.out.keep0 (upd_of_below BL.out))).mono ?_
    rintro e w3 ⟨rfl,u⟩
    have hb3:=builder_keep BB.out u
    have bl3:=BL.out.trans (u.below HZ.out fun _ h=>h.elim)
    have BB3:=hid hb3;have BL3:=hid bl3;have HZ3:=hid bl3.size
    clear u hb3 bl3 c0
    go_wp2_with fail
    refine (writeString_any w.heap.size w.heap.size (preE intE l k) (intE x) _ BB3.out (by have:=HS.out;have:=HS2.out;omega) HZ3.out).mono ?_
    rintro e w4 ⟨rfl,hb,bl⟩
    have BB4:=hid hb;have BL4:=hid (BL3.out.trans bl)
    clear hb bl
    go_wp2_with fail
    go_roundg (l.length-(k+1))
    case measure=>have:=HG.out;omega
    case rel=>exact ⟨k+1,by omega,rfl,by go_num,by rw [HS1.out];exact BB4.out,BL4.out⟩
  · obtain rfl:k=l.length:=by omega
    have a2:=A2.out
    go_wp2_with fail
    refine (string_any w.heap.size w.heap.size _ _ BB.out HZ.out).mono ?_
    rintro e w3 ⟨rfl,bl⟩
    have BL3:=hid (BL.out.trans bl)
    clear bl
    go_wp2_with fail
    go_ret
    exact ⟨rfl,upd_of_below BL3.out⟩
theorem numsE_any (v:Value) (l:List Int) (w:World) (E:Env w) (hl:kInts.rep (· < w.heap.size) w [v] l) (hwf:∀ x∈l,I64 x) (hsum:(listE intE l).length<=50000000) :
 Calls Tryz.prog 159 #[v] w fun e w'=>e=.returned (.string ⟨(numsE l).toArray⟩)/\Upd (fun _=>False) w w':=by
 have HL:=hid hl;have HW:=hid hwf;have HE:=hid E;have HS:=hid hsum
 clear hl hwf E hsum
 go_enter Tryz.func159,Tryz.ntmps159
 go_wp2_with fail
 refine (listInt_any v l _ HE.out HL.out HW.out HS.out).mono ?_
 rintro e w1 ⟨rfl,u⟩
 have U:=hid u;clear u
 go_wp2_with fail
 go_ret
 exact ⟨rfl,U.out⟩
end Go.Proofs.YtjkmalddfoemhaaGreatDoor
namespace Go.Proofs.YtjkmalddfoemhaaGreatDoor
open Go.RowKit Go.Deep
theorem right_any (e:En) (a1 a2 a3:Option Addr) (c1 c2 c3:Nat) (A:Nat->Prop) (w:World) (hu:UsesIn w) (hr:EnRep A w e a1 a2 a3 c1 c2 c3) :
 Calls Tryz.prog 157 #[enV e a1 a2 a3 c1 c2 c3] w fun en w'=>en=.returned (.bool (decide (RightE e)))/\Upd (fun _=>False) w w':=by
 by_cases h1:e.kind=5\/e.kind=6\/e.kind=7
 · exact right_s e h1 _ _ _ _ _ _ A w hu hr
 · by_cases h2:e.kind=0
   · exact right_z e h2 _ _ _ _ _ _ A w hu hr
   · by_cases h3:e.kind=17
     · exact right_d e h3 _ _ _ _ _ _ A w hu hr
     · exact right_o e h1 (by omega) _ _ _ _ _ _ A w hu hr
end Go.Proofs.YtjkmalddfoemhaaGreatDoor
namespace Go.Proofs.YtjkmalddfoemhaaGreatDoor
open Go.RowKit Go.Deep
theorem copyCheck_row (B b:Nat) (bs:List Value) (w:World) {p v:Value} (h:Lib.IsBuilder 204 5 B b bs w) (hb:w.heap[b]? = some (.cells #[p,v] 204 (0,0))) :
 Calls Tryz.prog 208 #[.pointer (some ⟨b,0,none⟩)] w fun e w'=>e=.returned (.tuple #[])/\w'.heap[b]? = some (.cells #[.pointer (some ⟨b,0,none⟩),v] 204 (0,0))/\Upd (· = b) w w':=by
 rcases h with h | h
 · refine (copyCheck_fresh b w h.cell0 h.shape h.frozen0).mono ?_
   rintro e w' ⟨rfl,rfl⟩
   exact ⟨rfl,by rw [heap_setCell_same (p:=⟨b,0,none⟩) rfl hb];rfl,(Upd.refl _ _).at_ 0 _⟩
 · refine (copyCheck_used b w h.cell0).mono ?_
   rintro e w' ⟨rfl,rfl⟩
   obtain ⟨_,v',hb',_⟩:=h
   rw [hb] at hb'
   injection hb' with hb'
   injection hb' with hb' _ _
   have hp:p=.pointer (some ⟨b,0,none⟩):=by
    have:=congrArg (fun a:Array Value=>a[0]?) hb'
    simpa using this
   subst hp
   exact ⟨rfl,hb,Upd.refl _ _⟩
theorem writeString_old (B b:Nat) (l s:List UInt8) (w0 w:World) (h:Lib.IsBuilder 204 5 B b (Lib.byteCells l) w0) (u:Upd (fun _=>False) w0 w) (hlen:l.length+s.length<=100000000) (hBw:B<=w.heap.size) :
 Calls Tryz.prog 158 #[.pointer (some ⟨b,0,none⟩),.string ⟨s.toArray⟩] w fun e w'=>e=.returned (.tuple #[.int .i64 s.length,.nilIface])/\Lib.IsBuilder 204 5 B b (Lib.byteCells (l++s)) w'/\Upd (fun k=>B<=k/\k<w0.heap.size) w w':=by
 obtain ⟨i0,hi,hz0,hz1,hz2⟩:=info_parts info8
 have hbl:(Lib.byteCells l).length=l.length:=Lib.byteCells_length l
 have HBL:=hid hbl;clear hbl
 have aux:∃ p v,w0.heap[b]? = some (.cells #[p,v] 204 (0,0))/\w0.ownsRow B 5 1 v (Lib.byteCells l).length (Lib.byteCells l)/\v.ownBlock≠some b/\B<=b:=by
  rcases h with ⟨h1,v,h2,h3,h4⟩ | ⟨h1,v,h2,h3,h4⟩
  · exact ⟨_,v,h2,h3,h4,h1⟩
  · exact ⟨_,v,h2,h3,h4,h1⟩
 obtain ⟨p,v,hb0,hown0,hne,hB⟩:=aux
 have hlt0:=heap_lt hb0
 have hbw:=(u.block _ hlt0 id).trans hb0
 have hown:=ownsRow_upd hown0 u fun _ _=>id
 have hwb:Lib.IsBuilder 204 5 B b (Lib.byteCells l) w:=by
  rcases h with ⟨h1,v',h2,h3,h4⟩ | ⟨h1,v',h2,h3,h4⟩
  · exact .inl ⟨h1,v',(u.block _ hlt0 id).trans h2,ownsRow_upd h3 u fun _ _=>id,h4⟩
  · exact .inr ⟨h1,v',(u.block _ hlt0 id).trans h2,ownsRow_upd h3 u fun _ _=>id,h4⟩
 have hrow:=hown0.lt
 go_enter Tryz.func158,Tryz.ntmps158
 go_wp2_with (go_at_call 208;refine (copyCheck_row B b _ _ hwb hbw).mono ?_)
 rintro e w1 ⟨rfl,hbk,u1⟩
 have hown1:=ownsRow_upd hown u1 fun g hg e=>hne (by rw [hg,e])
 have c0:w1.cell? ⟨b,0,none⟩=some (.pointer (some ⟨b,0,none⟩)):=by rw [Lib.cell_of_heap hbk];rfl
 have c1:w1.cell? ⟨b,1,none⟩=some v:=by rw [Lib.cell_of_heap hbk];rfl
 go_wp2_with (at_builtin;refine Lib.wpList_append_own_string _ rfl _ _ 202 9 rfl B 5 i0 Tryz.underlying202 Tryz.underlying9 hi hz0 hz1 hz2 _ _ _ rfl hown1 ⟨s.toArray⟩ rfl ?c3 ?c4 ?c5 ?_)
 case c3=>rw [HBL.out];unfold maxLen;simp [ByteArray.size];omega
 case c4=>rw [HBL.out];simp [ByteArray.size];omega
 case c5=>have:=u1.size;omega
 intro v' w2 hown' hgrow _
 have hlt:b<w1.heap.size:=heap_lt hbk
 have hb2:w2.heap[b]? = some (.cells #[.pointer (some ⟨b,0,none⟩),v] 204 (0,0)):=by
  rw [hgrow.block b hlt (fun e=>hne e.symm)]
  exact hbk
 have d0:w2.cell? ⟨b,0,none⟩=some (.pointer (some ⟨b,0,none⟩)):=by rw [Lib.cell_of_heap hb2];rfl
 have d1:w2.cell? ⟨b,1,none⟩=some v:=by rw [Lib.cell_of_heap hb2];rfl
 have f1:w2.frozen? ⟨b,1,none⟩=false:=Lib.frozen_of_heap hb2 1
 obtain ⟨ao,n',cap,rfl⟩:∃ ao n' cap,v'=.slice ao n' cap:=by
  rcases hown'.2 with ⟨hv,_⟩ | ⟨g,cap,cur,hv,_⟩
  · exact ⟨_,_,_,hv⟩
  · exact ⟨_,_,_,hv⟩
 go_wp2
 go_ret2
 refine ⟨rfl,.inr ?_,?_⟩
 · rw [Lib.byteCells_append]
   exact Lib.BuilderAt.put (T:=204) (e:=5) hB hb2 (bs':=Lib.byteCells l++Lib.byteCells s) (by simpa [Lib.strCells_length,Lib.strCells_eq,Lib.byteCells_length] using hown') (by decide)
 · have u2:Upd (fun k=>B<=k/\k<w0.heap.size) w w1:=u1.mono fun k hk=>by subst hk;exact ⟨hB,hlt0⟩
   exact (u2.grown hgrow (fun k hk=>.inl (hrow k hk))).setCell _ _ (.inl ⟨hB,hlt0⟩)
theorem upd_bel {w w2 w3:World} {B n:Nat} (h:Upd (fun _=>False) w w2) (k:Upd (fun i=>B<=i/\i<n) w2 w3) (hB:w.heap.size<=B):Upd (fun _=>False) w w3 :=
 h.comp k fun i hi ht=>by omega
theorem upd_below {w w2 w3:World} {B:Nat} (h:Upd (fun _=>False) w w2) (k:Below B w2 w3) (hB:w.heap.size<=B):Upd (fun _=>False) w w3 :=
 h.comp (T:=(B ≤ ·)) (Upd.of_below k fun i _ hi=>by omega) fun i hi ht=>by omega
end Go.Proofs.YtjkmalddfoemhaaGreatDoor
namespace Go.Proofs.YtjkmalddfoemhaaGreatDoor
open Go.RowKit Go.Deep
theorem cells_a {w:World} {p:Nat} {e:En} {a1 a2 a3:Option Addr} {c1 c2 c3:Nat} {t:TypeId} (h:w.heap[p]? = some (.cells (en13 e a1 a2 a3 c1 c2 c3) t (0,0))) :
 w.cell? ⟨p,0,none⟩=some (.int .i64 e.author)/\w.cell? ⟨p,1,none⟩=some (.int .i64 e.seq)/\w.cell? ⟨p,2,none⟩=some (.int .i64 e.day)/\w.cell? ⟨p,3,none⟩=some (.slice a1 e.knows.length c1)/\w.cell? ⟨p,4,none⟩=some (.int .i64 e.kind)/\w.cell? ⟨p,5,none⟩=some (.int .i64 e.circle)/\w.cell? ⟨p,6,none⟩=some (.int .i64 e.who):=by
 obtain ⟨h0,h1,h2,h3,h4,h5,h6,_⟩:=cells13 h
 exact ⟨h0,h1,h2,h3,h4,h5,h6⟩
theorem cells_b {w:World} {p:Nat} {e:En} {a1 a2 a3:Option Addr} {c1 c2 c3:Nat} {t:TypeId} (h:w.heap[p]? = some (.cells (en13 e a1 a2 a3 c1 c2 c3) t (0,0))) :
 w.cell? ⟨p,7,none⟩=some (.int .i64 e.n)/\w.cell? ⟨p,8,none⟩=some (.int .i64 e.m)/\w.cell? ⟨p,9,none⟩=some (.int .i64 e.ref)/\w.cell? ⟨p,10,none⟩=some (.slice a2 e.keys.length c2)/\w.cell? ⟨p,11,none⟩=some (.slice a3 e.spans.length c3):=by
 obtain ⟨_,_,_,_,_,_,_,h0,h1,h2,h3,h4,_⟩:=cells13 h
 exact ⟨h0,h1,h2,h3,h4⟩
theorem cells_s {w:World} {p:Nat} {s:Sp} {t:TypeId} (h:w.heap[p]? = some (.cells #[.int .i64 s.mark,.int .i64 s.fr,.int .i64 s.to] t (0,0))) :
 w.cell? ⟨p,0,none⟩=some (.int .i64 s.mark)/\w.cell? ⟨p,1,none⟩=some (.int .i64 s.fr)/\w.cell? ⟨p,2,none⟩=some (.int .i64 s.to):=by
 refine ⟨?_,?_,?_⟩<;>(rw [cell_of_block h];rfl)
def preT (e:En) (k:Nat):List UInt8:=(numE e.author++(numE e.seq++(numE e.day++(numsE e.knows++(numE e.kind++(numE e.circle++(numE e.who++(intE e.n++(intE e.m++(intE e.ref++(numsE e.keys++numE e.spans.length)))))))))))++((e.spans.take k).map spanE).flatten
theorem preT_last (e:En):preT e e.spans.length++textE e.text=encE e:=by
 unfold preT encE
 rw [List.take_length]
 simp only [List.append_assoc]
theorem preT_succ (e:En) {k:Nat} (h:k<e.spans.length):preT e (k+1)=preT e k++spanE e.spans[k]:=by
 unfold preT
 rw [List.take_succ_eq_append_getElem h,List.map_append,List.flatten_append]
 simp
theorem preT_len (e:En) (k:Nat):(preT e k).length+(textE e.text).length<=(encE e).length:=by
 rw [<-preT_last e]
 have:∀ k,(preT e k).length<=(preT e e.spans.length).length:=fun k=>by
  unfold preT
  simp only [List.length_append,List.length_flatten]
  have h:(((e.spans.take k).map spanE).map List.length).sum<=(((e.spans.take e.spans.length).map spanE).map List.length).sum:=by
   rw [List.take_length]
   conv=>rhs;rw [<-List.take_append_drop k e.spans]
   rw [List.map_append,List.map_append,List.sum_append]
   exact Nat.le_add_right _ _
  omega
 rw [List.length_append]
 have:=this k
 omega
theorem enc_sum (e:En):(encE e).length=(numE e.author).length+(numE e.seq).length+(numE e.day).length+(numsE e.knows).length+(numE e.kind).length+(numE e.circle).length+(numE e.who).length+(intE e.n).length+(intE e.m).length+(intE e.ref).length+(numsE e.keys).length+(numE e.spans.length).length+((e.spans.map spanE).flatten).length+(textE e.text).length:=by
 unfold encE
 simp only [List.length_append]
 omega
theorem nums_list_le (l:List Int):(listE intE l).length<=(numsE l).length:=Nat.le_refl _
theorem text_any (e:En) (a1 a2 a3:Option Addr) (c1 c2 c3:Nat) (w:World) (E:Env w) (hu:UsesIn w) (hr:EnRep (· < w.heap.size) w e a1 a2 a3 c1 c2 c3) (hw:EnWf e) :
 Calls Tryz.prog 86 #[enV e a1 a2 a3 c1 c2 c3] w fun en w'=>en=.returned (.string ⟨(txtF e).toArray⟩)/\Upd (fun _=>False) w w':=by
 have HU:=hid hu;have HR:=hid hr;have HE:=hid E;have HWF:=hid hw
 by_cases hR:RightE e
 case neg =>
  have ht:txtF e=[]:=if_neg hR
  rw [ht]
  have HN:=hid hR
  clear hu hr hR E hw ht
  unfold enV
  go_enter Tryz.func86,Tryz.ntmps86
  go_wp2_with fail
  refine (right_any e a1 a2 a3 c1 c2 c3 (· < w.heap.size) _ (HU.out.keep ((Upd.refl _ _).alloc _)) (HR.out.keep ((Upd.refl _ _).alloc _))).mono ?_
  rintro en w1 ⟨rfl,u⟩
  rw [decide_eq_false HN.out]
  have U:=hid (((Upd.refl (fun _=>False) w).alloc _).trans u)
  clear u
  go_wp2_with fail
  go_ret
  exact ⟨rfl,U.out⟩
 have ht:txtF e=encE e:=if_pos hR
 rw [ht]
 have hlen:=enc_len hR hw
 rw [enc_sum] at hlen
 obtain ⟨hs1,hs2⟩:=hR.sp
 have HS2:=hid hs2;have HRT:=hid hR
 have i0:I64 e.author:=by have:=hR.author;unfold keyP at this;unfold I64;omega
 have i1:I64 e.seq:=by have:=hR.seq;unfold I64;omega
 have i2:I64 e.day:=by have:=hR.day;unfold dayP at this;unfold I64;omega
 have i4:I64 e.kind:=by have:=hR.kind;unfold I64;omega
 have i5:I64 e.circle:=by have:=hR.circle;unfold markP at this;unfold I64;omega
 have i6:I64 e.who:=by have:=hR.who;unfold keyP at this;unfold I64;omega
 have i11:I64 (e.spans.length:Int):=by unfold I64;omega
 have I0:=hid i0;have I1:=hid i1;have I2:=hid i2;have I4:=hid i4;have I5:=hid i5;have I6:=hid i6;have I11:=hid i11
 have htx:=hR.text
 obtain ⟨q1,q2⟩:=slice_caps hr.knows
 obtain ⟨q3,q4⟩:=slice_caps hr.keys
 obtain ⟨q5,q6⟩:=slice_caps hr.spans
 have HTX:=hid htx
 have e2:=preT_last e
 have hpl:=fun k=>preT_len e k
 rw [enc_sum] at hpl
 have pz:preT e 0=(((((((numE e.author++numE e.seq)++numE e.day)++numsE e.knows)++numE e.kind)++numE e.circle)++numE e.who)++((((intE e.n++intE e.m)++intE e.ref)++numsE e.keys)++numE e.spans.length)):=by
  unfold preT
  simp [List.append_assoc]
 obtain ⟨s1,z1⟩:∃ x,numE e.author++numE e.seq=x:=⟨_,rfl⟩
 have zl1:s1.length=(numE e.author).length+(numE e.seq).length:=by rw [<-z1,List.length_append]
 obtain ⟨s2,z2⟩:∃ x,s1++numE e.day=x:=⟨_,rfl⟩
 have zl2:s2.length=(s1).length+(numE e.day).length:=by rw [<-z2,List.length_append]
 obtain ⟨s3,z3⟩:∃ x,s2++numsE e.knows=x:=⟨_,rfl⟩
 have zl3:s3.length=(s2).length+(numsE e.knows).length:=by rw [<-z3,List.length_append]
 obtain ⟨s4,z4⟩:∃ x,s3++numE e.kind=x:=⟨_,rfl⟩
 have zl4:s4.length=(s3).length+(numE e.kind).length:=by rw [<-z4,List.length_append]
 obtain ⟨s5,z5⟩:∃ x,s4++numE e.circle=x:=⟨_,rfl⟩
 have zl5:s5.length=(s4).length+(numE e.circle).length:=by rw [<-z5,List.length_append]
 obtain ⟨s6,z6⟩:∃ x,s5++numE e.who=x:=⟨_,rfl⟩
 have zl6:s6.length=(s5).length+(numE e.who).length:=by rw [<-z6,List.length_append]
 obtain ⟨r1,y1⟩:∃ x,intE e.n++intE e.m=x:=⟨_,rfl⟩
 have yl1:r1.length=(intE e.n).length+(intE e.m).length:=by rw [<-y1,List.length_append]
 obtain ⟨r2,y2⟩:∃ x,r1++intE e.ref=x:=⟨_,rfl⟩
 have yl2:r2.length=(r1).length+(intE e.ref).length:=by rw [<-y2,List.length_append]
 obtain ⟨r3,y3⟩:∃ x,r2++numsE e.keys=x:=⟨_,rfl⟩
 have yl3:r3.length=(r2).length+(numsE e.keys).length:=by rw [<-y3,List.length_append]
 obtain ⟨r4,y4⟩:∃ x,r3++numE e.spans.length=x:=⟨_,rfl⟩
 have yl4:r4.length=(r3).length+(numE e.spans.length).length:=by rw [<-y4,List.length_append]
 have pz:preT e 0=s6++r4:=by subst z1 z2 z3 z4 z5 z6 y1 y2 y3 y4;unfold preT;simp [List.append_assoc]
 have za1:∀ w,(Op.stringOp .add ⟨(numE e.author).toArray⟩ ⟨(numE e.seq).toArray⟩).run Tryz.prog w=.ok (.string ⟨s1.toArray⟩) w:=fun w=>by rw [<-z1];exact add_lists _ _ (by omega) w
 have za2:∀ w,(Op.stringOp .add ⟨(s1).toArray⟩ ⟨(numE e.day).toArray⟩).run Tryz.prog w=.ok (.string ⟨s2.toArray⟩) w:=fun w=>by rw [<-z2];exact add_lists _ _ (by omega) w
 have za3:∀ w,(Op.stringOp .add ⟨(s2).toArray⟩ ⟨(numsE e.knows).toArray⟩).run Tryz.prog w=.ok (.string ⟨s3.toArray⟩) w:=fun w=>by rw [<-z3];exact add_lists _ _ (by omega) w
 have za4:∀ w,(Op.stringOp .add ⟨(s3).toArray⟩ ⟨(numE e.kind).toArray⟩).run Tryz.prog w=.ok (.string ⟨s4.toArray⟩) w:=fun w=>by rw [<-z4];exact add_lists _ _ (by omega) w
 have za5:∀ w,(Op.stringOp .add ⟨(s4).toArray⟩ ⟨(numE e.circle).toArray⟩).run Tryz.prog w=.ok (.string ⟨s5.toArray⟩) w:=fun w=>by rw [<-z5];exact add_lists _ _ (by omega) w
 have za6:∀ w,(Op.stringOp .add ⟨(s5).toArray⟩ ⟨(numE e.who).toArray⟩).run Tryz.prog w=.ok (.string ⟨s6.toArray⟩) w:=fun w=>by rw [<-z6];exact add_lists _ _ (by omega) w
 have ya1:∀ w,(Op.stringOp .add ⟨(intE e.n).toArray⟩ ⟨(intE e.m).toArray⟩).run Tryz.prog w=.ok (.string ⟨r1.toArray⟩) w:=fun w=>by rw [<-y1];exact add_lists _ _ (by omega) w
 have ya2:∀ w,(Op.stringOp .add ⟨(r1).toArray⟩ ⟨(intE e.ref).toArray⟩).run Tryz.prog w=.ok (.string ⟨r2.toArray⟩) w:=fun w=>by rw [<-y2];exact add_lists _ _ (by omega) w
 have ya3:∀ w,(Op.stringOp .add ⟨(r2).toArray⟩ ⟨(numsE e.keys).toArray⟩).run Tryz.prog w=.ok (.string ⟨r3.toArray⟩) w:=fun w=>by rw [<-y3];exact add_lists _ _ (by omega) w
 have ya4:∀ w,(Op.stringOp .add ⟨(r3).toArray⟩ ⟨(numE e.spans.length).toArray⟩).run Tryz.prog w=.ok (.string ⟨r4.toArray⟩) w:=fun w=>by rw [<-y4];exact add_lists _ _ (by omega) w
 have HLs:Hid (([]:List UInt8).length+s6.length<=100000000):=hid (by rw [List.length_nil];omega)
 have HLr:Hid (s6.length+r4.length<=100000000):=hid (by omega)
 have HLK:Hid ((listE intE e.knows).length<=50000000):=hid (by have:=nums_list_le e.knows;omega)
 have HLY:Hid ((listE intE e.keys).length<=50000000):=hid (by have:=nums_list_le e.keys;omega)
 have PZ:=hid pz;have HE2:=hid e2;have HPL:=hid hpl;have HLEN:=hid hlen
 obtain ⟨W0,hW0⟩:∃ W0,W0=w.alloc (.cells (en13 e a1 a2 a3 c1 c2 c3) 72 (0,0)):=⟨_,rfl⟩
 have hb:W0.heap[w.heap.size]? = some (.cells (en13 e a1 a2 a3 c1 c2 c3) 72 (0,0)):=by rw [hW0];exact heap_alloc_new
 have u0:Upd (fun _=>False) w W0:=by rw [hW0];exact (Upd.refl _ _).alloc _
 have HB:=hid hb;have U:=hid u0;have HW0:=hid hW0
 clear hu hr hR E hw ht pz e2 hpl hlen hs2 i0 i1 i2 i4 i5 i6 i11 htx hW0 hb u0 z1 zl1 z2 zl2 z3 zl3 z4 zl4 z5 zl5 z6 zl6 y1 yl1 y2 yl2 y3 yl3 y4 yl4
 unfold enV
 go_enter Tryz.func86,Tryz.ntmps86
 go_wp2_with fail
 have hW:=HW0.out
 unfold en13 at hW
 rw [<-hW]
 clear hW HW0
 refine (right_any e a1 a2 a3 c1 c2 c3 (· < w.heap.size) _ (HU.out.keep U.out) (HR.out.keep U.out)).mono ?_
 rintro en wR ⟨rfl,u⟩
 rw [decide_eq_true HRT.out]
 obtain ⟨WS,hWS⟩:∃ WS,WS=wR.alloc (.cells #[.pointer none,.slice none 0 0] 204):=⟨_,rfl⟩
 have ub:Upd (fun _=>False) wR WS:=by rw [hWS];exact (Upd.refl _ _).alloc _
 have bb:Lib.IsBuilder 204 5 wR.heap.size wR.heap.size (Lib.byteCells []) WS:=by rw [hWS];exact Lib.fresh_isBuilder _ _ _
 have hpb:w.heap.size<wR.heap.size:=Nat.lt_of_lt_of_le (heap_lt HB.out) u.size
 have hy:WS.heap[w.heap.size]? = some (.cells (en13 e a1 a2 a3 c1 c2 c3) 72 (0,0)):=(ub.block _ hpb id).trans ((u.block _ (heap_lt HB.out) id).trans HB.out)
 have UW:=hid ((U.out.trans u).trans ub)
 have SZs:=hid ub.size
 obtain ⟨SB,hSB⟩:∃ x,wR.heap.size=x:=⟨_,rfl⟩
 have HWS:=hid hWS
 rw [hSB] at hpb bb SZs
 have HPB:=hid hpb;have SBL:=hid (Nat.le_of_lt hpb)
 have sY0:Hid (WS.drew.heap[w.heap.size]? = _):=hid hy
 have sV0:=hid ((Upd.refl (fun _=>False) WS).drew)
 have BS:=hid bb
 clear u ub bb hy hWS hpb
 go_upto_region 4 with (fail)
 rw [<-HWS.out]
 try rw [hSB]
 clear HWS hSB
 first | (go_region_held3 (fun w'=>w'.cell? ⟨w.heap.size,0,none⟩=some (.int .i64 e.author)/\w'.cell? ⟨w.heap.size,1,none⟩=some (.int .i64 e.seq)/\w'.cell? ⟨w.heap.size,2,none⟩=some (.int .i64 e.day)/\w'.cell? ⟨w.heap.size,3,none⟩=some (.slice a1 e.knows.length c1)/\w'.cell? ⟨w.heap.size,4,none⟩=some (.int .i64 e.kind)/\w'.cell? ⟨w.heap.size,5,none⟩=some (.int .i64 e.circle)/\w'.cell? ⟨w.heap.size,6,none⟩=some (.int .i64 e.who)) (first | with_reducible exact cells_a sY0.out | with_reducible exact cells_a sY1.out | with_reducible exact cells_a sY2.out | with_reducible exact cells_a sY3.out | with_reducible exact cells_a sY4.out | with_reducible exact cells_a sY5.out | with_reducible exact cells_a sY6.out | with_reducible exact cells_a sY7.out | with_reducible exact cells_a sY8.out | go_keep) (first | (go_at_call 25;with_reducible refine (numE_any e.author I0.out _ (HE.out.keep0 (UW.out.trans sV0.out))).mono ?_;rintro en wx1 ⟨rfl,u⟩;have sY1:=hid ((u.block _ (heap_lt sY0.out) id).trans sY0.out);have sV1:=hid (sV0.out.trans u);clear u) | (go_at_call 25;with_reducible refine (numE_any e.seq I1.out _ (HE.out.keep0 (UW.out.trans sV1.out))).mono ?_;rintro en wx2 ⟨rfl,u⟩;have sY2:=hid ((u.block _ (heap_lt sY1.out) id).trans sY1.out);have sV2:=hid (sV1.out.trans u);clear u) | (go_at_call 25;with_reducible refine (numE_any e.day I2.out _ (HE.out.keep0 (UW.out.trans sV2.out))).mono ?_;rintro en wx3 ⟨rfl,u⟩;have sY3:=hid ((u.block _ (heap_lt sY2.out) id).trans sY2.out);have sV3:=hid (sV2.out.trans u);clear u) | (go_at_call 159;with_reducible refine (numsE_any _ e.knows _ (HE.out.keep0 (UW.out.trans sV3.out)) (rep_keep HR.out.knows (UW.out.trans sV3.out)) HWF.out.knows.2 HLK.out).mono ?_;rintro en wx4 ⟨rfl,u⟩;have sY4:=hid ((u.block _ (heap_lt sY3.out) id).trans sY3.out);have sV4:=hid (sV3.out.trans u);clear u) | (go_at_call 25;with_reducible refine (numE_any e.kind I4.out _ (HE.out.keep0 (UW.out.trans sV4.out))).mono ?_;rintro en wx5 ⟨rfl,u⟩;have sY5:=hid ((u.block _ (heap_lt sY4.out) id).trans sY4.out);have sV5:=hid (sV4.out.trans u);clear u) | (go_at_call 25;with_reducible refine (numE_any e.circle I5.out _ (HE.out.keep0 (UW.out.trans sV5.out))).mono ?_;rintro en wx6 ⟨rfl,u⟩;have sY6:=hid ((u.block _ (heap_lt sY5.out) id).trans sY5.out);have sV6:=hid (sV5.out.trans u);clear u) | (go_at_call 25;with_reducible refine (numE_any e.who I6.out _ (HE.out.keep0 (UW.out.trans sV6.out))).mono ?_;rintro en wx7 ⟨rfl,u⟩;have sY7:=hid ((u.block _ (heap_lt sY6.out) id).trans sY6.out);have sV7:=hid (sV6.out.trans u);clear u) | (go_at_call 158;with_reducible refine (writeString_old _ _ [] s6 _ _ BS.out sV7.out HLs.out (Nat.le_trans SZs.out sV7.out.size)).mono ?_;rintro en wx8 ⟨rfl,hb,bl⟩;have sY8:=hid ((bl.block _ (heap_lt sY7.out) (fun h=>absurd h.1 (Nat.not_le_of_lt HPB.out))).trans sY7.out);have sV8:=hid bl;have sB8:=hid hb;clear hb bl))) | fail
 have UX:=hid (upd_bel (UW.out.trans sV7.out) sV8.out SBL.out)
 have BX:=hid (show Lib.IsBuilder 204 5 SB SB (Lib.byteCells s6) wx8 from sB8.out)
 have YX:=hid sY8.out
 have SZr:=hid (Nat.le_trans (Nat.le_trans SZs.out sV7.out.size) sV8.out.size)
 clear sY0 sV0 sY1 sV1 sY2 sV2 sY3 sV3 sY4 sV4 sY5 sV5 sY6 sV6 sY7 sV7 sY8 sV8 BS sB8 UW SZs HLs za1 za2 za3 za4 za5 za6
 obtain ⟨UW,hUW⟩:∃ U:Hid (Upd (fun _=>False) w wx8),U=UX:=⟨_,rfl⟩
 clear hUW UX
 have rY0:Hid (wx8.drew.heap[w.heap.size]? = _):=hid YX.out
 have rV0:=hid ((Upd.refl (fun _=>False) wx8).drew)
 go_upto_region 5 with (fail)
 first | (go_region_held3 (fun w'=>w'.cell? ⟨w.heap.size,7,none⟩=some (.int .i64 e.n)/\w'.cell? ⟨w.heap.size,8,none⟩=some (.int .i64 e.m)/\w'.cell? ⟨w.heap.size,9,none⟩=some (.int .i64 e.ref)/\w'.cell? ⟨w.heap.size,10,none⟩=some (.slice a2 e.keys.length c2)/\w'.cell? ⟨w.heap.size,11,none⟩=some (.slice a3 e.spans.length c3)) (first | with_reducible exact cells_b rY0.out | with_reducible exact cells_b rY1.out | with_reducible exact cells_b rY2.out | with_reducible exact cells_b rY3.out | with_reducible exact cells_b rY4.out | with_reducible exact cells_b rY5.out | with_reducible exact cells_b rY6.out | go_keep) (first | (go_at_call 99;with_reducible refine (intE_any e.n HWF.out.n _ (HE.out.keep0 (UW.out.trans rV0.out))).mono ?_;rintro en wz1 ⟨rfl,u⟩;have rY1:=hid ((u.block _ (heap_lt rY0.out) id).trans rY0.out);have rV1:=hid (rV0.out.trans u);clear u) | (go_at_call 99;with_reducible refine (intE_any e.m HWF.out.m _ (HE.out.keep0 (UW.out.trans rV1.out))).mono ?_;rintro en wz2 ⟨rfl,u⟩;have rY2:=hid ((u.block _ (heap_lt rY1.out) id).trans rY1.out);have rV2:=hid (rV1.out.trans u);clear u) | (go_at_call 99;with_reducible refine (intE_any e.ref HWF.out.ref _ (HE.out.keep0 (UW.out.trans rV2.out))).mono ?_;rintro en wz3 ⟨rfl,u⟩;have rY3:=hid ((u.block _ (heap_lt rY2.out) id).trans rY2.out);have rV3:=hid (rV2.out.trans u);clear u) | (go_at_call 159;with_reducible refine (numsE_any _ e.keys _ (HE.out.keep0 (UW.out.trans rV3.out)) (rep_keep HR.out.keys (UW.out.trans rV3.out)) HWF.out.keys.2 HLY.out).mono ?_;rintro en wz4 ⟨rfl,u⟩;have rY4:=hid ((u.block _ (heap_lt rY3.out) id).trans rY3.out);have rV4:=hid (rV3.out.trans u);clear u) | (go_at_call 25;with_reducible refine (numE_any (e.spans.length:Int) I11.out _ (HE.out.keep0 (UW.out.trans rV4.out))).mono ?_;rintro en wz5 ⟨rfl,u⟩;have rY5:=hid ((u.block _ (heap_lt rY4.out) id).trans rY4.out);have rV5:=hid (rV4.out.trans u);clear u) | (go_at_call 158;with_reducible refine (writeString_old _ _ s6 r4 _ _ BX.out rV5.out HLr.out (Nat.le_trans SZr.out rV5.out.size)).mono ?_;rintro en wz6 ⟨rfl,hb,bl⟩;have rY6:=hid ((bl.block _ (heap_lt rY5.out) (fun h=>absurd h.1 (Nat.not_le_of_lt HPB.out))).trans rY5.out);have rV6:=hid bl;have rB6:=hid hb;clear hb bl))) | fail
 have UX:=hid (upd_bel (UW.out.trans rV5.out) rV6.out SBL.out)
 have BX2:=hid (show Lib.IsBuilder 204 5 SB SB (Lib.byteCells (preT e 0)) wz6 from by rw [PZ.out];exact rB6.out)
 have YX2:=hid rY6.out
 have SZ2:=hid (Nat.le_trans (Nat.le_trans SZr.out rV5.out.size) rV6.out.size)
 obtain ⟨_,_,_,_,d11⟩:=cells_b YX2.out
 clear rY0 rV0 rY1 rV1 rY2 rV2 rY3 rV3 rY4 rV4 rY5 rV5 rY6 rV6 rB6 UW SZr BX YX HLr HLK HLY PZ I0 I1 I2 I4 I5 I6 I11 ya1 ya2 ya3 ya4
 clear HU
 go_wp2_with fail
 go_loopg [5,61] e.spans.length (fun gg _ s61 wr=>∃ k:Nat,k<=e.spans.length/\gg=e.spans.length-k/\s61=.int .i64 k/\Lib.IsBuilder 204 5 SB SB (Lib.byteCells (preT e k)) wr/\wr.heap[w.heap.size]? = some (.cells (en13 e a1 a2 a3 c1 c2 c3) 72 (0,0))/\SB<=wr.heap.size/\Upd (fun _=>False) w wr)
 case atStart=>exact ⟨0,Nat.zero_le _,rfl,rfl,BX2.out,YX2.out,SZ2.out,UX.out⟩
 case round =>
  clear BX2 YX2 SZ2 UX
  obtain ⟨k,hk,hg,rfl,hb,hy,hsz,u⟩:=hrel
  have HG:=hid hg;have BB:=hid hb;have YY:=hid hy;have SZ:=hid hsz;have UR:=hid u
  clear hg hb hy hsz u
  by_cases hlt:k<e.spans.length
  case neg =>
   obtain rfl:k=e.spans.length:=by omega
   obtain ⟨_,_,_,_,_,_,_,_,_,_,_,_,d12⟩:=cells13 YY.out
   clear hlt
   go_wp2_with fail
   refine (textE_any e.text (by have:=HTX.out;omega) _ (HE.out.keep0 UR.out)).mono ?_
   rintro en w5 ⟨rfl,u⟩
   have hb5:=builder_keep BB.out u
   have B5:=hid hb5;have U5:=hid (UR.out.trans u);have S5:=hid (Nat.le_trans SZ.out u.size)
   clear u hb5
   go_wp2_with fail
   refine (writeString_any SB SB (preT e e.spans.length) (textE e.text) _ B5.out (by have:=HPL.out e.spans.length;have:=HLEN.out;omega) S5.out).mono ?_
   rintro en w6 ⟨rfl,hb,bl⟩
   rw [HE2.out] at hb
   have B6:=hid hb;have U6:=hid (upd_below U5.out bl SBL.out);have S6:=hid (Nat.le_trans S5.out bl.size)
   clear hb bl
   go_wp2_with fail
   refine (string_any SB SB _ _ B6.out S6.out).mono ?_
   rintro en w7 ⟨rfl,bl⟩
   have U7:=hid (upd_below U6.out bl SBL.out)
   clear bl
   go_wp2_with fail
   go_ret
   exact ⟨rfl,U7.out⟩
  have hlti:(k:Int)<e.spans.length:=by omega
  have hk1:(k:Int)+1<=41:=by omega
  obtain ⟨b0,o0,rfl,hb0,hel⟩:=slice_at HR.out.spans (by omega)
  obtain ⟨_,m0,m1,m2⟩:=sp_cells hel hlt
  have m0:=cell_kept m0 (UR.out.block b0 hb0 id)
  have m1:=cell_kept m1 (UR.out.block b0 hb0 id)
  have m2:=cell_kept m2 (UR.out.block b0 hb0 id)
  have hbw:b0<wr.heap.size:=Nat.lt_of_lt_of_le hb0 UR.out.size
  have hxo:=HS2.out _ (List.getElem_mem hlt)
  have HSC:=hid (preT_succ e hlt)
  have hpk:=HPL.out (k+1)
  rw [HSC.out,List.length_append] at hpk
  obtain ⟨x,hx⟩:∃ x,e.spans[k]=x:=⟨_,rfl⟩
  rw [hx] at m0 m1 m2 hxo HSC hpk
  unfold Sp.Ok at hxo
  have J0:Hid (I64 x.mark):=hid (by unfold I64;omega)
  have J1:Hid (I64 x.fr):=hid (by unfold I64;omega)
  have J2:Hid (I64 x.to):=hid (by unfold I64;omega)
  have hl4:=HLEN.out
  obtain ⟨p1,v1⟩:∃ y,numE x.mark++numE x.fr=y:=⟨_,rfl⟩
  obtain ⟨p2,v2⟩:∃ y,p1++numE x.to=y:=⟨_,rfl⟩
  have hsp:spanE x=p2:=by unfold spanE;rw [<-v2,<-v1,List.append_assoc]
  have vl1:p1.length=(numE x.mark).length+(numE x.fr).length:=by rw [<-v1,List.length_append]
  have vl2:p2.length=p1.length+(numE x.to).length:=by rw [<-v2,List.length_append]
  rw [hsp] at HSC hpk
  have va1:∀ w,(Op.stringOp .add ⟨(numE x.mark).toArray⟩ ⟨(numE x.fr).toArray⟩).run Tryz.prog w=.ok (.string ⟨p1.toArray⟩) w:=fun w=>by rw [<-v1];exact add_lists _ _ (by omega) w
  have va2:∀ w,(Op.stringOp .add ⟨p1.toArray⟩ ⟨(numE x.to).toArray⟩).run Tryz.prog w=.ok (.string ⟨p2.toArray⟩) w:=fun w=>by rw [<-v2];exact add_lists _ _ (by omega) w
  have HLq:Hid ((preT e k).length+p2.length<=100000000):=hid (by omega)
  obtain ⟨W1,hW1⟩:∃ W1,W1=wr.alloc (.cells #[.int .i64 x.mark,.int .i64 x.fr,.int .i64 x.to] 177 (0,0)):=⟨_,rfl⟩
  have hb1:W1.heap[wr.heap.size]? = some (.cells #[.int .i64 x.mark,.int .i64 x.fr,.int .i64 x.to] 177 (0,0)):=by rw [hW1];exact heap_alloc_new
  have u1:Upd (fun _=>False) wr W1:=by rw [hW1];exact (Upd.refl _ _).alloc _
  have HW1:=hid hW1
  have UW:=hid (UR.out.trans u1)
  have SZq:=hid (Nat.le_trans SZ.out u1.size)
  have HYW:=hid ((u1.block _ (heap_lt YY.out) id).trans YY.out)
  have qY0:Hid (W1.drew.heap[wr.heap.size]? = _):=hid hb1
  have qV0:=hid ((Upd.refl (fun _=>False) W1).drew)
  have U1:=hid u1
  clear hel hx hxo v1 v2 vl1 vl2 hsp hpk hl4 hW1 hb1 u1
  go_upto_region 9 with (fail)
  rw [<-HW1.out]
  first | (go_region_held3 (fun w'=>w'.cell? ⟨wr.heap.size,0,none⟩=some (.int .i64 x.mark)/\w'.cell? ⟨wr.heap.size,1,none⟩=some (.int .i64 x.fr)/\w'.cell? ⟨wr.heap.size,2,none⟩=some (.int .i64 x.to)) (first | with_reducible exact cells_s qY0.out | with_reducible exact cells_s qY1.out | with_reducible exact cells_s qY2.out | with_reducible exact cells_s qY3.out | with_reducible exact cells_s qY4.out | go_keep) (first | (go_at_call 25;with_reducible refine (numE_any x.mark J0.out _ (HE.out.keep0 (UW.out.trans qV0.out))).mono ?_;rintro en wq1 ⟨rfl,u⟩;have qY1:=hid ((u.block _ (heap_lt qY0.out) id).trans qY0.out);have qV1:=hid (qV0.out.trans u);clear u) | (go_at_call 25;with_reducible refine (numE_any x.fr J1.out _ (HE.out.keep0 (UW.out.trans qV1.out))).mono ?_;rintro en wq2 ⟨rfl,u⟩;have qY2:=hid ((u.block _ (heap_lt qY1.out) id).trans qY1.out);have qV2:=hid (qV1.out.trans u);clear u) | (go_at_call 25;with_reducible refine (numE_any x.to J2.out _ (HE.out.keep0 (UW.out.trans qV2.out))).mono ?_;rintro en wq3 ⟨rfl,u⟩;have qY3:=hid ((u.block _ (heap_lt qY2.out) id).trans qY2.out);have qV3:=hid (qV2.out.trans u);clear u) | (go_at_call 158;with_reducible refine (writeString_old _ _ (preT e k) p2 _ _ BB.out (U1.out.trans qV3.out) HLq.out (Nat.le_trans SZq.out qV3.out.size)).mono ?_;rintro en wq4 ⟨rfl,hb,bl⟩;have qY4:=hid ((bl.block _ (heap_lt qY3.out) (fun h=>absurd h.2 (Nat.lt_irrefl _))).trans qY3.out);have qV4:=hid bl;have qB4:=hid hb;clear hb bl))) | fail
  have UX:=hid (upd_bel (UW.out.trans qV3.out) qV4.out SBL.out)
  have YX:=hid ((qV4.out.block _ (Nat.lt_of_lt_of_le (heap_lt HYW.out) qV3.out.size) (fun h=>Nat.not_le_of_lt HPB.out h.1)).trans ((qV3.out.block _ (heap_lt HYW.out) id).trans HYW.out))
  have SX:=hid (Nat.le_trans (Nat.le_trans SZq.out qV3.out.size) qV4.out.size)
  have BX:=hid (show Lib.IsBuilder 204 5 SB SB (Lib.byteCells (preT e (k+1))) wq4 from by rw [HSC.out];exact qB4.out)
  clear qY0 qV0 qY1 qV1 qY2 qV2 qY3 qV3 qV4 qY4 qB4 va1 va2
  go_wp2_with fail
  go_roundg (e.spans.length-(k+1))
  case measure=>have:=HG.out;omega
  case rel=>exact ⟨k+1,by omega,rfl,by go_num,BX.out,YX.out,SX.out,UX.out⟩
end Go.Proofs.YtjkmalddfoemhaaGreatDoor
