/- Posts in memory, and rows of signatures. -/
import Derived.Test.YtjkmalddfoemhaaGreatDoorJ9
import Derived.Test.YtjkmalddfoemhaaGreatDoorJ10
import Derived.Test.YtjkmalddfoemhaaGreatDoorJ2
import Derived.Test.YtjkmalddfoemhaaGreatDoorJ4
set_option maxRecDepth 100000
set_option maxHeartbeats 2000000
namespace Go.Proofs.YtjkmalddfoemhaaGreatDoor
open Go.RowKit Go.Deep
def kPo:Knd Po:=kMap (kPair (kInt .i64) (kPair kEn (kPair kStr8 (kInt .i64)))) fun p=>(p.key,p.en,p.raw,p.odd)
theorem reads_po:Reads Tryz.prog 74 kPo :=
 reads_map (fun x=>⟨x.1,x.2.1,x.2.2.1,x.2.2.2⟩) (fun _=>rfl) (reads_struct Tryz.underlying74
  (tail_cons rfl rfl (reads_int Tryz.underlying3 (by kernel_rfl)) (tail_cons rfl rfl reads_en (tail_cons rfl rfl reads_str8 (tail_last rfl rfl (reads_int Tryz.underlying3 (by kernel_rfl)) (by kernel_rfl))))))
def kPos:Knd (List Po):=kSlice kPo
theorem reads_pos:Reads Tryz.prog 22 kPos:=reads_slice Tryz.underlying22 (by kernel_rfl) reads_po (by decide)
def poC (p:Po) (a1 a2 a3:Option Addr) (c1 c2 c3:Nat):List Value:=.int .i64 p.key::((en13 p.en a1 a2 a3 c1 c2 c3).toList++[.string ⟨p.raw.toArray⟩,.int .i64 p.odd])
structure PoOk (p:Po):Prop where
 key:(Lit.int .i64 p.key).wf=true
 en:EnOk p.en
 raw:p.raw.length<=maxLen
 odd:(Lit.int .i64 p.odd).wf=true
theorem en_openL {A:Nat->Prop} {w:World} {cs:List Value} {e:En} (h:kEn.rep A w cs e):∃ a1 a2 a3 c1 c2 c3,cs=(en13 e a1 a2 a3 c1 c2 c3).toList/\EnRep A w e a1 a2 a3 c1 c2 c3/\EnOk e:=by
 obtain ⟨a1,a2,a3,c1,c2,c3,h1,h2,h3⟩:=en_open (cs:=cs.toArray) (by simpa using h)
 exact ⟨a1,a2,a3,c1,c2,c3,by rw [<-h1],h2,h3⟩
theorem po_open {A:Nat->Prop} {w:World} {cs:List Value} {p:Po} (h:kPo.rep A w cs p):∃ a1 a2 a3 c1 c2 c3,cs=poC p a1 a2 a3 c1 c2 c3/\EnRep A w p.en a1 a2 a3 c1 c2 c3/\PoOk p:=by
 obtain ⟨_,_,rfl,⟨rfl,h1⟩,_,_,rfl,he,_,_,rfl,⟨rfl,hr⟩,rfl,ho⟩:=h
 obtain ⟨a1,a2,a3,c1,c2,c3,rfl,h2,h3⟩:=en_openL he
 exact ⟨a1,a2,a3,c1,c2,c3,rfl,h2,h1,h3,by simpa [ByteArray.size] using hr,ho⟩
structure PoAt (w:World) (A:Nat->Prop) (b o:Nat) (p:Po) (a1 a2 a3:Option Addr) (c1 c2 c3:Nat):Prop where
 cells:∀ j,j<16->w.cell? ⟨b,o+j,none⟩=(poC p a1 a2 a3 c1 c2 c3)[j]?
 rep:EnRep A w p.en a1 a2 a3 c1 c2 c3
 ok:PoOk p
theorem po_at {A:Nat->Prop} {w:World} {b o:Nat} {l:List Po} (h:Elems kPo A w b o l) {i:Nat} (hi:i<l.length):∃ a1 a2 a3 c1 c2 c3,PoAt w A b (o+i*16) l[i] a1 a2 a3 c1 c2 c3:=by
 obtain ⟨cs,h1,h2⟩:=h.cell hi
 obtain ⟨a1,a2,a3,c1,c2,c3,rfl,hr,hk⟩:=po_open h1
 exact ⟨a1,a2,a3,c1,c2,c3,fun j hj=>h2 j hj,hr,hk⟩
theorem PoAt.keep {A S:Nat->Prop} {w w':World} {b o:Nat} {p:Po} {a1 a2 a3:Option Addr} {c1 c2 c3:Nat} (h:PoAt w A b o p a1 a2 a3 c1 c2 c3) (u:Upd S w w') (hb:¬S b) (hA:∀ g,A g->¬S g):PoAt w' A b o p a1 a2 a3 c1 c2 c3:=by
 refine ⟨fun j hj=>?_,h.rep.keep1 u hA,h.ok⟩
 have h1:=h.cells j hj
 have hl:j<(poC p a1 a2 a3 c1 c2 c3).length:=hj
 rw [List.getElem?_eq_getElem hl] at h1 ⊢
 exact cell_kept h1 (u.block b (World.block_lt_of_cell? _ _ h1) hb)
def FewEn (e:En):Prop:=e.knows.length<=40/\e.keys.length<=12/\e.spans.length<=12/\e.text.length<=300
instance (e:En):Decidable (FewEn e):=by unfold FewEn;exact inferInstance
def FewPo (p:Po):Prop:=p.raw.length<=600/\FewEn p.en
instance (p:Po):Decidable (FewPo p):=by unfold FewPo;exact inferInstance
def FewL (l:List Po) (n:Nat):Prop:=l.length<=n/\∀ p∈l,FewPo p
theorem FewEn.wf {e:En} (h:FewEn e) (hk:EnOk e):EnWf e:=⟨⟨Nat.le_trans h.1 (by decide),hk.knows⟩,⟨Nat.le_trans h.2.1 (by decide),hk.keys⟩,hk.n,hk.m,hk.ref⟩
def sgCells (s:Sg):List Value:=[.int .i64 s.key,.string ⟨s.text.toArray⟩,.int .i64 s.mark]
def sgFlat (l:List Sg):List Value:=(l.map sgCells).flatten
theorem sgFlat_snoc (l:List Sg) (s:Sg):sgFlat (l++[s])=sgFlat l++sgCells s:=by unfold sgFlat;simp
theorem sgFlat_get (l:List Sg) (i:Nat) (h:i<l.length) (j:Nat) (hj:j<3):(sgFlat l)[i*3+j]? = (sgCells l[i])[j]?:=flat_get (f:=sgCells) (n:=3) (fun _=>rfl) l i h j hj
def SgsAt (w:World) (B:Nat) (v:Value) (l:List Sg):Prop:=w.ownsRow B 49 3 v l.length (sgFlat l)
theorem SgsAt.nil {w:World} {B:Nat}:SgsAt w B (.slice none 0 0) []:=World.ownsRow_nil _ _ _ _
theorem SgsAt.get {w:World} {B:Nat} {v:Value} {l:List Sg} (h:SgsAt w B v l) (hp:0<l.length):∃ g cap,v=.slice (some ⟨g,0,none⟩) l.length cap/\l.length<=cap/\cap<=maxLen/\B<=g/\g<w.heap.size ∧
 ∀ i (hi:i<l.length),w.cell? ⟨g,i*3,none⟩=some (.int .i64 l[i].key)/\w.cell? ⟨g,i*3+1,none⟩=some (.string ⟨l[i].text.toArray⟩)/\w.cell? ⟨g,i*3+2,none⟩=some (.int .i64 l[i].mark):=by
 obtain ⟨h1,⟨h2,h3⟩ | ⟨g,cap,cur,hv,hb,hg,hn,hc,hs,ht⟩⟩:=h
 · omega
 · refine ⟨g,cap,hv,hn,hc,hb,heap_lt hg,fun i hi=>?_⟩
   have key:∀ j,j<3->w.cell? ⟨g,i*3+j,none⟩=(sgCells l[i])[j]?:=fun j hj=>by
    rw [cell_of_block hg,<-sgFlat_get l i hi j hj,<-ht,List.getElem?_take,if_pos,Array.getElem?_toList]
    calc i*3+j<i*3+3:=by omega
     _=(i+1)*3:=by omega
     _<=l.length*3:=Nat.mul_le_mul_right _ hi
   exact ⟨key 0 (by decide),key 1 (by decide),key 2 (by decide)⟩
theorem elemSg:ElemTy Tryz.prog 62 49 3 32:=ElemTy.mk' (z:=.agg #[.int .i64 0,.string ⟨#[]⟩,.int .i64 0]) Tryz.underlying62 (by kernel_rfl) (by rfl) (by decide)
end Go.Proofs.YtjkmalddfoemhaaGreatDoor
namespace Go.Proofs.YtjkmalddfoemhaaGreatDoor
open Go.RowKit Go.Deep
theorem ints8_any (v1 v2:Value) (l1 l2:List Int) (A1 A2:Nat->Prop) (w:World) (h1:kInts.rep A1 w [v1] l1) (h2:kInts.rep A2 w [v2] l2) (hA1:∀ b,A1 b->b<w.heap.size) (hA2:∀ b,A2 b->b<w.heap.size) :
 Calls Tryz.prog 27 #[v1,v2] w fun e w'=>e=.returned (.bool (decide (l1=l2)))/\Upd (fun _=>False) w w':=by
 obtain ⟨a1,cap1,rfl,p1,p2,p3⟩:=slice_open h1
 obtain ⟨a2,cap2,rfl,q1,q2,q3⟩:=slice_open h2
 have p2:cap1<=9223372036854775807:=p2
 have q2:cap2<=9223372036854775807:=q2
 have H1:=hid p3;have H2:=hid q3;have HA1:=hid hA1;have HA2:=hid hA2
 clear h1 h2 p3 q3 hA1 hA2
 by_cases hlen:l1.length=l2.length
 · have hb:((l1.length:Int) != l2.length)=false:=by rw [hlen];simp
   have hb2:(l1.length != l2.length)=false:=by rw [hlen];simp
   have HL:=hid hlen
   clear hlen
   go_enter Tryz.func27,Tryz.ntmps27
   go_wp2_with fail
   go_loopg [5] l1.length (fun gg s wr=>∃ k:Nat,k<=l1.length/\gg=l1.length-k/\s=.int .i64 k/\(∀ i (h:i<l1.length) (h':i<l2.length),i<k->l1[i]=l2[i])/\Upd (fun _=>False) w wr)
   case atStart=>exact ⟨0,Nat.zero_le _,by omega,rfl,fun i _ _ h=>absurd h (Nat.not_lt_zero _),Upd.refl _ _⟩
   case round =>
    obtain ⟨k,hk,hg,rfl,he,u⟩:=hrel
    have UU:=hid u;have HG:=hid hg;have EQ:=hid he
    clear u hg he
    by_cases hlt:k<l1.length
    · obtain ⟨b1,o1,rfl,hb1,hel1⟩:=H1.out (by omega)
      have hlt2:k<l2.length:=by have:=HL.out;omega
      obtain ⟨b2,o2,rfl,hb2',hel2⟩:=H2.out (by omega)
      have hb1:=HA1.out _ hb1
      have hb2':=HA2.out _ hb2'
      have m1:=cell_kept (int_cells hel1 hlt) (UU.out.block b1 hb1 id)
      have m2:=cell_kept (int_cells hel2 hlt2) (UU.out.block b2 hb2' id)
      have hlti:(k:Int)<l1.length:=by omega
      have hlti2:(k:Int)<l2.length:=by omega
      have hk1:(k:Int)+1<=9223372036854775807:=by omega
      clear hel1 hel2
      by_cases hx:l1[k]=l2[k]
      · skip
        have hxb:(l1[k] != l2[k])=false:=by rw [hx];simp
        have HX:=hid hx
        clear hx
        go_wp2_with fail
        go_quiet (fail)
        go_wp2_with fail
        go_roundg (l1.length-(k+1))
        case measure=>have:=HG.out;omega
        case rel =>
         refine ⟨k+1,by omega,rfl,by go_num,fun i h h' hi=>?_,UU.out.drewN _⟩
         by_cases e:i=k
         · subst e;exact HX.out
         · exact EQ.out i h h' (by omega)
      · have hd:(l1=l2)=False:=eq_false fun e=>hx (by simp [e])
        have HD:=hid hd
        clear hd
        have hxb:(l1[k] != l2[k])=true:=by simpa using hx
        clear hx
        go_wp2_with fail
        go_quiet (fail)
        go_wp2_with fail
        go_ret
        exact ⟨by rw [decide_eq_false (of_eq_false HD.out)];rfl,UU.out.drewN _⟩
    · have hd:l1=l2:=List.ext_getElem HL.out fun i h h'=>EQ.out i h h' (by omega)
      obtain rfl:k=l1.length:=by omega
      have HD:=hid hd
      clear hd
      go_wp2_with fail
      go_ret
      exact ⟨by rw [decide_eq_true HD.out];rfl,UU.out⟩
 · have hb:((l1.length:Int) != l2.length)=true:=by rw [bne_iff_ne];omega
   have hb2:(l1.length != l2.length)=true:=by rw [bne_iff_ne];omega
   have hd:¬l1=l2:=fun e=>hlen (by rw [e])
   have HD:=hid hd
   clear hd hlen
   go_enter Tryz.func27,Tryz.ntmps27
   go_wp2_with fail
   go_ret
   exact ⟨by rw [decide_eq_false HD.out];rfl,Upd.refl _ _⟩
end Go.Proofs.YtjkmalddfoemhaaGreatDoor
namespace Go.Proofs.YtjkmalddfoemhaaGreatDoor
open Go.RowKit Go.Deep
theorem fewEn_any (e:En) (a1 a2 a3:Option Addr) (c1 c2 c3:Nat) (w:World):Calls Tryz.prog 91 #[enV e a1 a2 a3 c1 c2 c3] w fun en w'=>en=.returned (.bool (decide (FewEn e)))/\Upd (fun _=>False) w w':=by
 obtain ⟨W0,hW0⟩:∃ W0,W0=w.alloc (.cells (en13 e a1 a2 a3 c1 c2 c3) 72 (0,0)):=⟨_,rfl⟩
 have hb:W0.heap[w.heap.size]? = some (.cells (en13 e a1 a2 a3 c1 c2 c3) 72 (0,0)):=by rw [hW0];exact heap_alloc_new
 have U:=hid (show Upd (fun _=>False) w W0 by rw [hW0];exact (Upd.refl _ _).alloc _)
 obtain ⟨d0,d1,d2,d3,d4,d5,d6,d7,d8,d9,d10,d11,d12⟩:=cells13 hb
 have HW0:=hid hW0
 clear hb hW0
 unfold enV
 by_cases h0:e.knows.length<=40
 case neg =>
  have t0:decide ((e.knows.length:Int)<=40)=false:=decide_eq_false (by omega)
  have HX:=hid h0
  clear h0
  go_enter Tryz.func91,Tryz.ntmps91
  go_upto_region 1 with (fail)
  have hW:=HW0.out
  unfold en13 at hW
  rw [<-hW]
  clear hW HW0
  go_wp2_with fail
  go_ret
  exact ⟨ret_f fun h=>HX.out h.1,U.out⟩
 have t0:decide ((e.knows.length:Int)<=40)=true:=decide_eq_true (by omega)
 by_cases h1:e.keys.length<=12
 case neg =>
  have t1:decide ((e.keys.length:Int)<=12)=false:=decide_eq_false (by omega)
  have HX:=hid h1
  clear h1
  go_enter Tryz.func91,Tryz.ntmps91
  go_upto_region 1 with (fail)
  have hW:=HW0.out
  unfold en13 at hW
  rw [<-hW]
  clear hW HW0
  go_wp2_with fail
  go_ret
  exact ⟨ret_f fun h=>HX.out h.2.1,U.out⟩
 have t1:decide ((e.keys.length:Int)<=12)=true:=decide_eq_true (by omega)
 by_cases h2:e.spans.length<=12
 case neg =>
  have t2:decide ((e.spans.length:Int)<=12)=false:=decide_eq_false (by omega)
  have HX:=hid h2
  clear h2
  go_enter Tryz.func91,Tryz.ntmps91
  go_upto_region 1 with (fail)
  have hW:=HW0.out
  unfold en13 at hW
  rw [<-hW]
  clear hW HW0
  go_wp2_with fail
  go_ret
  exact ⟨ret_f fun h=>HX.out h.2.2.1,U.out⟩
 have t2:decide ((e.spans.length:Int)<=12)=true:=decide_eq_true (by omega)
 by_cases h3:e.text.length<=300
 case neg =>
  have t3:decide ((e.text.length:Int)<=300)=false:=decide_eq_false (by omega)
  have HX:=hid h3
  clear h3
  go_enter Tryz.func91,Tryz.ntmps91
  go_upto_region 1 with (fail)
  have hW:=HW0.out
  unfold en13 at hW
  rw [<-hW]
  clear hW HW0
  go_wp2_with fail
  go_ret
  exact ⟨ret_f fun h=>HX.out h.2.2.2,U.out⟩
 have t3:decide ((e.text.length:Int)<=300)=true:=decide_eq_true (by omega)
 have HX:=hid (show FewEn e from ⟨h0,h1,h2,h3⟩)
 clear h0 h1 h2 h3
 go_enter Tryz.func91,Tryz.ntmps91
 go_upto_region 1 with (fail)
 have hW:=HW0.out
 unfold en13 at hW
 rw [<-hW]
 clear hW HW0
 go_wp2_with fail
 go_ret
 exact ⟨ret_t HX.out,U.out⟩
instance (l:List Po) (n:Nat):Decidable (FewL l n):=by unfold FewL;exact inferInstance
theorem fewL_any (A:Nat->Prop) (v:Value) (l:List Po) (n:Nat) (w:World) (h:kPos.rep A w [v] l) (hn:n<=100) :
 Calls Tryz.prog 17 #[v,.int .i64 n] w fun e w'=>e=.returned (.bool (decide (FewL l n)))/\Upd (fun _=>False) w w':=by
 obtain ⟨a,cap,rfl,p1,p2,p3⟩:=slice_open h
 have p2:cap<=9223372036854775807:=p2
 have P3:=hid p3
 clear h p3
 go_enter Tryz.func17,Tryz.ntmps17
 go_wp2_with fail
 go_loopg [5] l.length (fun gg s5 wr=>∃ k:Nat,k<=l.length/\k<=n+1/\gg=l.length-k/\s5=.int .i64 k/\(∀ i (h:i<l.length),i<k->FewPo l[i])/\Upd (fun _=>False) w wr)
 case atStart=>exact ⟨0,Nat.zero_le _,Nat.zero_le _,by omega,rfl,fun i _ h=>absurd h (Nat.not_lt_zero _),Upd.refl _ _⟩
 case round =>
  obtain ⟨k,hk,hkn,hg,rfl,hf,u⟩:=hrel
  have UU:=hid u;have HG:=hid hg;have HF:=hid hf
  clear u hg hf
  by_cases hlt:k<l.length
  case neg =>
   have hlti:¬(k:Int)<l.length:=by omega
   by_cases hln:l.length<=n
   · have hlni:(l.length:Int)<=n:=by omega
     have HD:=hid (show FewL l n from ⟨hln,fun p hp=>by obtain ⟨i,hi,rfl⟩:=List.getElem_of_mem hp;exact HF.out i hi (by omega)⟩)
     go_wp2_with fail
     go_ret
     exact ⟨by rw [decide_eq_true HD.out];first | rfl | simp [hln],UU.out⟩
   · have hlni:¬(l.length:Int)<=n:=by omega
     have HD:=hid (show ¬FewL l n from fun q=>hln q.1)
     go_wp2_with fail
     go_ret
     exact ⟨by rw [decide_eq_false HD.out];first | rfl | simp [hln],UU.out⟩
  have hlti:(k:Int)<l.length:=by omega
  have hdl:decide ((k:Int)<l.length)=true:=decide_eq_true hlti
  by_cases hkn2:k<=n
  case neg =>
   have hkni:¬(k:Int)<=n:=by omega
   have hdk:decide ((k:Int)<=n)=false:=decide_eq_false hkni
   have hln:¬l.length<=n:=by omega
   have hlni:¬(l.length:Int)<=n:=by omega
   have HD:=hid (show ¬FewL l n from fun q=>hln q.1)
   go_wp2_with fail
   go_ret
   exact ⟨by rw [decide_eq_false HD.out];first | rfl | simp [hln],UU.out⟩
  have hkni:(k:Int)<=n:=by omega
  have hdk:decide ((k:Int)<=n)=true:=decide_eq_true hkni
  obtain ⟨b,o,rfl,_,hel⟩:=P3.out (by omega)
  obtain ⟨a1,a2,a3,c1,c2,c3,hpo⟩:=po_at hel hlt
  have hpo:=hpo.keep UU.out id (fun _ _=>id)
  have rp:=hpo.rep
  obtain ⟨p,hp⟩:∃ p,l[k]=p:=⟨_,rfl⟩
  rw [hp] at hpo rp
  have cells:=hpo.cells
  have m1:wr.cell? ⟨b,o+k*16+1,none⟩=some (.int .i64 p.en.author):=cells 1 (by decide)
  have m2:wr.cell? ⟨b,o+k*16+2,none⟩=some (.int .i64 p.en.seq):=cells 2 (by decide)
  have m3:wr.cell? ⟨b,o+k*16+3,none⟩=some (.int .i64 p.en.day):=cells 3 (by decide)
  have m4:wr.cell? ⟨b,o+k*16+4,none⟩=some (.slice a1 p.en.knows.length c1):=cells 4 (by decide)
  have m5:wr.cell? ⟨b,o+k*16+5,none⟩=some (.int .i64 p.en.kind):=cells 5 (by decide)
  have m6:wr.cell? ⟨b,o+k*16+6,none⟩=some (.int .i64 p.en.circle):=cells 6 (by decide)
  have m7:wr.cell? ⟨b,o+k*16+7,none⟩=some (.int .i64 p.en.who):=cells 7 (by decide)
  have m8:wr.cell? ⟨b,o+k*16+8,none⟩=some (.int .i64 p.en.n):=cells 8 (by decide)
  have m9:wr.cell? ⟨b,o+k*16+9,none⟩=some (.int .i64 p.en.m):=cells 9 (by decide)
  have m10:wr.cell? ⟨b,o+k*16+10,none⟩=some (.int .i64 p.en.ref):=cells 10 (by decide)
  have m11:wr.cell? ⟨b,o+k*16+11,none⟩=some (.slice a2 p.en.keys.length c2):=cells 11 (by decide)
  have m12:wr.cell? ⟨b,o+k*16+12,none⟩=some (.slice a3 p.en.spans.length c3):=cells 12 (by decide)
  have m13:wr.cell? ⟨b,o+k*16+13,none⟩=some (.string ⟨p.en.text.toArray⟩):=cells 13 (by decide)
  have m14:wr.cell? ⟨b,o+k*16+14,none⟩=some (.string ⟨p.raw.toArray⟩):=cells 14 (by decide)
  have HPP:=hid hp
  have hraw:p.raw.length<=9223372036854775807:=hpo.ok.raw
  clear hpo rp cells hp hel
  by_cases hr:p.raw.length<=600
  case neg =>
   have hri:(600:Int)<p.raw.length:=by omega
   have hdr:decide ((600:Int)<(p.raw.length:Int))=true:=decide_eq_true hri
   have hdr2:decide (600<p.raw.length)=true:=decide_eq_true (by omega)
   have HD:=hid (show ¬FewL l n from fun q=>hr (by have:=(q.2 _ (List.getElem_mem hlt)).1;rw [HPP.out] at this;exact this))
   go_wp2_with fail
   go_ret
   exact ⟨by rw [decide_eq_false HD.out];rfl,UU.out⟩
  have hri:¬(600:Int)<p.raw.length:=by omega
  have hdr:decide ((600:Int)<(p.raw.length:Int))=false:=decide_eq_false hri
  have hdr2:decide (600<p.raw.length)=false:=decide_eq_false (by omega)
  go_wp2_with fail
  refine (fewEn_any p.en a1 a2 a3 c1 c2 c3 _).mono ?_
  rintro e w1 ⟨rfl,u⟩
  have U1:=hid u
  clear u
  by_cases hfe:FewEn p.en
  case neg =>
   have HD:=hid (show ¬FewL l n from fun q=>hfe (by have:=(q.2 _ (List.getElem_mem hlt)).2;rw [HPP.out] at this;exact this))
   rw [decide_eq_false hfe]
   go_wp2_with fail
   go_ret
   exact ⟨by rw [decide_eq_false HD.out];rfl,UU.out.trans U1.out⟩
  have HFE:=hid (show FewPo p from ⟨hr,hfe⟩)
  rw [decide_eq_true hfe]
  go_wp2_with fail
  go_roundg (l.length-(k+1))
  case measure=>have:=HG.out;omega
  case rel =>
   refine ⟨k+1,by omega,by omega,rfl,by go_num,fun i hi hik=>?_,UU.out.trans U1.out⟩
   by_cases e:i=k
   · subst e;rw [HPP.out];exact HFE.out
   · exact HF.out i hi (by omega)
end Go.Proofs.YtjkmalddfoemhaaGreatDoor
