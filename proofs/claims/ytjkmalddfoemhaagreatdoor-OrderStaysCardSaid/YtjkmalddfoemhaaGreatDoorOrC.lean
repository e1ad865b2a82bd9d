/- Walks: the proposals and voices of some entries (see). -/
import Derived.Test.YtjkmalddfoemhaaGreatDoorRm
import Derived.Test.YtjkmalddfoemhaaGreatDoorOrLaws
import Derived.Shelf.SlicesG.CompactI
namespace Go.Proofs.YtjkmalddfoemhaaGreatDoor
open Go.RowKit Go.Deep
def kStp:Knd Stp:=kMap (kPair kInts (kPair (kInt .i64) (kInt .i64))) fun s=>(s.keys,s.liars,s.seed)
theorem reads_stp:Reads Tryz.prog 60 kStp :=
 reads_map (fun x=>⟨x.1,x.2.1,x.2.2⟩) (fun _=>rfl) (reads_struct Tryz.underlying60
  (tail_cons rfl rfl reads_ints (tail_cons rfl rfl (reads_int Tryz.underlying3 (by kernel_rfl)) (tail_last rfl rfl (reads_int Tryz.underlying3 (by kernel_rfl)) (by kernel_rfl)))))
structure StpAt (w:World) (A:Nat->Prop) (s:Stp) (ak:Option Addr) (ck:Nat):Prop where
 keys:kInts.rep A w [.slice ak s.keys.length ck] s.keys
 cap:s.keys.length<=ck/\ck<=9223372036854775807
 liars:I64 s.liars
 seed:I64 s.seed
theorem i64_wf {x:Int} (h:(Lit.int .i64 x).wf=true):I64 x:=by
 simp [Lit.wf,IntKind.min,IntKind.max,IntKind.signed,IntKind.bits] at h
 unfold I64;omega
theorem stp_open {A:Nat->Prop} {w:World} {cs:List Value} {s:Stp} (h:kStp.rep A w cs s):∃ ak ck,cs=[.slice ak s.keys.length ck,.int .i64 s.liars,.int .i64 s.seed]/\StpAt w A s ak ck:=by
 obtain ⟨c1,_,rfl,h1,_,_,rfl,⟨rfl,h2⟩,rfl,h3⟩:=h
 have hk:∃ v,c1=[v]:=by
  rcases h1 with ⟨a,c,rfl,_⟩ | ⟨b,o,c,rfl,_⟩
  · exact ⟨_,rfl⟩
  · exact ⟨_,rfl⟩
 obtain ⟨v,rfl⟩:=hk
 obtain ⟨a,c,rfl,h4,h5,_⟩:=slice_open h1
 exact ⟨a,c,rfl,h1,⟨h4,h5⟩,i64_wf h2,i64_wf h3⟩
theorem StpAt.upd {A S:Nat->Prop} {w w':World} {s:Stp} {ak:Option Addr} {ck:Nat} (h:StpAt w A s ak ck) (u:Upd S w w') (hA:∀ g,A g->¬S g):StpAt w' A s ak ck :=
 ⟨kInts.keep h.keys (Same.of_upd u hA),h.cap,h.liars,h.seed⟩
theorem StpAt.keep {A:Nat->Prop} {w w':World} {s:Stp} {ak:Option Addr} {ck:Nat} (h:StpAt w A s ak ck) (u:Upd (fun _=>False) w w'):StpAt w' A s ak ck:=h.upd u fun _ _=>id
def stpV (s:Stp) (ak:Option Addr) (ck:Nat):Value:=.agg #[.slice ak s.keys.length ck,.int .i64 s.liars,.int .i64 s.seed]
structure AcC where
 a:ActP
 a1:Option Addr
 a2:Option Addr
 a3:Option Addr
 c1:Nat
 c2:Nat
 c3:Nat
def AcC.cells (c:AcC):List Value:=.int .i64 c.a.mark::((en13 c.a.en c.a1 c.a2 c.a3 c.c1 c.c2 c.c3).toList++[.int .i64 c.a.value])
def acFlat (L:List AcC):List Value:=(L.map AcC.cells).flatten
theorem acFlat_snoc (L:List AcC) (c:AcC):acFlat (L++[c])=acFlat L++c.cells:=by unfold acFlat;simp
theorem acFlat_get (L:List AcC) (i:Nat) (h:i<L.length) (j:Nat) (hj:j<15):(acFlat L)[i*15+j]? = L[i].cells[j]?:=flat_get (f:=AcC.cells) (n:=15) (fun _=>rfl) L i h j hj
def actsOf (L:List AcC):List ActP:=L.map AcC.a
def ActsAt (w:World) (B:Nat) (v:Value) (L:List AcC):Prop:=w.ownsRow B 184 15 v L.length (acFlat L)
theorem ActsAt.nil {w:World} {B:Nat}:ActsAt w B (.slice none 0 0) []:=World.ownsRow_nil _ _ _ _
theorem ActsAt.get {w:World} {B:Nat} {v:Value} {L:List AcC} (h:ActsAt w B v L) (hp:0<L.length):∃ g cap,v=.slice (some ⟨g,0,none⟩) L.length cap/\L.length<=cap/\cap<=maxLen/\B<=g/\g<w.heap.size ∧
 ∀ i (hi:i<L.length) j,j<15->w.cell? ⟨g,i*15+j,none⟩=L[i].cells[j]?:=by
 obtain ⟨h1,⟨h2,h3⟩ | ⟨g,cap,cur,hv,hb,hg,hn,hc,hs,ht⟩⟩:=h
 · omega
 · refine ⟨g,cap,hv,hn,hc,hb,heap_lt hg,fun i hi j hj=>?_⟩
   rw [cell_of_block hg,<-acFlat_get L i hi j hj,<-ht,List.getElem?_take,if_pos,Array.getElem?_toList]
   calc i*15+j<i*15+15:=by omega
    _=(i+1)*15:=by omega
    _<=L.length*15:=Nat.mul_le_mul_right _ hi
def actZero:Array Value:=#[.int .i64 0,.int .i64 0,.int .i64 0,.int .i64 0,.slice none 0 0,.int .i64 0,.int .i64 0,.int .i64 0,.int .i64 0,.int .i64 0,.int .i64 0,.slice none 0 0,.slice none 0 0,.string ⟨#[]⟩,.int .i64 0]
theorem elemAc:ElemTy Tryz.prog 165 184 15 176:=ElemTy.mk' (z:=.agg actZero) Tryz.underlying165 (by kernel_rfl) (by rfl) (by decide)
theorem act_index {g cap n k:Nat} (hk:k<n) (_:n<=cap) (_:cap<=9223372036854775807) (w:World):(Instr.indexAt 165 (.slice (some ⟨g,0,none⟩) n cap) (.int .i64 k)).run Tryz.prog w=.ok (.pointer (some ⟨g,k*15,none⟩)) w:=by
 have hki:(k:Int)<n:=by omega
 unfold Instr.indexAt
 go_simp
structure ActCs (w:World) (g o:Nat) (c:AcC):Prop where
 cells:∀ j,j<15->w.cell? ⟨g,o+j,none⟩=c.cells[j]?
theorem act_load {w:World} {g o:Nat} {c:AcC} (h:ActCs w g o c):(Instr.loadAt 184 (.pointer (some ⟨g,o,none⟩))).run Tryz.prog w=.ok (.agg c.cells.toArray) w:=by
 have k:=h.cells
 have n0:w.cell? ⟨g,o,none⟩=some (.int .i64 c.a.mark):=k 0 (by decide)
 have n1:w.cell? ⟨g,o+1,none⟩=some (.int .i64 c.a.en.author):=k 1 (by decide)
 have n2:w.cell? ⟨g,o+2,none⟩=some (.int .i64 c.a.en.seq):=k 2 (by decide)
 have n3:w.cell? ⟨g,o+3,none⟩=some (.int .i64 c.a.en.day):=k 3 (by decide)
 have n4:w.cell? ⟨g,o+4,none⟩=some (.slice c.a1 c.a.en.knows.length c.c1):=k 4 (by decide)
 have n5:w.cell? ⟨g,o+5,none⟩=some (.int .i64 c.a.en.kind):=k 5 (by decide)
 have n6:w.cell? ⟨g,o+6,none⟩=some (.int .i64 c.a.en.circle):=k 6 (by decide)
 have n7:w.cell? ⟨g,o+7,none⟩=some (.int .i64 c.a.en.who):=k 7 (by decide)
 have n8:w.cell? ⟨g,o+8,none⟩=some (.int .i64 c.a.en.n):=k 8 (by decide)
 have n9:w.cell? ⟨g,o+9,none⟩=some (.int .i64 c.a.en.m):=k 9 (by decide)
 have n10:w.cell? ⟨g,o+10,none⟩=some (.int .i64 c.a.en.ref):=k 10 (by decide)
 have n11:w.cell? ⟨g,o+11,none⟩=some (.slice c.a2 c.a.en.keys.length c.c2):=k 11 (by decide)
 have n12:w.cell? ⟨g,o+12,none⟩=some (.slice c.a3 c.a.en.spans.length c.c3):=k 12 (by decide)
 have n13:w.cell? ⟨g,o+13,none⟩=some (.string ⟨c.a.en.text.toArray⟩):=k 13 (by decide)
 have n14:w.cell? ⟨g,o+14,none⟩=some (.int .i64 c.a.value):=k 14 (by decide)
 clear k h
 unfold AcC.cells en13
 unfold Instr.loadAt
 go_simp
theorem act_alloc (w:World):(Instr.alloc 184 true (.tuple #[])).run Tryz.prog w=.ok (.pointer (some ⟨w.heap.size,0,none⟩)) (w.alloc (.cells actZero 184 (0,0))):=by
 unfold Instr.alloc actZero
 go_simp
theorem act_store (c:AcC) (w:World):(Instr.storeAt 184 (.pointer (some ⟨w.heap.size,0,none⟩)) (.agg c.cells.toArray)).run Tryz.prog (w.alloc (.cells actZero 184 (0,0)))=.ok () (w.alloc (.cells c.cells.toArray 184 (0,0))):=by
 unfold AcC.cells en13 actZero
 unfold Instr.storeAt
 go_simp
theorem act_cells {w:World} {b:Nat} {c:AcC} (h:w.heap[b]? = some (.cells c.cells.toArray 184 (0,0))):w.cell? ⟨b,0,none⟩=some (.int .i64 c.a.mark)/\w.cell? ⟨b,1,none⟩=some (.int .i64 c.a.en.author)/\w.cell? ⟨b,5,none⟩=some (.int .i64 c.a.en.kind) ∧
 w.cell? ⟨b,8,none⟩=some (.int .i64 c.a.en.n)/\w.cell? ⟨b,9,none⟩=some (.int .i64 c.a.en.m)/\w.cell? ⟨b,10,none⟩=some (.int .i64 c.a.en.ref)/\w.cell? ⟨b,14,none⟩=some (.int .i64 c.a.value):=by
 refine ⟨?_,?_,?_,?_,?_,?_,?_⟩<;>(rw [cell_of_block h];rfl)
end Go.Proofs.YtjkmalddfoemhaaGreatDoor
set_option maxRecDepth 100000
set_option maxHeartbeats 4000000
namespace Go.Proofs.YtjkmalddfoemhaaGreatDoor
open Go.RowKit Go.Deep
theorem cells3s {w:World} {p:Nat} {a b c:Value} {t:TypeId} (h:w.heap[p]? = some (.cells #[a,b,c] t (0,0))):w.cell? ⟨p,0,none⟩=some a/\w.cell? ⟨p,1,none⟩=some b/\w.cell? ⟨p,2,none⟩=some c:=by
 refine ⟨?_,?_,?_⟩<;>(rw [cell_of_block h];rfl)
def SRightPost (s:Stp) (w:World) (e:Ending) (w':World):Prop:=(∃ b,e=.returned (.bool b)/\(b=true↔StpOk s))/\Upd (fun _=>False) w w'
theorem sright_any {A:Nat->Prop} {s:Stp} {ak:Option Addr} {ck:Nat} {w:World} (h:StpAt w A s ak ck) (_:∀ g,A g->g<w.heap.size) (hl:s.keys.length<=1000):Calls Tryz.prog 57 #[stpV s ak ck] w (SRightPost s w):=by
 obtain ⟨W1,hW1⟩:∃ W1,W1=w.alloc (.cells #[.slice ak s.keys.length ck,.int .i64 s.liars,.int .i64 s.seed] 60 (0,0)):=⟨_,rfl⟩
 have u1:Upd (fun _=>False) w W1:=by rw [hW1];exact (Upd.refl _ _).alloc _
 have HB:=hid (show W1.heap[w.heap.size]? = some (.cells #[.slice ak s.keys.length ck,.int .i64 s.liars,.int .i64 s.seed] 60 (0,0)) by rw [hW1];exact heap_alloc_new)
 have HS:=hid (h.keep u1);have U:=hid u1;have HW:=hid hW1
 have CELL:=hid (fun (hp:0<s.keys.length)=>(show ∃ g o,ak=some ⟨g,o,none⟩/\∀ k (hk:k<s.keys.length),W1.cell? ⟨g,o+k,none⟩=some (.int .i64 s.keys[k]) from by
  obtain ⟨a,c,e,_,_,h3⟩:=slice_open HS.out.keys
  obtain ⟨g,o,ea,hg,hel⟩:=h3 hp
  injection e with e1 _ _
  exact ⟨g,o,by rw [e1,ea],fun k hk=>int_cells hel hk⟩))
 have hc1:=h.cap.1;have hc2:=h.cap.2
 have HLI:=hid h.liars;have HSD:=hid h.seed
 obtain ⟨n,hn⟩:∃ n,s.keys.length=n:=⟨_,rfl⟩
 have HN:=hid hn
 obtain ⟨p,hp⟩:∃ p,w.heap.size=p:=⟨_,rfl⟩
 rw [hp] at HB
 have HP:=hid hp
 obtain ⟨li,hli⟩:∃ x,s.liars=x:=⟨_,rfl⟩
 obtain ⟨sd,hsd⟩:∃ x,s.seed=x:=⟨_,rfl⟩
 rw [hli] at HB HW HLI
 rw [hsd] at HB HW HSD
 rw [hn] at HB HW hc1 hl
 have OKI:=hid (show StpOk s↔(∀ i (hi:i<s.keys.length),0<=s.keys[i]/\s.keys[i]<200/\(0<i->s.keys[i-1]<s.keys[i]))/\(0<=li/\3*li<n)/\(0<=sd/\sd<=1099511627776) from ⟨fun q=>⟨q.keys,by rw [<-hli,<-hn];exact q.liars,by rw [<-hsd];exact q.seed⟩,fun q=>⟨q.1,by rw [hli,hn];exact q.2.1,by rw [hsd];exact q.2.2⟩⟩)
 unfold stpV
 rw [hn,hli,hsd]
 clear hW1 u1 h hp hn hli hsd
 go_enter Tryz.func57,Tryz.ntmps57
 go_upto_region 1 with (fail)
 rw [<-HW.out]
 try rw [HP.out]
 obtain ⟨m0,m1,m2⟩:=cells3s HB.out
 clear HW HP
 go_wp2_with fail
 go_loopg [3,4,8] n (fun gg _ _ s8 wr=>∃ k:Nat,k<=n/\gg=n-k/\s8=.int .i64 k/\(∀ i (hi:i<s.keys.length),i<k->0<=s.keys[i]/\s.keys[i]<200/\(0<i->s.keys[i-1]<s.keys[i]))/\W1=wr)
 case atStart=>exact ⟨0,Nat.zero_le _,rfl,rfl,fun i _ q=>absurd q (Nat.not_lt_zero _),rfl⟩
 case round =>
  obtain ⟨k,hk,hg,rfl,hf,rfl⟩:=hrel
  have HG:=hid hg;have HF:=hid hf
  clear hg hf
  by_cases hlt:k<n
  case pos =>
   as_aux_lemma =>
   have hlti:(k:Int)<n:=by omega
   have hk1:(k:Int)+1<=100000:=by omega
   have hkl:k<s.keys.length:=by rw [HN.out];exact hlt
   obtain ⟨g,o,rfl,hcell⟩:=CELL.out (by rw [HN.out];omega)
   have c0:=hcell k hkl
   have NO:=hid (fun (q:StpOk s)=>(OKI.out.1 q).1 k hkl)
   have YES:=hid (fun (q:0<=s.keys[k]/\s.keys[k]<200/\(0<k->s.keys[k-1]<s.keys[k]))=>(show ∀ i (hi:i<s.keys.length),i<k+1->0<=s.keys[i]/\s.keys[i]<200/\(0<i->s.keys[i-1]<s.keys[i]) from fun i hi hik=>by
    by_cases e:i=k
    · subst e;exact q
    · exact HF.out i hi (by omega)))
   have HC:=hid hcell
   obtain ⟨x,hx⟩:∃ x,s.keys[k]=x:=⟨_,rfl⟩
   rw [hx] at c0 NO YES
   clear hcell hx
   by_cases t1:x<0
   case pos =>
    have d1:decide (x<0)=true:=decide_eq_true t1
    go_wp2_with fail
    go_ret
    exact ⟨⟨false,rfl,fun q=>(nomatch q),fun q=>absurd (NO.out q).1 (by omega)⟩,U.out⟩
   have d1:decide (x<0)=false:=decide_eq_false t1
   by_cases t2:200<=x
   case pos =>
    have d2:decide (200<=x)=true:=decide_eq_true t2
    go_wp2_with fail
    go_ret
    exact ⟨⟨false,rfl,fun q=>(nomatch q),fun q=>absurd (NO.out q).2.1 (by omega)⟩,U.out⟩
   have d2:decide (200<=x)=false:=decide_eq_false t2
   by_cases k0:k=0
   case pos =>
    subst k0
    rw [Nat.add_zero] at c0
    have NX:=hid (YES.out ⟨by omega,by omega,fun q=>absurd q (Nat.lt_irrefl _)⟩)
    go_wp2_with fail
    go_roundg (n-(0+1))
    case measure=>have:=HG.out;omega
    case rel=>exact ⟨1,by omega,rfl,by go_num,NX.out,rfl⟩
   obtain ⟨j,hjk⟩:∃ j,k=j+1:=⟨k-1,by omega⟩
   have hjl:j<s.keys.length:=by omega
   have c3:=HC.out j hjl
   have hjn:k-1=j:=by omega
   have hkk:s.keys[k-1]=s.keys[j]:=by simp only [hjn]
   have NO2:=hid (fun (q:StpOk s)=>(show s.keys[j]<x from by rw [<-hkk];exact (NO.out q).2.2 (by omega)))
   have YES2:=hid (fun (q:s.keys[j]<x)=>YES.out ⟨by omega,by omega,fun _=>by rw [hkk];exact q⟩)
   obtain ⟨y,hy⟩:∃ y,s.keys[j]=y:=⟨_,rfl⟩
   rw [hy] at c3 NO2 YES2
   have e1:IntKind.i64.wrap ((k:Int)-1)=(j:Int):=by rw [IntWalk.i64_in _ (by omega)];omega
   have e2:(0:Int)<=j:=by omega
   have e3:(j:Int)<n:=by omega
   have e4:(0:Int)<k:=by omega
   have e5:0<k:=by omega
   have d4:decide ((0:Int)<(k:Int))=true:=decide_eq_true e4
   have d5:decide (0<k)=true:=decide_eq_true e5
   clear HC hy hjn hkk k0 hjk
   by_cases t3:x<=y
   case pos =>
    have d3:decide (x<=y)=true:=decide_eq_true t3
    go_wp2_with fail
    go_ret
    exact ⟨⟨false,rfl,fun q=>(nomatch q),fun q=>absurd (NO2.out q) (by omega)⟩,U.out⟩
   have d3:decide (x<=y)=false:=decide_eq_false t3
   have NX:=hid (YES2.out (by omega))
   go_wp2_with fail
   go_roundg (n-(k+1))
   case measure=>have:=HG.out;omega
   case rel=>exact ⟨k+1,by omega,rfl,by go_num,NX.out,rfl⟩
  as_aux_lemma =>
  have hlti:¬(k:Int)<n:=by omega
  have KEYS:=hid (show ∀ i (hi:i<s.keys.length),0<=s.keys[i]/\s.keys[i]<200/\(0<i->s.keys[i-1]<s.keys[i]) from fun i hi=>HF.out i hi (by rw [HN.out] at hi;omega))
  clear HG HF CELL
  by_cases ta:0<=li
  case neg =>
   have dta:decide (0<=li)=false:=decide_eq_false ta
   go_wp2_with fail
   go_ret
   exact ⟨⟨false,rfl,fun q=>(nomatch q),fun q=>absurd (OKI.out.1 q).2 fun z=>by omega⟩,U.out⟩
  have dta:decide (0<=li)=true:=decide_eq_true ta
  by_cases tb:li<n
  case neg =>
   have dtb:decide (li<n)=false:=decide_eq_false tb
   go_wp2_with fail
   go_ret
   exact ⟨⟨false,rfl,fun q=>(nomatch q),fun q=>absurd (OKI.out.1 q).2 fun z=>by omega⟩,U.out⟩
  have dtb:decide (li<n)=true:=decide_eq_true tb
  have s0:3*li<=9223372036854775807:=by omega
  have s1:-9223372036854775808<=3*li:=by omega
  by_cases tc:3*li<n
  case neg =>
   have dtc:decide (3*li<n)=false:=decide_eq_false tc
   go_wp2_with fail
   go_ret
   exact ⟨⟨false,rfl,fun q=>(nomatch q),fun q=>absurd (OKI.out.1 q).2 fun z=>by omega⟩,U.out⟩
  have dtc:decide (3*li<n)=true:=decide_eq_true tc
  by_cases td:0<=sd
  case neg =>
   have dtd:decide (0<=sd)=false:=decide_eq_false td
   go_wp2_with fail
   go_ret
   exact ⟨⟨false,rfl,fun q=>(nomatch q),fun q=>absurd (OKI.out.1 q).2 fun z=>by omega⟩,U.out⟩
  have dtd:decide (0<=sd)=true:=decide_eq_true td
  by_cases te:sd<=1099511627776
  case neg =>
   have dte:decide (sd<=1099511627776)=false:=decide_eq_false te
   go_wp2_with fail
   go_ret
   exact ⟨⟨false,rfl,fun q=>(nomatch q),fun q=>absurd (OKI.out.1 q).2 fun z=>by omega⟩,U.out⟩
  have dte:decide (sd<=1099511627776)=true:=decide_eq_true te
  go_wp2_with fail
  go_ret
  exact ⟨⟨true,rfl,fun _=>OKI.out.2 ⟨KEYS.out,⟨ta,tc⟩,td,te⟩,fun _=>rfl⟩,U.out⟩
theorem quorum_any {A:Nat->Prop} {s:Stp} {ak:Option Addr} {ck:Nat} {w:World} (h:StpAt w A s ak ck) (hA:∀ g,A g->g<w.heap.size) (hl:s.keys.length<=1000) (ok:StpOk s):Calls Tryz.prog 71 #[stpV s ak ck] w fun e w'=>e=.returned (.int .i64 (quorumF s))/\Upd (fun _=>False) w w':=by
 obtain ⟨W1,hW1⟩:∃ W1,W1=w.alloc (.cells #[.slice ak s.keys.length ck,.int .i64 s.liars,.int .i64 s.seed] 60 (0,0)):=⟨_,rfl⟩
 have u1:Upd (fun _=>False) w W1:=by rw [hW1];exact (Upd.refl _ _).alloc _
 have HB:=hid (show W1.heap[w.heap.size]? = some (.cells #[.slice ak s.keys.length ck,.int .i64 s.liars,.int .i64 s.seed] 60 (0,0)) by rw [hW1];exact heap_alloc_new)
 have HS:=hid (h.keep u1);have U:=hid u1;have HW:=hid hW1
 have HA:=hid (fun g (q:A g)=>(show g<W1.heap.size from Nat.lt_of_lt_of_le (hA g q) u1.size))
 have HL:=hid hl;have HOK:=hid ok
 have hc1:=h.cap.1;have hc2:=h.cap.2
 have hli:=ok.liars
 obtain ⟨p,hp⟩:∃ p,w.heap.size=p:=⟨_,rfl⟩
 rw [hp] at HB
 have HP:=hid hp
 have hq0:0<=(s.keys.length:Int)+s.liars:=by omega
 have hq2:Int.tdiv ((s.keys.length:Int)+s.liars) 2=((s.keys.length:Int)+s.liars) / 2:=Int.tdiv_eq_ediv_of_nonneg hq0
 have s0:(s.keys.length:Int)+s.liars<=9223372036854775807:=by omega
 have s1:-9223372036854775808<=(s.keys.length:Int)+s.liars:=by omega
 obtain ⟨hf,hhf⟩:∃ x,Int.tdiv ((s.keys.length:Int)+s.liars) 2=x:=⟨_,rfl⟩
 have s2:-9223372036854775808<=Int.tdiv ((s.keys.length:Int)+s.liars) 2:=by rw [hq2];omega
 have s3:Int.tdiv ((s.keys.length:Int)+s.liars) 2<=9223372036854775807:=by rw [hq2];omega
 have s4:hf+1<=9223372036854775807:=by rw [<-hhf,hq2];omega
 have s5:-9223372036854775808<=hf+1:=by rw [<-hhf,hq2];omega
 have QF:=hid (show quorumF s=hf+1 by unfold quorumF;rw [<-hhf,hq2])
 have HHF:=hid hhf
 clear hW1 u1 h hp hA hl ok hq0 hq2 hhf
 unfold stpV
 go_enter Tryz.func71,Tryz.ntmps71
 go_upto_region 1 with (fail)
 rw [<-HW.out]
 try rw [HP.out]
 obtain ⟨m0,m1,m2⟩:=cells3s HB.out
 clear HW HP
 go_wp2_with fail
 refine (sright_any HS.out HA.out HL.out).mono ?_
 rintro en w2 ⟨⟨b,rfl,hb⟩,u⟩
 obtain rfl:b=true:=hb.2 HOK.out
 have U2:=hid (U.out.trans u)
 have HB2:=hid ((u.block _ (heap_lt HB.out) id).trans HB.out)
 obtain ⟨n0,n1,n2⟩:=cells3s HB2.out
 clear m0 m1 m2 u hb
 go_upto_region 3 with (fail)
 go_wp2_with fail
 go_ret
 refine ⟨?_,U2.out⟩
 rw [QF.out]
 try rw [HHF.out]
 show Ending.returned (.int .i64 (wrap64 (hf+1)))=_
 rw [show wrap64 (hf+1)=hf+1 by unfold wrap64;omega]
theorem value_any {O Or:Nat->Prop} {b r:Nat} {hs:Hs} {R:Rg} {w:World} (h:HPre w O Or b r hs R) (m:Int) (hm:(Lit.int .i64 m).wf=true):Calls Tryz.prog 76 #[.pointer (some ⟨b,0,none⟩),.int .i64 m] w fun e w'=>e=.returned (.int .i64 (valueF hs m))/\Upd (fun _=>False) w w':=by
 have HH:=hid h;have MW:=hid hm
 clear h hm
 go_enter Tryz.func76,Tryz.ntmps76
 go_wp2_with fail
 refine (hentry_any HH.out.his HH.out.plain m MW.out).mono ?_
 rintro en y1 ⟨a1,a2,a3,c1,c2,c3,rfl,_,u⟩
 have VF:=hid (show valueF hs m=if (entryM hs m).2=true/\(entryM hs m).1.kind=18 then (if (entryM hs m).1.ref=-1 then m else (entryM hs m).1.ref) else -1 from rfl)
 obtain ⟨x,hx⟩:∃ x,(entryM hs m).1=x:=⟨_,rfl⟩
 obtain ⟨is,his⟩:∃ x,(entryM hs m).2=x:=⟨_,rfl⟩
 rw [hx,his] at VF ⊢
 obtain ⟨W3,hW3⟩:∃ W3,W3=y1.alloc (.cells (en13 x a1 a2 a3 c1 c2 c3) 72 (0,0)):=⟨_,rfl⟩
 have u3:Upd (fun _=>False) y1 W3:=by rw [hW3];exact (Upd.refl _ _).alloc _
 obtain ⟨eb,heb⟩:∃ eb,y1.heap.size=eb:=⟨_,rfl⟩
 have EB:=hid (show W3.heap[eb]? = some (.cells (en13 x a1 a2 a3 c1 c2 c3) 72 (0,0)) by rw [hW3,<-heb];exact heap_alloc_new)
 have UW:=hid (u.trans u3)
 have HW3:=hid hW3;have HEB:=hid heb
 clear hx his hW3 heb u u3
 unfold enV
 go_upto_region 2 with (fail)
 rw [<-(show W3=y1.alloc (.cells #[.int .i64 x.author,.int .i64 x.seq,.int .i64 x.day,.slice a1 x.knows.length c1,.int .i64 x.kind,.int .i64 x.circle,.int .i64 x.who,.int .i64 x.n,.int .i64 x.m,.int .i64 x.ref,.slice a2 x.keys.length c2,.slice a3 x.spans.length c3,.string ⟨x.text.toArray⟩] 72 (0,0)) from HW3.out)]
 try rw [HEB.out]
 clear HW3 HEB
 obtain ⟨r0,r1,r2,r3,r4,r5,r6,r7,r8,r9,r10,r11,r12⟩:=cells13 EB.out
 cases is with
 | false =>
   have E:=hid (show valueF hs m=-1 by rw [VF.out];exact if_neg fun q=>(nomatch q.1))
   go_wp2_with fail
   go_ret
   exact ⟨by rw [E.out]<;>rfl,UW.out⟩
 | true =>
   by_cases hk:x.kind=18
   case neg =>
    have E:=hid (show valueF hs m=-1 by rw [VF.out];exact if_neg fun q=>hk q.2)
    have t1:(x.kind != 18)=true:=bne_iff_ne.2 hk
    clear hk
    go_wp2_with fail
    go_ret
    exact ⟨by rw [E.out]<;>rfl,UW.out⟩
   have t1:(x.kind != 18)=false:=bne_eq_false_iff_eq.2 hk
   have VF2:=hid (show valueF hs m=if x.ref=-1 then m else x.ref by rw [VF.out];exact if_pos ⟨rfl,hk⟩)
   clear hk
   by_cases hr:x.ref=-1
   case pos =>
    have E:=hid (show valueF hs m=m by rw [VF2.out];exact if_pos hr)
    have t2:(x.ref != -1)=false:=bne_eq_false_iff_eq.2 hr
    clear hr
    go_wp2_with fail
    go_ret
    exact ⟨by rw [E.out]<;>rfl,UW.out⟩
   have E:=hid (show valueF hs m=x.ref by rw [VF2.out];exact if_neg hr)
   have t2:(x.ref != -1)=true:=bne_iff_ne.2 hr
   clear hr
   go_wp2_with fail
   go_ret
   exact ⟨by rw [E.out]<;>rfl,UW.out⟩
end Go.Proofs.YtjkmalddfoemhaaGreatDoor
set_option maxRecDepth 100000
set_option maxHeartbeats 4000000
namespace Go.Proofs.YtjkmalddfoemhaaGreatDoor
open Go.RowKit Go.Deep Go.Sort Go.Shelf
theorem compact_ok {l:List Int} (h:l.Pairwise (· ≤ ·)):(Lib.compact l).Pairwise (· < ·)/\∀ x,x∈Lib.compact l↔x∈l:=by
 have hget:∀ i (hi:i<l.length),(l.toArray[i]!:Int)=l[i]:=fun i hi=>by rw [getElem!_pos _ i (by simpa using hi)];simp
 rw [List.pairwise_iff_getElem] at h
 unfold Lib.compact Lib.compactUpTo
 constructor
 · rw [List.pairwise_map]
   refine ((List.pairwise_lt_range).filter _).imp_of_mem fun {a b} ha hb hab=>?_
   obtain ⟨ha1,_⟩:=List.mem_filter.1 ha
   obtain ⟨hb1,hb2⟩:=List.mem_filter.1 hb
   rw [List.mem_range] at ha1 hb1
   unfold Lib.keeps at hb2
   rw [decide_eq_true_eq] at hb2
   rw [hget a ha1,hget b hb1]
   rcases hb2 with c | c
   · omega
   · rw [hget b hb1,hget (b-1) (by omega)] at c
     have h1:=h (b-1) b (by omega) hb1 (by omega)
     by_cases e:a=b-1
     · subst e;omega
     · have h2:=h a (b-1) ha1 (by omega) (by omega)
       omega
 · intro x
   rw [List.mem_map]
   constructor
   · rintro ⟨i,hi,rfl⟩
     have hi:=List.mem_range.1 (List.mem_filter.1 hi).1
     rw [hget i hi]
     exact List.getElem_mem hi
   · intro hx
     obtain ⟨i,hi,hix⟩:=List.getElem_of_mem hx
     have key:∀ i (hi:i<l.length),l[i]=x->∃ j,∃ (hj:j<l.length),l[j]=x/\Lib.keeps l.toArray j=true:=by
      intro i
      induction i with
      | zero=>exact fun hi e=>⟨0,hi,e,by simp [Lib.keeps]⟩
      | succ i ih =>
        intro hi e
        by_cases c:l[i]=x
        · exact ih (by omega) c
        · refine ⟨i+1,hi,e,?_⟩
          unfold Lib.keeps
          rw [decide_eq_true_eq]
          refine .inr ?_
          rw [hget (i+1) hi,Nat.add_sub_cancel,hget i (by omega),e]
          exact fun q=>c q.symm
     obtain ⟨j,hj,e,hk⟩:=key i hi hix
     exact ⟨j,List.mem_filter.2 ⟨List.mem_range.2 hj,hk⟩,by rw [hget j hj,e]⟩
theorem sortI_le (l:List Int):(sortI l).Pairwise (· ≤ ·):=by
 have:=List.pairwise_mergeSort (le:=fun a b:Int=>decide (a<=b)) (by intro a b c h1 h2;simp at *;omega) (by intro a b;simp;omega) l
 exact this.imp fun q=>by simpa using q
theorem compact_sort (l:List Int):Lib.compact (sortI l)=risingF l:=by
 obtain ⟨h1,h2⟩:=compact_ok (sortI_le l)
 obtain ⟨h3,h4⟩:=rising_ok l
 exact sorted_unique (fun a b p q=>by omega) (fun a p=>by omega) h1 h3 fun z=>by rw [h2,h4,sortI_mem]
theorem compactI_any (v:Value) (l:List Int) (B:Nat) (w:World) (h:w.ownsRow B 3 1 v l.length (l.map fun x=>.int .i64 x)) (hl:l.length<=1000000) :
 Calls Tryz.prog 244 #[v] w fun e w'=>∃ v',e=.returned v'/\w'.ownsRow B 3 1 v' (Lib.compact l).length ((Lib.compact l).map fun x=>.int .i64 x)/\Upd (fun g=>v.ownBlock=some g) w w':=by
 have hle:(Lib.compact l).length<=l.length:=by
  unfold Lib.compact Lib.compactUpTo
  rw [List.length_map]
  exact Nat.le_trans (List.length_filter_le _ _) (by rw [List.length_range];exact Nat.le_refl _)
 obtain ⟨h1,⟨rfl,h3⟩ | ⟨g,cap,cur,rfl,hb,hg,hn,hc,hs,ht⟩⟩:=id h
 · have h0:l=[]:=List.length_eq_zero_iff.1 h3
   subst h0
   have hcon:=AnyG.slices_Compact_int_empty Tryz.compactA none 0 w
   change Calls Tryz.prog 244 _ _ _ at hcon
   refine hcon.mono ?_
   rintro e w' ⟨rfl,rfl⟩
   exact ⟨_,rfl,by simpa [Lib.compact,Lib.compactUpTo] using h,Upd.refl _ _⟩
 · have hcs:cur.toList.length=cap:=by simpa using hs
   have hcur:w.heap[g]? = some (.cells ((l.map fun x=>Value.int .i64 x)++cur.toList.drop l.length).toArray 3 (0,0)):=by
    rw [hg];congr 2;rw [<-ht,Nat.mul_one,List.take_append_drop]
   have hH:Holds (Value.int .i64) w g 0 l.toArray:=by
    intro j hj
    refine ⟨?_,frozen_of_block hg⟩
    have hj':j<l.length:=by simpa using hj
    rw [Nat.zero_add,cell_of_block hcur,List.getElem?_toArray,List.getElem?_append_left (by simpa using hj'),List.getElem?_map,List.getElem?_eq_getElem hj',getElem!_pos _ j hj]
    simp
   have hcon:=AnyG.slices_Compact_int Tryz.compactA g 0 cap l w hH (by omega) hn
   change Calls Tryz.prog 244 _ _ _ at hcon
   refine hcon.mono ?_
   rintro e w' ⟨he,m,hw⟩
   subst hw
   obtain ⟨new,hnw⟩:∃ new,Lib.compact l++List.replicate (l.length-(Lib.compact l).length) (0:Int)=new:=⟨_,rfl⟩
   have hsl:new.length=l.length:=by rw [<-hnw,List.length_append,List.length_replicate];omega
   have hs1:(putRow (Value.int .i64) (Sort.ahead w m) g 0 new.toArray).heap.size=w.heap.size:=by simp [putRow,mapBlock,Sort.ahead]
   have hlt:=heap_lt hg
   have hnew:(putRow (Value.int .i64) (Sort.ahead w m) g 0 new.toArray).heap[g]? = some (.cells ((new.map fun x=>Value.int .i64 x)++cur.toList.drop l.length).toArray 3 (0,0)):=by
    unfold putRow mapBlock
    show ((w.heap.modify g _)[g]?)=_
    rw [Array.getElem?_modify,if_pos rfl,hcur,Option.map_some]
    show some (Obj.cells (putCells (Value.int .i64) 0 _ _) _ _)=_
    congr 2
    apply Array.ext_getElem?
    intro k
    simp only [putCells,Array.getElem?_mapIdx,List.getElem?_toArray,Nat.zero_le,true_and,Nat.zero_add,List.size_toArray,Nat.sub_zero]
    by_cases hk:k<new.length
    · rw [List.getElem?_append_left (by simp;omega),List.getElem?_append_left (by simpa using hk),List.getElem?_map,List.getElem?_map,List.getElem?_eq_getElem hk,List.getElem?_eq_getElem (by omega),Option.map_some,Option.map_some,Option.map_some,if_pos hk,getElem!_pos _ k (by simpa using hk)]
      simp
    · rw [List.getElem?_append_right (by simp;omega),List.getElem?_append_right (by simp;omega)]
      simp only [List.length_map]
      rw [hsl]
      cases hr:(cur.toList.drop l.length)[k-l.length]? with
      | none=>rfl
      | some y=>rw [Option.map_some,if_neg (by omega)]
   rw [hnw]
   refine ⟨_,he,⟨by simp,.inr ⟨g,cap,_,rfl,hb,hnew,Nat.le_trans hle hn,hc,?_,?_⟩⟩,rfl,rfl,rfl,?_,?_⟩
   · simp;omega
   · rw [List.toList_toArray,Nat.mul_one,<-hnw,List.map_append,List.append_assoc,List.take_left' (by simp)]
   · rw [hs1];exact Nat.le_refl _
   · intro i hi hne
     unfold putRow mapBlock
     show (w.heap.modify g _)[i]? = _
     rw [Array.getElem?_modify,if_neg fun e=>hne (by rw [<-e];rfl)]
theorem acts_get {L:List AcC} {k:Nat} (h:k<(actsOf L).length) (hk:k<L.length):(actsOf L)[k]=L[k].a:=by
 have e:(L.map AcC.a)[k]'(by rw [List.length_map];exact hk)=L[k].a:=List.getElem_map _
 exact e
structure VwAt (w:World) (A:Nat->Prop) (B:Nat) (s:Stp) (ak:Option Addr) (ck:Nat) (av:Option Addr) (cv:Nat) (L:List AcC):Prop where
 stp:StpAt w A s ak ck
 acts:ActsAt w B (.slice av L.length cv) L
 lt:∀ g,A g->g<w.heap.size
 keys:s.keys.length<=1000
 few:L.length<=1000
 wf:∀ c∈L,I64 c.a.en.n/\I64 c.a.en.m/\I64 c.a.en.kind/\(Lit.int .i64 c.a.en.author).wf=true/\(Lit.int .i64 c.a.value).wf=true
theorem VwAt.keep {w w':World} {A:Nat->Prop} {B:Nat} {s:Stp} {ak:Option Addr} {ck:Nat} {av:Option Addr} {cv:Nat} {L:List AcC} (h:VwAt w A B s ak ck av cv L) (u:Upd (fun _=>False) w w'):VwAt w' A B s ak ck av cv L :=
 ⟨h.stp.keep u,ownsRow_upd h.acts u fun _ _=>id,fun g hg=>Nat.lt_of_lt_of_le (h.lt g hg) u.size,h.keys,h.few,h.wf⟩
def viewV (s:Stp) (ak:Option Addr) (ck:Nat) (av:Option Addr) (n cv:Nat):Value:=.agg #[.slice ak s.keys.length ck,.int .i64 s.liars,.int .i64 s.seed,.slice av n cv]
theorem cells4 {w:World} {p:Nat} {a b c d:Value} {t:TypeId} (h:w.heap[p]? = some (.cells #[a,b,c,d] t (0,0))):w.cell? ⟨p,0,none⟩=some a/\w.cell? ⟨p,1,none⟩=some b/\w.cell? ⟨p,2,none⟩=some c/\w.cell? ⟨p,3,none⟩=some d:=by
 refine ⟨?_,?_,?_,?_⟩<;>(rw [cell_of_block h];rfl)
theorem rounds_any {A:Nat->Prop} {B:Nat} {s:Stp} {ak:Option Addr} {ck:Nat} {av:Option Addr} {cv:Nat} {L:List AcC} {w:World} (h:VwAt w A B s ak ck av cv L) (kind day:Int):Calls Tryz.prog 187 #[viewV s ak ck av L.length cv,.int .i64 kind,.int .i64 day] w (IntsPost (roundsF (actsOf L) kind day) w):=by
 obtain ⟨W1,hW1⟩:∃ W1,W1=w.alloc (.cells #[.slice ak s.keys.length ck,.int .i64 s.liars,.int .i64 s.seed,.slice av L.length cv] 167 (0,0)):=⟨_,rfl⟩
 have u1:Upd (fun _=>False) w W1:=by rw [hW1];exact (Upd.refl _ _).alloc _
 have HB:=hid (show W1.heap[w.heap.size]? = some (.cells #[.slice ak s.keys.length ck,.int .i64 s.liars,.int .i64 s.seed,.slice av L.length cv] 167 (0,0)) by rw [hW1];exact heap_alloc_new)
 have HV:=hid (h.keep u1);have U:=hid u1;have HW:=hid hW1
 obtain ⟨p,hp⟩:∃ p,w.heap.size=p:=⟨_,rfl⟩
 rw [hp] at HB
 have HP:=hid hp
 obtain ⟨_,cvx,ev,hv1,hv2⟩:∃ a c,(Value.slice av L.length cv)=.slice a L.length c/\L.length<=c/\c<=maxLen:=own_slice h.acts
 have ev:cv=cvx:=by injection ev
 subst ev
 have hv2:cv<=9223372036854775807:=hv2
 have hfew:=h.few
 have HNI:=hid (fun c hc=>(h.wf c hc).1)
 obtain ⟨N,hN⟩:∃ N,L.length=N:=⟨_,rfl⟩
 have HN:=hid hN
 have HLA:=hid (show (actsOf L).length=N by unfold actsOf;rw [List.length_map];exact hN)
 have GET:=hid (fun (y:World) (u:Upd (fun _=>False) W1 y) (hp:0<L.length)=>(show ∃ g,av=some ⟨g,0,none⟩/\∀ i (hi:i<L.length),ActCs y g (i*15) L[i] from by
  obtain ⟨g,c,e,_,_,_,hgl,hc⟩:=ActsAt.get (HV.out.keep u).acts hp
  injection e with e1 _ _
  exact ⟨g,e1,fun i hi=>⟨fun j hj=>hc i hi j hj⟩⟩))
 rw [hN] at HB HW hv1 hfew ⊢
 clear hW1 u1 h hp hN
 unfold viewV
 go_enter Tryz.func187,Tryz.ntmps187
 go_upto_region 1 with (fail)
 rw [<-HW.out]
 try rw [HP.out]
 obtain ⟨m0,m1,m2,m3⟩:=cells4 HB.out
 clear HW
 go_wp2_with fail
 go_loopg [7,13] N (fun gg s7 s13 wr=>∃ k:Nat,k<=N/\gg=N-k/\s13=.int .i64 k/\wr.ownsRow W1.heap.size 3 1 s7 (roundTo (actsOf L) kind day k).length ((roundTo (actsOf L) kind day k).map fun x=>.int .i64 x)/\Upd (fun _=>False) W1 wr)
 case atStart=>exact ⟨0,Nat.zero_le _,rfl,rfl,World.ownsRow_nil _ _ _ _,Upd.refl _ _⟩
 case round =>
  obtain ⟨k,hk,hg,rfl,hown,u1⟩:=hrel
  have HG:=hid hg;have OW:=hid hown;have U1:=hid u1
  have RTL:=hid (roundTo_len (actsOf L) kind day k)
  clear hg hown u1 m0 m1 m2 m3
  by_cases hlt:k<N
  case neg =>
   have hlti:¬(k:Int)<N:=by omega
   have KE:=hid (roundTo_all (acts:=actsOf L) (kind:=kind) (day:=day) (k:=k) (by rw [HLA.out];omega))
   go_wp2_with fail
   refine (sortI_any _ _ _ _ OW.out (by have:=RTL.out;omega)).mono ?_
   rintro en w2 ⟨rfl,ho,u⟩
   have OW2:=hid ho
   have UW2:=hid (U1.out.comp u fun i hi e=>by have:=(own_lt OW.out i e).1;omega)
   clear ho u
   go_wp2_with fail
   refine (compactI_any _ _ _ _ OW2.out (by rw [(sortI_perm _).length_eq];have:=RTL.out;omega)).mono ?_
   rintro en w3 ⟨v3,rfl,ho,u⟩
   rw [KE.out,compact_sort] at ho
   have OW3:=hid ho
   have UW3:=hid (UW2.out.comp u fun i hi e=>by have:=(own_lt OW2.out i e).1;omega)
   clear ho u
   go_wp2_with fail
   go_ret
   exact ⟨_,rfl,ownsRow_base OW3.out U.out.size,U.out.trans UW3.out⟩
  have hlti:(k:Int)<N:=by omega
  have hk1:(k:Int)+1<=100000:=by omega
  have hkl:k<L.length:=by rw [HN.out];exact hlt
  have hka:k<(actsOf L).length:=by rw [HLA.out];exact hlt
  obtain ⟨g,rfl,hc⟩:=GET.out _ U1.out (by omega)
  have NK:=hid (hc k hkl)
  have EA:(actsOf L)[k]=L[k].a:=acts_get hka hkl
  have YES:=hid (fun e=>roundTo_yes (acts:=actsOf L) (kind:=kind) (day:=day) hka e)
  have NO:=hid (fun e=>roundTo_no (acts:=actsOf L) (kind:=kind) (day:=day) hka e)
  rw [EA] at YES NO
  obtain ⟨c,hcc⟩:∃ c,L[k]=c:=⟨_,rfl⟩
  rw [hcc] at NK YES NO
  obtain ⟨W2,hW2⟩:∃ W2,W2=wr.alloc (.cells c.cells.toArray 184 (0,0)):=⟨_,rfl⟩
  have u2:Upd (fun _=>False) wr W2:=by rw [hW2];exact (Upd.refl _ _).alloc _
  have hb2:W2.heap[wr.heap.size]? = some (.cells c.cells.toArray 184 (0,0)):=by rw [hW2];exact heap_alloc_new
  obtain ⟨_,q1,q5,q8,q9,_,_⟩:=act_cells hb2
  have HW2:=hid hW2
  have U12:=hid (U1.out.trans u2)
  have OW2:=hid (ownsRow_upd OW.out u2 fun _ _=>id)
  obtain ⟨x,hx⟩:∃ x,c.a.en=x:=⟨_,rfl⟩
  have HXK:=hid hx
  rw [hx] at q1 q5 q8 q9 YES NO
  clear hc hcc hW2 u2 hb2 hx EA
  go_upto_region 4 with (fail)
  refine wp_region_lit ?_
  refine op_index rfl _ _ _ rfl rfl rfl (act_index hlt hv1 hv2 _) ?_
  (try go_frame)
  refine op_load rfl _ _ rfl rfl (act_load NK.out) ?_
  (try go_frame)
  refine op_alloc rfl _ rfl (act_alloc _) ?_
  (try go_frame)
  refine op_store rfl _ _ _ rfl rfl rfl (act_store _ _) ?_
  rw [<-HW2.out]
  refine wpList_nil ?_
  go_frame
  by_cases t1:x.kind=kind
  case neg =>
   have d1:(x.kind==kind)=false:=beq_eq_false_iff_ne.2 t1
   have ST:=hid (NO.out fun q=>t1 q.1)
   go_wp2_with fail
   go_roundg (N-(k+1))
   case measure=>have:=HG.out;omega
   case rel=>exact ⟨k+1,by omega,rfl,by go_num,by rw [ST.out];exact OW2.out,U12.out⟩
  have d1:(x.kind==kind)=true:=beq_iff_eq.2 t1
  by_cases t2:x.m=day
  case neg =>
   have d2:(x.m==day)=false:=beq_eq_false_iff_ne.2 t2
   have ST:=hid (NO.out fun q=>t2 q.2)
   go_wp2_with fail
   go_roundg (N-(k+1))
   case measure=>have:=HG.out;omega
   case rel=>exact ⟨k+1,by omega,rfl,by go_num,by rw [ST.out];exact OW2.out,U12.out⟩
  have d2:(x.m==day)=true:=beq_iff_eq.2 t2
  have ST:=hid (YES.out ⟨t1,t2⟩)
  obtain ⟨v',w4,r4,o4,u4,n4⟩:=append_one elemI OW2.out #[.int .i64 x.n] rfl (by simp [Value.oneCell']) (by have:=RTL.out;unfold maxLen;omega) (by have:=RTL.out;omega) U12.out.size 30 (0,0)
  have O4:=hid o4;have R4:=hid r4;have U4:=hid u4
  have OB:=hid (fun i e=>(own_lt OW2.out i e).1)
  clear o4 u4 n4 r4
  go_wp2_with (at_builtin;refine wpList_append_run rfl _ _ _ _ rfl rfl rfl R4.out ?_)
  go_roundg (N-(k+1))
  case measure=>have:=HG.out;omega
  case rel =>
   refine ⟨k+1,by omega,rfl,by go_num,?_,U12.out.comp U4.out fun i hi e=>by have:=OB.out i e;omega⟩
   rw [ST.out,List.length_append,List.map_append]
   exact O4.out
end Go.Proofs.YtjkmalddfoemhaaGreatDoor
namespace Go.Proofs.YtjkmalddfoemhaaGreatDoor
open Go.RowKit Go.Deep
theorem his_wf {w:World} {O:Nat->Prop} {b r:Nat} {hs:Hs} (h:IsHis w O b r hs) (m:Int):EnWf (entryM hs m).1/\EnOk (entryM hs m).1:=by
 obtain ⟨D,v,mb,l,L,H,rfl⟩:=h
 cases e:idxF (L.map NdC.n) m with
 | none =>
   have:(entryM (L.map NdC.n) m).1=En.none:=by unfold entryM;rw [e]
   rw [this]
   have z:I64 0:=by unfold I64;decide
   exact ⟨⟨⟨Nat.zero_le _,fun x h=>nomatch h⟩,⟨Nat.zero_le _,fun x h=>nomatch h⟩,z,z,z⟩,⟨z,z,z,z,z,z,z,z,z,fun x h=>(nomatch h),fun x h=>(nomatch h),Nat.zero_le _⟩⟩
 | some i =>
   obtain ⟨hi,e2⟩:=entry_at e
   rw [e2]
   have hl:i<L.length:=by rw [List.length_map] at hi;exact hi
   have:(L.map NdC.n)[i].en=L[i].n.en:=by rw [List.getElem_map]
   rw [this]
   exact ⟨(H.nodes _ (List.getElem_mem hl)).wf,(H.nodes _ (List.getElem_mem hl)).en⟩
theorem en_load1 {w:World} {b:Nat} {e:En} {a1 a2 a3:Option Addr} {c1 c2 c3:Nat} (h:w.heap[b]? = some (.cells (en13 e a1 a2 a3 c1 c2 c3) 72 (0,0))):(Instr.loadAt 72 (.pointer (some ⟨b,0,none⟩))).run Tryz.prog w=.ok (enV e a1 a2 a3 c1 c2 c3) w:=by
 obtain ⟨r0,r1,r2,r3,r4,r5,r6,r7,r8,r9,r10,r11,r12⟩:=cells13 h
 unfold enV
 unfold Instr.loadAt
 go_simp
theorem act_make (m:Int) (e:En) (a1 a2 a3:Option Addr) (c1 c2 c3:Nat) (z:Int) (w:World):(Instr.build 184 #[(0,.int .i64 m),(1,enV e a1 a2 a3 c1 c2 c3),(2,.int .i64 z)]).run Tryz.prog w=.ok (.agg (AcC.mk ⟨m,e,z⟩ a1 a2 a3 c1 c2 c3).cells.toArray) w:=by
 unfold enV AcC.cells en13
 unfold Instr.build
 go_simp
theorem act_slice (c:AcC) (w:World):(Instr.buildSlice 165 1 #[(0,.agg c.cells.toArray)]).run Tryz.prog w=.ok (.slice (some ⟨w.heap.size,0,none⟩) 1 1) (w.alloc (.cells c.cells.toArray 184 (0,0))):=by
 unfold AcC.cells en13
 unfold Instr.buildSlice
 go_simp
theorem view_field1 (g:Nat) (w:World):(Instr.fieldAt 167 (.pointer (some ⟨g,0,none⟩)) 1).run Tryz.prog w=.ok (.pointer (some ⟨g,3,none⟩)) w:=by
 unfold Instr.fieldAt
 go_simp
theorem sl_load {w:World} {p:Addr} {a:Option Addr} {n c:Nat} (h:w.cell? p=some (.slice a n c)):(Instr.loadAt 165 (.pointer (some p))).run Tryz.prog w=.ok (.slice a n c) w:=by
 unfold Instr.loadAt
 go_simp
def SeePost (hs:Hs) (s:Stp) (ak:Option Addr) (ck:Nat) (ms:List Int) (w:World) (e:Ending) (w':World):Prop :=
 ∃ av cv L,e=.returned (viewV s ak ck av L.length cv)/\actsOf L=seeF hs ms/\ActsAt w' w.heap.size (.slice av L.length cv) L/\(∀ c∈L,I64 c.a.en.n/\I64 c.a.en.m/\I64 c.a.en.kind/\(Lit.int .i64 c.a.en.author).wf=true/\(Lit.int .i64 c.a.value).wf=true)/\Upd (fun _=>False) w w'
end Go.Proofs.YtjkmalddfoemhaaGreatDoor
