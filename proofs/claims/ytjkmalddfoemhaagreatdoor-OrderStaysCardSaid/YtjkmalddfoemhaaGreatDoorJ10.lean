/- A node made out of a signature, an entry and bits: one value. -/
import Derived.Test.YtjkmalddfoemhaaGreatDoorJ9
import Derived.Test.YtjkmalddfoemhaaGreatDoorShelf
import Derived.Test.YtjkmalddfoemhaaGreatDoorSortS
import Derived.Shelf.SlSortCmp.WholeK
import Derived.Shelf.SlSortCmp.NoneTotal
import Derived.Deep.RegionHeld3
import Derived.Deep.RegionLaw
namespace Go.Proofs.YtjkmalddfoemhaaGreatDoor
open Go.RowKit Go.Deep
theorem node_index {g cap n k:Nat} (hk:k<n) (_:n<=cap) (_:cap<=9223372036854775807) (w:World):(Instr.indexAt 128 (.slice (some ⟨g,0,none⟩) n cap) (.int .i64 k)).run Tryz.prog w=.ok (.pointer (some ⟨g,k*18,none⟩)) w:=by
 have hki:(k:Int)<n:=by omega
 unfold Instr.indexAt
 go_simp
theorem node_load {w:World} {g o:Nat} {c:NdC} (h:NodeAt w g o c):(Instr.loadAt 136 (.pointer (some ⟨g,o,none⟩))).run Tryz.prog w=.ok (.agg c.cells.toArray) w:=by
 obtain ⟨n0,n1,n2,n3,n4,n5,n6,n7,n8,n9,n10,n11,n12,n13,n14,n15,n16,n17⟩:=h
 unfold NdC.cells en13
 unfold Instr.loadAt
 go_simp
def nodeZero:Array Value:=#[.int .i64 0,.string ⟨#[]⟩,.int .i64 0,.int .i64 0,.int .i64 0,.int .i64 0,.slice none 0 0,.int .i64 0,.int .i64 0,.int .i64 0,.int .i64 0,.int .i64 0,.int .i64 0,.slice none 0 0,.slice none 0 0,.string ⟨#[]⟩,.int .i64 0,.slice none 0 0]
theorem node_alloc (w:World):(Instr.alloc 136 true (.tuple #[])).run Tryz.prog w=.ok (.pointer (some ⟨w.heap.size,0,none⟩)) (w.alloc (.cells nodeZero 136 (0,0))):=by
 unfold Instr.alloc nodeZero
 go_simp
theorem node_store (c:NdC) (w:World):(Instr.storeAt 136 (.pointer (some ⟨w.heap.size,0,none⟩)) (.agg c.cells.toArray)).run Tryz.prog (w.alloc (.cells nodeZero 136 (0,0)))=.ok () (w.alloc (.cells c.cells.toArray 136 (0,0))):=by
 unfold NdC.cells en13 nodeZero
 unfold Instr.storeAt
 go_simp
end Go.Proofs.YtjkmalddfoemhaaGreatDoor
set_option maxRecDepth 100000
set_option maxHeartbeats 4000000
namespace Go.Proofs.YtjkmalddfoemhaaGreatDoor
open Go.RowKit Go.Deep
theorem bits_slice {w:World} {v:Value} {x:Nat} (h:BitsAt w v x):∃ a n c,v=.slice a n c:=by
 obtain ⟨_,⟨rfl,_⟩ | ⟨g,cap,rfl,_⟩⟩:=h
 · exact ⟨_,_,_,rfl⟩
 · exact ⟨_,_,_,rfl⟩
theorem sg_load {w:World} {g:Nat} {s:Sg} (h0:w.cell? ⟨g,0,none⟩=some (.int .i64 s.key)) (h1:w.cell? ⟨g,1,none⟩=some (.string ⟨s.text.toArray⟩)) (h2:w.cell? ⟨g,2,none⟩=some (.int .i64 s.mark)) :
 (Instr.loadAt 49 (.pointer (some ⟨g,0,none⟩))).run Tryz.prog w=.ok (.agg #[.int .i64 s.key,.string ⟨s.text.toArray⟩,.int .i64 s.mark]) w:=by
 unfold Instr.loadAt
 go_simp
theorem en_load {w:World} {g:Nat} {x:En} {a1 a2 a3:Option Addr} {c1 c2 c3:Nat} (h:w.heap[g]? = some (.cells (en13 x a1 a2 a3 c1 c2 c3) 72 (0,0))) :
 (Instr.loadAt 72 (.pointer (some ⟨g,0,none⟩))).run Tryz.prog w=.ok (.agg (en13 x a1 a2 a3 c1 c2 c3)) w:=by
 obtain ⟨e0,e1,e2,e3,e4,e5,e6,e7,e8,e9,e10,e11,e12⟩:=cells13 h
 clear h
 unfold en13
 unfold Instr.loadAt
 go_simp
theorem node_build (n:Nd) (hl:n.level=0) (a1 a2 a3:Option Addr) (c1 c2 c3:Nat) (pa:Option Addr) (pn pc z:Nat) (w:World) :
 (Instr.build 136 #[(0,.agg #[.int .i64 n.sg.key,.string ⟨n.sg.text.toArray⟩,.int .i64 n.sg.mark]),(1,.agg (en13 n.en a1 a2 a3 c1 c2 c3)),(3,.slice pa pn pc)]).run Tryz.prog w=.ok (.agg (NdC.cells ⟨n,a1,a2,a3,c1,c2,c3,pa,pn,pc,z⟩).toArray) w:=by
 unfold NdC.cells en13
 dsimp only
 rw [hl]
 unfold Instr.build
 go_simp
 try rfl
theorem elemNode:ElemTy Tryz.prog 128 136 18 224:=ElemTy.mk' (z:=.agg #[.int .i64 0,.string ⟨#[]⟩,.int .i64 0,.int .i64 0,.int .i64 0,.int .i64 0,.slice none 0 0,.int .i64 0,.int .i64 0,.int .i64 0,.int .i64 0,.int .i64 0,.int .i64 0,.slice none 0 0,.slice none 0 0,.string ⟨#[]⟩,.int .i64 0,.slice none 0 0]) Tryz.underlying128 (by kernel_rfl) (by rfl) (by decide)
theorem level_set (s:Sg) (x:En) (p:Nat->Bool) (a1 a2 a3:Option Addr) (c1 c2 c3:Nat) (pa:Option Addr) (pn pc z lv lv':Nat) :
 (NdC.cells ⟨⟨s,x,lv,p⟩,a1,a2,a3,c1,c2,c3,pa,pn,pc,z⟩).toArray.setIfInBounds 16 (.int .i64 (lv':Nat))=(NdC.cells ⟨⟨s,x,lv',p⟩,a1,a2,a3,c1,c2,c3,pa,pn,pc,z⟩).toArray:=rfl
theorem cells_one (c:NdC):∀ u∈c.cells.toArray,u.oneCell'=true:=by
 intro u hu
 simp only [NdC.cells,en13,List.cons_append,List.nil_append,List.mem_toArray,List.mem_cons,List.not_mem_nil,or_false] at hu
 rcases hu with rfl | rfl | rfl | rfl | rfl | rfl | rfl | rfl | rfl | rfl | rfl | rfl | rfl | rfl | rfl | rfl | rfl | rfl<;>rfl
theorem map_few {O D:Nat->Prop} {w:World} {b r:Nat} {v:Value} {mb:Nat} {l:List (Int×Value)} {L:List NdC} (h:HisAt w O D b r v mb l L):l.length<=1000001:=by
 have:=nodup_len (l:=l.map Prod.fst) 1000001 h.map.1 fun x hx=>by
  cases e:l.lookup x with
  | none=>exact absurd hx (lookup_none_iff.1 e)
  | some v =>
    have h1:=h.look x
    rw [e] at h1
    cases hi:idxF (L.map NdC.n) x with
    | none=>rw [hi] at h1;cases h1
    | some i =>
      obtain ⟨hl,hm⟩:=idx_some hi
      have hl':i<L.length:=by simpa using hl
      have:=(h.nodes L[i] (List.getElem_mem hl')).mark
      rw [List.getElem_map] at hm
      unfold Nd.mark at hm
      omega
 rwa [List.length_map] at this
theorem node_at {w:World} {g:Nat} {c:NdC} (h:w.heap[g]? = some (.cells c.cells.toArray 136 (0,0))):NodeAt w g 0 c:=by
 refine ⟨?_,?_,?_,?_,?_,?_,?_,?_,?_,?_,?_,?_,?_,?_,?_,?_,?_,?_⟩<;>(rw [cell_of_block h];rfl)
theorem node_slice (c:NdC) (w:World):(Instr.buildSlice 128 1 #[(0,.agg c.cells.toArray)]).run Tryz.prog w=.ok (.slice (some ⟨w.heap.size,0,none⟩) 1 1) (w.alloc (.cells c.cells.toArray 136 (0,0))):=by
 unfold NdC.cells en13
 unfold Instr.buildSlice
 go_simp
theorem node_at0 {w:World} {g:Nat} {c:NdC} (h:w.heap[g]? = some (.cells c.cells.toArray 136 (0,0))):w.cell? ⟨g,0,none⟩=some (.int .i64 c.n.sg.key)/\w.cell? ⟨g,1,none⟩=some (.string ⟨c.n.sg.text.toArray⟩)/\w.cell? ⟨g,2,none⟩=some (.int .i64 c.n.sg.mark)/\w.cell? ⟨g,3,none⟩=some (.int .i64 c.n.en.author)/\w.cell? ⟨g,4,none⟩=some (.int .i64 c.n.en.seq)/\w.cell? ⟨g,5,none⟩=some (.int .i64 c.n.en.day)/\w.cell? ⟨g,6,none⟩=some (.slice c.a1 c.n.en.knows.length c.c1)/\w.cell? ⟨g,7,none⟩=some (.int .i64 c.n.en.kind)/\w.cell? ⟨g,8,none⟩=some (.int .i64 c.n.en.circle)/\w.cell? ⟨g,9,none⟩=some (.int .i64 c.n.en.who)/\w.cell? ⟨g,10,none⟩=some (.int .i64 c.n.en.n)/\w.cell? ⟨g,11,none⟩=some (.int .i64 c.n.en.m)/\w.cell? ⟨g,12,none⟩=some (.int .i64 c.n.en.ref)/\w.cell? ⟨g,13,none⟩=some (.slice c.a2 c.n.en.keys.length c.c2)/\w.cell? ⟨g,14,none⟩=some (.slice c.a3 c.n.en.spans.length c.c3)/\w.cell? ⟨g,15,none⟩=some (.string ⟨c.n.en.text.toArray⟩)/\w.cell? ⟨g,16,none⟩=some (.int .i64 c.n.level)/\w.cell? ⟨g,17,none⟩=some (.slice c.pa c.pn c.pc):=by
 refine ⟨?_,?_,?_,?_,?_,?_,?_,?_,?_,?_,?_,?_,?_,?_,?_,?_,?_,?_⟩<;>(rw [cell_of_block h];rfl)
end Go.Proofs.YtjkmalddfoemhaaGreatDoor
namespace Go.Proofs.YtjkmalddfoemhaaGreatDoor
open Go.RowKit Go.Deep
def downTo (h:Hs) (ms:List Int) (k:Nat):(Nat->Bool)×Bool:=(ms.take k).foldl (downStep h) (fun _=>false,true)
theorem downTo_all (h:Hs) (ms:List Int):downTo h ms ms.length=downF h ms:=by unfold downTo downF;rw [List.take_length]
theorem downTo_no {h:Hs} {ms:List Int} {k:Nat} (hk:k<ms.length) (e:idxF h ms[k]=none):downTo h ms (k+1)=((downTo h ms k).1,false):=by
 unfold downTo
 rw [List.take_succ_eq_append_getElem hk,List.foldl_append]
 show downStep h _ _=_
 unfold downStep
 rw [e]
theorem downTo_yes {h:Hs} {ms:List Int} {k i:Nat} (hk:k<ms.length) (e:idxF h ms[k]=some i):downTo h ms (k+1)=(fun j=>(downTo h ms k).1 j || pastAt h i j || j==i,(downTo h ms k).2):=by
 unfold downTo
 rw [List.take_succ_eq_append_getElem hk,List.foldl_append]
 show downStep h _ _=_
 unfold downStep
 rw [e]
structure NewBits (B:Nat) (w:World) (v:Value) (p:Nat->Bool):Prop where
 bits:∃ x,BitsAt w v x/\∀ j,x.testBit j=p j
 new:∀ g,v.ownBlock=some g->B<=g
 lt:∀ g,v.ownBlock=some g->g<w.heap.size
theorem BitsAt.lt {w:World} {v:Value} {x:Nat} (h:BitsAt w v x):∀ g,v.ownBlock=some g->g<w.heap.size:=by
 intro g hg
 obtain ⟨_,⟨rfl,_⟩ | ⟨g',cap,rfl,h3⟩⟩:=h
 · cases hg
 · cases hg
   obtain ⟨_,_,cur,h4,_⟩:=bit_cell h3 rfl
   exact heap_lt h4
def DownPost (h:Hs) (ms:List Int) (w:World) (e:Ending) (w':World):Prop:=∃ v,e=.returned (.tuple #[v,.bool (downF h ms).2])/\NewBits w.heap.size w' v (downF h ms).1/\Upd (fun _=>False) w w'
theorem down_any {O:Nat->Prop} {b r:Nat} {hs:Hs} {w:World} (h:IsHis w O b r hs) (A:Nat->Prop) (vm:Value) (ms:List Int) (hm:kInts.rep A w [vm] ms):Calls Tryz.prog 93 #[.pointer (some ⟨b,0,none⟩),vm] w (DownPost hs ms w):=by
 obtain ⟨D,v,mb,l,L,H,rfl⟩:=h
 obtain ⟨a,cap,rfl,p1,p2,p3⟩:=slice_open hm
 have p2:cap<=9223372036854775807:=p2
 have HW:=hid (ints_wf hm)
 obtain ⟨c0,c1,c2,cf⟩:=cells3 H.head
 have HH:=hid H;have P3:=hid p3
 have hbl:=heap_lt H.head
 clear hm p3 H
 go_enter Tryz.func93,Tryz.ntmps93
 go_wp2_with fail
 go_loopg [6,7,14] ms.length (fun gg s6 s7 s14 wr=>∃ k:Nat,k<=ms.length/\gg=ms.length-k/\s14=.int .i64 k/\s7=.bool (downTo (L.map NdC.n) ms k).2/\NewBits w.heap.size wr s6 (downTo (L.map NdC.n) ms k).1/\Upd (fun _=>False) w wr)
 case atStart=>exact ⟨0,Nat.zero_le _,rfl,rfl,rfl,⟨⟨0,BitsAt.nil,fun j=>by simp [downTo]⟩,fun g hg=>(nomatch hg),fun g hg=>(nomatch hg)⟩,Upd.refl _ _⟩
 case round =>
  obtain ⟨k,hk,hg,rfl,rfl,nb,u⟩:=hrel
  have UU:=hid u;have HG:=hid hg;have NB:=hid nb
  clear u hg nb
  by_cases hlt:k<ms.length
  case neg =>
   have HE:=hid (show downTo (L.map NdC.n) ms k=downF (L.map NdC.n) ms by rw [<-downTo_all,show k=ms.length by omega])
   have hlti:¬(k:Int)<ms.length:=by omega
   go_wp2_with fail
   go_ret2
   rw [HE.out] at NB ⊢
   exact ⟨_,rfl,NB.out,UU.out⟩
  have hlti:(k:Int)<ms.length:=by omega
  obtain ⟨bm,o,rfl,hb,hel⟩:=P3.out (by omega)
  have m0:=int_cells hel hlt
  have hbm:=World.block_lt_of_cell? _ _ m0
  have m0:=cell_kept m0 (UU.out.block bm hbm id)
  have hwf:=HW.out _ (List.getElem_mem hlt)
  have H1:=HH.out.upd UU.out fun _ _=>id
  obtain ⟨d0,d1,d2,df⟩:=cells3 H1.head
  obtain ⟨q,hq⟩:∃ q:(Nat->Bool)×Bool,q=downTo (L.map NdC.n) ms k:=⟨_,rfl⟩
  rw [<-hq] at NB ⊢
  cases hi:idxF (L.map NdC.n) ms[k] with
  | none =>
    have hl:=H1.look_no (iwf hwf) hi
    have HN:=hid (downTo_no hlt hi)
    have HQ:=hid hq
    obtain ⟨m,hme⟩:∃ m,ms[k]=m:=⟨_,rfl⟩
    rw [hme] at hl m0
    clear hi H1 hel hme hq hwf
    go_wp2_with fail
    go_roundg (ms.length-(k+1))
    case measure=>have:=HG.out;omega
    case rel =>
     refine ⟨k+1,by omega,rfl,by go_num,by rw [HN.out],?_,UU.out⟩
     rw [HN.out,<-HQ.out]
     exact NB.out
  | some i =>
    have hl:=H1.look_yes (iwf hwf) hi
    have HN:=hid (downTo_yes hlt hi)
    obtain ⟨hil,h64⟩:=H1.idx hi
    obtain ⟨c,hc⟩:∃ c,L[i]? = some c:=⟨_,List.getElem?_eq_getElem hil⟩
    obtain ⟨g,cap',rfl,h1,h2,hgl,hn⟩:=H1.node (Nat.lt_of_le_of_lt (Nat.zero_le _) hil)
    obtain ⟨n0,n1,n2,n3,n4,n5,n6,n7,n8,n9,n10,n11,n12,n13,n14,n15,n16,n17⟩:=hn i c hc
    have hnd:=H1.nodes c (List.mem_of_getElem? hc)
    have h2:cap'<=9223372036854775807:=h2
    obtain ⟨x,hx,hxp⟩:=NB.out.bits
    have hap:∀ g,Value.ownBlock u6=some g->c.pv.ownBlock≠some g:=fun g hg e=>by
     have h3:=NB.out.new g hg
     have h4:=(HH.out.lt g (HH.out.own.2.2.2 g (hnd.own g e))).2
     omega
    have HU:=hid (union_any u6 c.pv x c.x wr hx hnd.bits hap)
    have HP:=hid (show ∀ j,pastAt (L.map NdC.n) i j=c.x.testBit j by intro j;unfold pastAt;rw [H1.nd hc];exact hnd.past j)
    have HQ:=hid hq;have HXP:=hid hxp
    obtain ⟨m,hme⟩:∃ m,ms[k]=m:=⟨_,rfl⟩
    rw [hme] at hl m0
    clear hi H1 hel hn hnd hx hxp hap n0 n1 n2 n3 n4 n5 n6 n7 n8 n9 n10 n11 n12 n13 n14 n15 n16 hme hq hwf
    go_wp2_with fail
    refine HU.out.mono ?_
    rintro e w1 ⟨v1,rfl,hb1,hu1,ho1⟩
    have B1:=hid hb1;have U1:=hid hu1;have O1:=hid ho1
    clear hb1 hu1 ho1
    go_wp2_with fail
    refine (set_any v1 _ i w1 B1.out h64).mono ?_
    rintro e w2 ⟨v2,rfl,hb2,hu2,ho2⟩
    have B2:=hid hb2;have U2:=hid hu2;have O2:=hid ho2
    clear hb2 hu2 ho2
    go_wp2_with fail
    go_roundg (ms.length-(k+1))
    case measure=>have:=HG.out;omega
    case rel =>
     have s1:=U1.out.size
     have s0:=UU.out.size
     have n1:∀ g,v1.ownBlock=some g->w.heap.size<=g:=fun g hg=>by
      rcases O1.out with e | ⟨g',e,h'⟩
      · exact NB.out.new g (by rw [<-e];exact hg)
      · rw [e] at hg;cases hg;omega
     have n2:∀ g,v2.ownBlock=some g->w.heap.size<=g:=fun g hg=>by
      rcases O2.out with e | ⟨g',e,h'⟩
      · exact n1 g (by rw [<-e];exact hg)
      · rw [e] at hg;cases hg;omega
     refine ⟨k+1,by omega,rfl,by go_num,by rw [HN.out,<-HQ.out],⟨⟨_,B2.out,fun j=>?_⟩,n2,B2.out.lt⟩,?_⟩
     · rw [HN.out,<-HQ.out]
       dsimp only
       rw [Nat.testBit_or,Nat.testBit_or,HXP.out,HP.out,Nat.testBit_two_pow]
       congr 1
       by_cases e:i=j
       · subst e;simp
       · rw [decide_eq_false e,beq_eq_false_iff_ne.2 (Ne.symm e)]
     · exact (UU.out.comp U1.out fun i hi e=>by have:=NB.out.new i e;omega).comp U2.out fun i hi e=>by have:=n1 i e;omega
end Go.Proofs.YtjkmalddfoemhaaGreatDoor
namespace Go.Proofs.YtjkmalddfoemhaaGreatDoor
open Go.RowKit Go.Deep Go.Sort
def orL:List Int->Int
 | []=>0
 | a::r=>if a=0 then orL r else a
theorem orL_drop_zero {l:List Int} {k:Nat} (hk:k<l.length) (h0:l[k]=0):orL (l.drop (k+1))=orL (l.drop k):=by
 rw [List.drop_eq_getElem_cons hk]
 unfold orL
 rw [if_pos h0]
 cases l.drop (k+1)<;>rfl
theorem orL_drop_now {l:List Int} {k:Nat} (hk:k<l.length) (h0:l[k]≠0):orL (l.drop k)=l[k]:=by
 rw [List.drop_eq_getElem_cons hk]
 unfold orL
 rw [if_neg h0]
theorem orl_any (l:List Int) (g:Nat) (w:World) (_:l.length<=1000) (hc:∀ i (h:i<l.length),w.cell? ⟨g,i,none⟩=some (.int .i64 l[i])) (n c:Nat) (hn:n=l.length) (hcap:n<=c) (hm:c<=1000) :
 Calls Tryz.prog 228 #[.slice (some ⟨g,0,none⟩) n c] w fun e w'=>e=.returned (.int .i64 (orL l))/\w=w':=by
 subst hn
 have HC:=hid hc
 clear hc
 go_enter Tryz.func228,Tryz.ntmps228
 go_wp2_with fail
 go_loopg [8] l.length (fun gg s8 wr=>∃ k:Nat,k<=l.length/\gg=l.length-k/\s8=.int .i64 k/\orL (l.drop k)=orL l/\w=wr)
 case atStart=>exact ⟨0,Nat.zero_le _,rfl,rfl,rfl,rfl⟩
 case round =>
  obtain ⟨k,hk,hg,rfl,he,rfl⟩:=hrel
  have HG:=hid hg;have HE:=hid he
  clear hg he
  by_cases hlt:k<l.length
  case neg =>
   have hlti:¬(k:Int)<l.length:=by omega
   have HZ:=hid (show orL l=0 by rw [<-HE.out,List.drop_of_length_le (by omega)];rfl)
   go_wp2_with fail
   go_ret
   exact ⟨by rw [HZ.out]<;>rfl,rfl⟩
  have hlti:(k:Int)<l.length:=by omega
  have m0:=HC.out k hlt
  by_cases h0:l[k]=0
  · rw [h0] at m0
    have HS:=hid (orL_drop_zero hlt h0)
    clear h0
    go_wp2_with fail
    go_roundg (l.length-(k+1))
    case measure=>have:=HG.out;omega
    case rel=>exact ⟨k+1,by omega,rfl,by go_num,HS.out.trans HE.out,rfl⟩
  · have HS:=hid (show orL l=l[k] from HE.out.symm.trans (orL_drop_now hlt h0))
    obtain ⟨a,ha⟩:∃ a,l[k]=a:=⟨_,rfl⟩
    rw [ha] at m0 HS h0
    have hbb:(a != 0)=true:=bne_iff_ne.2 h0
    clear ha h0
    go_wp2_with fail
    go_ret
    exact ⟨by rw [HS.out]<;>rfl,rfl⟩
def cmpNd (x y:NdC):Int:=orL [Lib.compareInt x.n.level y.n.level,Lib.compareInt x.n.en.author y.n.en.author,Lib.compareInt x.n.en.seq y.n.en.seq,Lib.compareInt x.n.sg.mark y.n.sg.mark]
theorem cmpI_lt (a b:Int):Lib.compareInt a b<0↔a<b:=by
 unfold Lib.compareInt
 by_cases h:a<b
 · simp [h]
 · by_cases h2:b<a<;>simp [h,h2]
theorem cmpI_eq (a b:Int):Lib.compareInt a b=0↔a=b:=by
 unfold Lib.compareInt
 by_cases h:a<b
 · simp [h];omega
 · by_cases h2:b<a
   · simp [h,h2];omega
   · simp [h,h2];omega
theorem orL_lt (a b:Int) (r:List Int):orL (Lib.compareInt a b::r)<0↔a<b\/a=b/\orL r<0:=by
 show (if Lib.compareInt a b=0 then orL r else Lib.compareInt a b)<0↔_
 by_cases h:a=b
 · rw [if_pos ((cmpI_eq _ _).2 h)]
   generalize orL r=z
   omega
 · rw [if_neg (fun h'=>h ((cmpI_eq _ _).1 h')),cmpI_lt]
   generalize orL r=z
   omega
theorem cmpNd_lt (x y:NdC):ltOf cmpNd x y=true↔BefN x.n y.n:=by
 unfold ltOf cmpNd BefN Nd.mark
 rw [decide_eq_true_eq,orL_lt,orL_lt,orL_lt,orL_lt]
 unfold orL
 omega
theorem swo_nd:SWO (ltOf cmpNd) where
 irrefl x:=by rw [<-Bool.not_eq_true,cmpNd_lt];exact bef_irrefl _
 trans x y z h1 h2:=by rw [cmpNd_lt] at *;exact bef_trans h1 h2
 ntrans x y z h1 h2:=by rw [<-Bool.not_eq_true,cmpNd_lt] at *;unfold BefN at *;omega
theorem nalloc_cell {w:World} {cells:Array Value} {t:TypeId} {fr:Nat×Nat} {g k:Nat} {v:Value} (hg:w.heap.size=g) (h:cells[k]? = some v):(w.alloc (.cells cells t fr)).cell? ⟨g,k,none⟩=some v:=by
 subst hg;rw [cell_of_block heap_alloc_new];exact h
theorem compare_any (x y:NdC) (W:World):Calls Tryz.prog 173 #[.agg x.cells.toArray,.agg y.cells.toArray] W fun e w'=>e=.returned (.int .i64 (cmpNd x y))/\∃ q os',w'=grow (W.drewN q) os':=by
 obtain ⟨r1,h1⟩:∃ r,Lib.compareInt x.n.level y.n.level=r:=⟨_,rfl⟩
 obtain ⟨r2,h2⟩:∃ r,Lib.compareInt x.n.en.author y.n.en.author=r:=⟨_,rfl⟩
 obtain ⟨r3,h3⟩:∃ r,Lib.compareInt x.n.en.seq y.n.en.seq=r:=⟨_,rfl⟩
 obtain ⟨r4,h4⟩:∃ r,Lib.compareInt x.n.sg.mark y.n.sg.mark=r:=⟨_,rfl⟩
 have HC:=hid (show cmpNd x y=orL [r1,r2,r3,r4] by unfold cmpNd;rw [h1,h2,h3,h4])
 have C1:=hid (show ∀ w,Calls Tryz.prog 229 #[.int .i64 x.n.level,.int .i64 y.n.level] w fun e w'=>e=.returned (.int .i64 r1)/\w=w' from fun w=>(Tryz.cmp_Compare_int _ _ w).mono fun e w' h=>⟨by rw [h.1,h1],h.2.symm⟩)
 have C2:=hid (show ∀ w,Calls Tryz.prog 229 #[.int .i64 x.n.en.author,.int .i64 y.n.en.author] w fun e w'=>e=.returned (.int .i64 r2)/\w=w' from fun w=>(Tryz.cmp_Compare_int _ _ w).mono fun e w' h=>⟨by rw [h.1,h2],h.2.symm⟩)
 have C3:=hid (show ∀ w,Calls Tryz.prog 229 #[.int .i64 x.n.en.seq,.int .i64 y.n.en.seq] w fun e w'=>e=.returned (.int .i64 r3)/\w=w' from fun w=>(Tryz.cmp_Compare_int _ _ w).mono fun e w' h=>⟨by rw [h.1,h3],h.2.symm⟩)
 have C4:=hid (show ∀ w,Calls Tryz.prog 229 #[.int .i64 x.n.sg.mark,.int .i64 y.n.sg.mark] w fun e w'=>e=.returned (.int .i64 r4)/\w=w' from fun w=>(Tryz.cmp_Compare_int _ _ w).mono fun e w' h=>⟨by rw [h.1,h4],h.2.symm⟩)
 have HO:=hid (show ∀ (w:World) (g:Nat),w.cell? ⟨g,0,none⟩=some (.int .i64 r1)->w.cell? ⟨g,1,none⟩=some (.int .i64 r2)->w.cell? ⟨g,2,none⟩=some (.int .i64 r3)->w.cell? ⟨g,3,none⟩=some (.int .i64 r4)->Calls Tryz.prog 228 #[.slice (some ⟨g,0,none⟩) 4 4] w fun e w'=>e=.returned (.int .i64 (orL [r1,r2,r3,r4]))/\w=w' from
  fun w g a1 a2 a3 a4=>orl_any [r1,r2,r3,r4] g w (by simp) (fun i hi=>by
   have hi:i<4:=hi
   have:i=0\/i=1\/i=2\/i=3:=by omega
   rcases this with rfl | rfl | rfl | rfl
   · exact a1
   · exact a2
   · exact a3
   · exact a4) 4 4 rfl (by decide) (by decide))
 clear h1 h2 h3 h4
 unfold NdC.cells en13
 simp only [List.cons_append,List.nil_append]
 go_enter Tryz.func173,Tryz.ntmps173
 go_wp2_with fail
 have tk1:True:=trivial
 have tk2:True:=trivial
 have tk3:True:=trivial
 have tk4:True:=trivial
 first | (go_region_held3 (fun w'=>w'.cell? ⟨W.heap.size,16,none⟩=some (.int .i64 x.n.level)/\w'.cell? ⟨W.heap.size,3,none⟩=some (.int .i64 x.n.en.author)/\w'.cell? ⟨W.heap.size,4,none⟩=some (.int .i64 x.n.en.seq)/\w'.cell? ⟨W.heap.size,2,none⟩=some (.int .i64 x.n.sg.mark)/\w'.cell? ⟨W.heap.size+1,16,none⟩=some (.int .i64 y.n.level)/\w'.cell? ⟨W.heap.size+1,3,none⟩=some (.int .i64 y.n.en.author)/\w'.cell? ⟨W.heap.size+1,4,none⟩=some (.int .i64 y.n.en.seq)/\w'.cell? ⟨W.heap.size+1,2,none⟩=some (.int .i64 y.n.sg.mark))
  (go_keep)
  (first
   | ((go_at_call 229;have _t:=tk1;refine (C1.out _).mono ?_;rintro e w' ⟨rfl,rfl⟩;clear _t tk1))
   | ((go_at_call 229;have _t:=tk2;refine (C2.out _).mono ?_;rintro e w' ⟨rfl,rfl⟩;clear _t tk2))
   | ((go_at_call 229;have _t:=tk3;refine (C3.out _).mono ?_;rintro e w' ⟨rfl,rfl⟩;clear _t tk3))
   | ((go_at_call 229;have _t:=tk4;refine (C4.out _).mono ?_;rintro e w' ⟨rfl,rfl⟩;clear _t tk4))
   | ((go_at_call 228;refine Calls.mono (HO.out _ _ (nalloc_cell (by simp) (by rfl)) (nalloc_cell (by simp) (by rfl)) (nalloc_cell (by simp) (by rfl)) (nalloc_cell (by simp) (by rfl))) ?_;rintro e w' ⟨rfl,rfl⟩)))) | fail
 all_goals
  go_wp2_with fail
  go_ret
  exact ⟨by rw [HC.out]<;>rfl,1,_,by rw [alloc_eq_grow,alloc_eq_grow,alloc_eq_grow,grow_grow,grow_grow];rfl⟩
section
variable {α:Type} {f:α->List Value} {n:Nat}
theorem gflat_len (hf:∀ x,(f x).length=n):∀ l:List α,((l.map f).flatten).length=l.length*n
 | []=>by simp
 | x::l=>by
   rw [List.map_cons,List.flatten_cons,List.length_append,gflat_len hf l,hf,List.length_cons,Nat.add_mul];omega
theorem flat_get (hf:∀ x,(f x).length=n):∀ (l:List α) (i:Nat) (h:i<l.length) (j:Nat),j<n->((l.map f).flatten)[i*n+j]? = (f l[i])[j]?
 | [],i,h,_,_=>absurd h (Nat.not_lt_zero _)
 | x::l,0,_,j,hj=>by
   rw [List.map_cons,List.flatten_cons,Nat.zero_mul,Nat.zero_add,List.getElem?_append_left (by rw [hf];exact hj)];rfl
 | x::l,i+1,h,j,hj=>by
   have ih:=flat_get hf l i (by simpa using h) j hj
   rw [List.map_cons,List.flatten_cons,List.getElem?_append_right (by rw [hf,Nat.add_mul];omega),hf,show (i+1)*n+j-n=i*n+j by rw [Nat.add_mul];omega,ih]
   rfl
variable [Inhabited α]
theorem flat_gen (hn:0<n) (hf:∀ x,(f x).length=n) (l:List α):flatK f n l.toArray=((l.map f).flatten).toArray:=by
 refine ext_get! (by simp [gflat_len hf]) fun t ht=>?_
 have ht':t<l.length*n:=by simpa using ht
 rw [get_flatK _ _ _ _ (by simpa using ht')]
 have hi:t / n<l.length:=(Nat.div_lt_iff_lt_mul hn).2 ht'
 have hj:t%n<n:=Nat.mod_lt _ hn
 have hg:=flat_get hf l (t / n) hi (t%n) hj
 rw [show t / n*n+t%n=t by rw [Nat.mul_comm];exact Nat.div_add_mod t n] at hg
 have hl:=gflat_len hf l
 have hx:l.toArray[t / n]! = l[t / n]:=by rw [getElem!_pos _ _ (by simpa using hi)];simp
 rw [hx]
 have hj':t%n<(f l[t / n]).length:=by rw [hf];exact hj
 rw [List.getElem?_eq_getElem hj'] at hg
 obtain ⟨h1,e⟩:=List.getElem?_eq_some_iff.1 hg
 rw [getElem!_pos (f l[t / n]) _ hj',getElem!_pos ((l.map f).flatten).toArray t (by simpa using h1),<-e]
 simp
theorem put_cells_gen (fl cs rest:List Value) (h:fl.length=cs.length):putCells id 0 fl.toArray (cs++rest).toArray=(fl++rest).toArray:=by
 apply Array.ext_getElem?
 intro k
 simp only [putCells,Array.getElem?_mapIdx,List.getElem?_toArray,Nat.zero_le,true_and,Nat.zero_add,List.size_toArray,Nat.sub_zero,id]
 by_cases hk:k<fl.length
 · rw [List.getElem?_append_left (by omega),List.getElem?_append_left hk,List.getElem?_eq_getElem (by omega),List.getElem?_eq_getElem hk,Option.map_some,if_pos hk,getElem!_pos _ k (by simpa using hk)]
   simp
 · rw [List.getElem?_append_right (by omega),List.getElem?_append_right (by omega),h]
   cases hr:rest[k-cs.length]? with
   | none=>rfl
   | some y=>rw [Option.map_some,if_neg (by omega)]
theorem holds_gen (hn:0<n) (hf:∀ x,(f x).length=n) {w:World} {g:Nat} {l:List α} {rest:List Value} {t:TypeId} (h:w.heap[g]? = some (.cells ((l.map f).flatten++rest).toArray t (0,0))):HoldsK f n w g 0 l.toArray:=by
 unfold HoldsK
 rw [flat_gen hn hf]
 intro j hj
 refine ⟨?_,frozen_of_block h⟩
 have hj':j<((l.map f).flatten).length:=by simpa using hj
 rw [Nat.zero_add,cell_of_block h,List.getElem?_toArray,List.getElem?_append_left hj',List.getElem?_eq_getElem hj',getElem!_pos _ j hj]
 simp
theorem sorted_gen (hn:0<n) (hf:∀ x,(f x).length=n) {w:World} {g:Nat} {l l':List α} {rest:List Value} {t:TypeId} (h:w.heap[g]? = some (.cells ((l.map f).flatten++rest).toArray t (0,0))) (hl:l'.length=l.length) (m:Nat) (os:Array Obj) :
 (sortWorldK f n w g 0 m l'.toArray os).heap[g]? = some (.cells ((l'.map f).flatten++rest).toArray t (0,0))/\Upd (· = g) w (sortWorldK f n w g 0 m l'.toArray os):=by
 have hlt:=heap_lt h
 have hs1:(putRowK f n (Sort.ahead w m) g 0 l'.toArray).heap.size=w.heap.size:=by simp [putRowK,putRow,mapBlock,Sort.ahead]
 unfold sortWorldK
 refine ⟨?_,rfl,rfl,rfl,?_,?_⟩
 · rw [heap_grow_old _ _ (by rw [hs1];exact hlt)]
   unfold putRowK putRow mapBlock
   rw [flat_gen hn hf]
   show ((w.heap.modify g _)[g]?)=_
   rw [Array.getElem?_modify,if_pos rfl,h,Option.map_some]
   show some (Obj.cells (putCells id 0 _ _) _ _)=_
   rw [put_cells_gen _ _ rest (by rw [gflat_len hf,gflat_len hf,hl])]
 · simp only [grow,Array.size_append,hs1];omega
 · intro k hk hkn
   rw [heap_grow_old _ _ (by rw [hs1];exact hk)]
   unfold putRowK putRow mapBlock
   show ((w.heap.modify g _)[k]?)=_
   rw [Array.getElem?_modify,if_neg (Ne.symm hkn)]
end
theorem egC:∀ args w,(callFunc 173 args).run Tryz.prog w=.ok (.enter 173 args) w:=enters_of Tryz.func173 (by kernel_rfl) rfl
def SortNPost (v:Value) (L:List NdC) (w:World) (e:Ending) (w':World):Prop :=
 e=.returned (.tuple #[])/\(∃ L',L'.Perm L/\(L'.Pairwise fun a b=>¬BefN b.n a.n)/\w'.ownsRow 0 136 18 v L'.length (ndFlat L'))/\Upd (fun g=>v.ownBlock=some g) w w'
theorem sortN_any (v:Value) (L:List NdC) (w:World) (h:w.ownsRow 0 136 18 v L.length (ndFlat L)) (hl:L.length<=1000000) :
 Calls Tryz.prog 172 #[v,.func (.func 173) #[] #[]] w (SortNPost v L w):=by
 have hln:=ndFlat_len L
 obtain ⟨h1,⟨rfl,h3⟩ | ⟨g,cap,cur,rfl,hb,hg,hn,hc,hs,ht⟩⟩:=id h
 · have h0:L=[]:=List.length_eq_zero_iff.1 h3
   subst h0
   have hcon:=AnyF.slices_SortFunc_none (P:=Tryz.prog) (ρ:=Tryz.sortA_ren) { Tryz.sortA with } none 0 (.func (.func 173) #[] #[]) w
   change Calls Tryz.prog 172 _ _ _ at hcon
   refine hcon.mono ?_
   rintro e w' ⟨rfl,rfl⟩
   exact ⟨rfl,⟨[],.nil,.nil,h⟩,Upd.refl _ _⟩
 · have hcur:w.heap[g]? = some (.cells (ndFlat L++cur.toList.drop (L.length*18)).toArray 136 (0,0)):=by
    rw [hg];congr 2;rw [<-ht,List.take_append_drop]
   have hcon:=AnyQ.slices_SortFunc Tryz.sortA 18 Tryz.isAgg136 Tryz.sizeOf136 NdC.cells NdC.len (fun x v hv=>by
    simp only [NdC.cells,en13,List.cons_append,List.nil_append,List.mem_cons,List.not_mem_nil,or_false] at hv
    rcases hv with rfl | rfl | rfl | rfl | rfl | rfl | rfl | rfl | rfl | rfl | rfl | rfl | rfl | rfl | rfl | rfl | rfl | rfl<;>rfl) cmpNd swo_nd 173 #[] g 0 cap L.toArray w egC
    (fun m os dk _ x y=>compare_any x y _) (holds_gen (by decide) NdC.len hcur) (heap_lt hg) (by simp;omega)
   rw [show L.toArray.size=L.length by simp] at hcon
   change Calls Tryz.prog 172 _ _ _ at hcon
   refine hcon.mono ?_
   rintro e w' ⟨he,d',m,os,⟨hp1,_,hp3⟩,hs',rfl⟩
   have hd1:d'.toList.length=L.length:=by simpa using hp1
   obtain ⟨hb',u⟩:=sorted_gen (by decide) NdC.len hcur (l':=d'.toList) hd1 m os
   have hperm:d'.toList.Perm L:=by
    have e1:d'.extract 0 L.length=d':=by apply Array.extract_eq_self_of_le;simpa using Nat.le_of_eq hd1
    have e2:L.toArray.extract 0 L.length=L.toArray:=by apply Array.extract_eq_self_of_le;simp
    rw [e1,e2] at hp3
    simpa using hp3
   have hln':=ndFlat_len d'.toList
   refine ⟨he,⟨d'.toList,hperm,?_,?_⟩,(show Upd (· = g) w _ by simpa using u).mono fun k hk=>by subst hk;rfl⟩
   · rw [List.pairwise_iff_getElem]
     intro i j hi hj hij
     have hs2:=hs' i j (Nat.zero_le _) hij (by rw [<-hd1];exact hj)
     rw [getElem!_pos d' j (by simpa using hj),getElem!_pos d' i (by simpa using hi)] at hs2
     rw [<-Bool.not_eq_true,cmpNd_lt] at hs2
     simpa using hs2
   · refine ⟨hln',.inr ⟨g,cap,(ndFlat d'.toList++cur.toList.drop (L.length*18)).toArray,by rw [hd1],hb,by simpa [ndFlat] using hb',by rw [hd1];exact hn,hc,?_,?_⟩⟩
     · have:cur.toList.length=cap*18:=by simpa using hs
       have:=Nat.mul_le_mul_right 18 hn
       simp
       omega
     · rw [List.toList_toArray,<-hln',List.take_left']
       rfl
theorem sortI_any (v:Value) (l:List Int) (B:Nat) (w:World) (h:w.ownsRow B 3 1 v l.length (l.map fun x=>.int .i64 x)) (hl:l.length<=1000000) :
 Calls Tryz.prog 95 #[v] w fun e w'=>e=.returned (.tuple #[])/\w'.ownsRow B 3 1 v (sortI l).length ((sortI l).map fun x=>.int .i64 x)/\Upd (fun g=>v.ownBlock=some g) w w':=by
 have hsl:(sortI l).length=l.length:=(sortI_perm l).length_eq
 obtain ⟨h1,⟨rfl,h3⟩ | ⟨g,cap,cur,rfl,hb,hg,hn,hc,hs,ht⟩⟩:=id h
 · have h0:l=[]:=List.length_eq_zero_iff.1 h3
   subst h0
   have hcon:=AnyM.slices_Sort_int_none Tryz.sortI none 0 w
   change Calls Tryz.prog 95 _ _ _ at hcon
   refine hcon.mono ?_
   rintro e w' ⟨rfl,rfl⟩
   exact ⟨rfl,by simpa [sortI] using h,Upd.refl _ _⟩
 · have hcs:cur.toList.length=cap:=by simpa using hs
   have hcur:w.heap[g]? = some (.cells ((l.map fun x=>Value.int .i64 x)++cur.toList.drop l.length).toArray 3 (0,0)):=by
    rw [hg];congr 2;rw [<-ht,Nat.mul_one,List.take_append_drop]
   have hH:Holds (Value.int .i64) w g 0 l.toArray:=by
    intro j hj
    refine ⟨?_,frozen_of_block hg⟩
    have hj':j<l.length:=by simpa using hj
    rw [Nat.zero_add,cell_of_block hcur,List.getElem?_toArray,List.getElem?_append_left (by simpa using hj'),List.getElem?_map,List.getElem?_eq_getElem hj',getElem!_pos _ j hj]
    simp
   have hcon:=AnyM.slices_Sort_int Tryz.sortI g 0 cap l w hH (heap_lt hg) (by omega)
   change Calls Tryz.prog 95 _ _ _ at hcon
   refine hcon.mono ?_
   rintro e w' ⟨he,m,os,hw⟩
   have hw:w'=grow (putRow (Value.int .i64) (Sort.ahead w m) g 0 (sortI l).toArray) os:=hw
   subst hw
   have hs1:(putRow (Value.int .i64) (Sort.ahead w m) g 0 (sortI l).toArray).heap.size=w.heap.size:=by simp [putRow,mapBlock,Sort.ahead]
   have hlt:=heap_lt hg
   have hnew:(grow (putRow (Value.int .i64) (Sort.ahead w m) g 0 (sortI l).toArray) os).heap[g]? = some (.cells (((sortI l).map fun x=>Value.int .i64 x)++cur.toList.drop l.length).toArray 3 (0,0)):=by
    rw [heap_grow_old _ _ (by rw [hs1];exact hlt)]
    unfold putRow mapBlock
    show ((w.heap.modify g _)[g]?)=_
    rw [Array.getElem?_modify,if_pos rfl,hcur,Option.map_some]
    show some (Obj.cells (putCells (Value.int .i64) 0 _ _) _ _)=_
    congr 2
    apply Array.ext_getElem?
    intro k
    simp only [putCells,Array.getElem?_mapIdx,List.getElem?_toArray,Nat.zero_le,true_and,Nat.zero_add,List.size_toArray,Nat.sub_zero]
    by_cases hk:k<(sortI l).length
    · rw [List.getElem?_append_left (by simp;omega),List.getElem?_append_left (by simpa using hk),List.getElem?_map,List.getElem?_map,List.getElem?_eq_getElem hk,List.getElem?_eq_getElem (by omega),Option.map_some,Option.map_some,Option.map_some,if_pos hk,getElem!_pos _ k (by simpa using hk)]
      simp
    · rw [List.getElem?_append_right (by simp;omega),List.getElem?_append_right (by simp;omega)]
      simp only [List.length_map]
      rw [hsl]
      cases hr:(cur.toList.drop l.length)[k-l.length]? with
      | none=>rfl
      | some y=>rw [Option.map_some,if_neg (by omega)]
   refine ⟨he,⟨by simp,.inr ⟨g,cap,_,by rw [hsl],hb,hnew,by rw [hsl];exact hn,hc,?_,?_⟩⟩,rfl,rfl,rfl,?_,?_⟩
   · simp;omega
   · rw [List.toList_toArray,Nat.mul_one,List.take_left']
     simp
   · simp only [grow,Array.size_append,hs1];omega
   · intro k hk hkn
     have hkg:g≠k:=fun e=>hkn (by subst e;rfl)
     rw [heap_grow_old _ _ (by rw [hs1];exact hk)]
     unfold putRow mapBlock
     show ((w.heap.modify g _)[k]?)=_
     rw [Array.getElem?_modify,if_neg hkg]
end Go.Proofs.YtjkmalddfoemhaaGreatDoor
namespace Go.Proofs.YtjkmalddfoemhaaGreatDoor
open Go.RowKit Go.Deep
theorem elemSealed:ElemTy Tryz.prog 145 150 2 24:=ElemTy.mk' (z:=.agg #[.int .i64 0,.string ⟨#[]⟩]) Tryz.underlying145 (by kernel_rfl) (by rfl) (by decide)
theorem skFlat_snoc (R:Rg) (x:SK):skFlat (R++[x])=skFlat R++skCells x:=by unfold skFlat;simp
theorem RingAt.sk {w:World} {O:Nat->Prop} {r:Nat} {R:Rg} {v:Value} {mb:Nat} {l:List (SK×Value)} (_:RingAt w O r R v mb l) {k:Int} {t:List UInt8} (hk:(Lit.int .i64 k).wf=true) (ht:t.length<=1000000):skOk (k,t):=⟨hk,Nat.le_trans ht (by decide)⟩
theorem RingAt.snoc {w w':World} {O:Nat->Prop} {r:Nat} {R:Rg} {v v':Value} {mb:Nat} {l:List (SK×Value)} (h:RingAt w O r R v mb l) {k:Int} {t:List UInt8} (hk:0<=k/\k<200) (ht:t.length<=1000000) (hn:ringF R (k,t)=none)
 (hd:w'.heap[r]? = some (.cells #[v',.map (some mb)] 148 (0,0))) (hr:w'.ownsRow 0 150 2 v' (R.length+1) (skFlat R++skCells (k,t))) (hm:MapG sealedKey w' mb (gPutM l (k,t) (.int .i64 R.length)))
 (hs:w.heap.size<=w'.heap.size) (ho:v'.ownBlock=v.ownBlock\/∃ g,v'.ownBlock=some g/\w.heap.size<=g) :
 RingAt w' (fun x=>O x\/v'.ownBlock=some x) r (R++[(k,t)]) v' mb (gPutM l (k,t) (.int .i64 R.length)):=by
 have hmem:=ring_none.1 hn
 have hmb:=(h.lt mb h.own.2.1).2
 have hrb:=(h.lt r h.own.1).2
 refine ⟨?_,hd,?_,hm,fun x hx=>?_,?_,⟨.inl h.own.1,.inl h.own.2.1,fun g hg=>.inr hg⟩,fun g hg=>?_,fun x hx=>?_⟩
 · have:=h.ok.sign k t ht
   unfold signF at this
   rw [if_neg (fun h=>h hk),hn] at this
   exact this
 · rw [skFlat_snoc,List.length_append];exact hr
 · unfold gLook
   rw [gLookup_put,ring_snoc hmem]
   by_cases e:x=(k,t)
   · rw [if_pos e,if_pos e];rfl
   · rw [if_neg e,if_neg e];exact h.look x hx
 · have h1:=gLen_put h.map.1 (k,t) (Value.int .i64 R.length)
   have h2:=h.look _ (h.sk (iwf (show -9223372036854775808<=k/\k<=9223372036854775807 by omega)) ht)
   unfold gLook at h2
   rw [h2,hn] at h1
   rw [h1,List.length_append]
   have:=h.len
   simp
   omega
 · rcases ho with ho | ⟨g',e,hg'⟩
   · rw [ho] at hg;exact h.apart g hg
   · rw [e] at hg;cases hg
     constructor<;>omega
 · rcases hx with hx | hx
   · exact ⟨(h.lt x hx).1,Nat.lt_of_lt_of_le (h.lt x hx).2 hs⟩
   · have h6:=(h.lt mb h.own.2.1).1
     rcases ownsRow_fits hr with ⟨rfl,_⟩ | ⟨g',cap,rfl,_,hl,_⟩
     · cases hx
     · cases hx
       rcases ho with ho | ⟨g,e,hg⟩
       · exact ⟨(h.lt _ (h.own.2.2 _ ho.symm)).1,hl⟩
       · cases e;exact ⟨by omega,hl⟩
theorem skey_any (n:Int) (w:World):Calls Tryz.prog 156 #[.int .i64 n] w fun e w'=>e=.returned (.bool (decide (0<=n/\n<200)))/\w=w':=by
 go_enter Tryz.func156,Tryz.ntmps156
 by_cases h0:0<=n
 · by_cases h1:n<200
   · have t1:decide (n<200)=true:=decide_eq_true h1
     go_wp2_with fail
     go_ret
     exact ⟨by simp [h0,h1],rfl⟩
   · have t1:decide (n<200)=false:=decide_eq_false h1
     go_wp2_with fail
     go_ret
     exact ⟨by simp,rfl⟩
 · have t0:decide (0<=n)=false:=decide_eq_false h0
   go_wp2_with fail
   go_ret
   exact ⟨by simp,rfl⟩
theorem rnew_any (w:World) (hz:6<=w.heap.size):Calls Tryz.prog 84 #[] w fun e w'=>∃ r,e=.returned (.pointer (some ⟨r,0,none⟩))/\w.heap.size<=r/\IsRing w' (fun k=>w.heap.size<=k/\k<w'.heap.size) r []/\Upd (fun _=>False) w w':=by
 have HZ:=hid hz;clear hz
 have hmk:∀ w,(Instr.makeMap 146 none).run Tryz.prog w=.ok (.map (some w.heap.size)) (w.alloc (.map #[] 0)):=fun w=>run_makeMap _ w
 go_enter Tryz.func84,Tryz.ntmps84
 go_wp2_with fail
 go_ret
 have u1:=(Upd.refl (fun _=>False) w).alloc (.map #[] 0)
 have h1:((w.alloc (.map #[] 0)).alloc (.cells #[.slice none 0 0,.map (some w.heap.size)] 148 (0,0))).heap[w.heap.size+1]? = some (.cells #[.slice none 0 0,.map (some w.heap.size)] 148 (0,0)):=by
  have:=heap_alloc_new (w:=w.alloc (.map #[] 0)) (o:=.cells #[.slice none 0 0,.map (some w.heap.size)] 148 (0,0))
  rw [World.size_alloc] at this
  exact this
 have hz:=HZ.out
 refine ⟨w.heap.size+1,rfl,by omega,⟨.slice none 0 0,w.heap.size,[],⟨RgOk.nil,h1,World.ownsRow_nil _ _ _ _,(MapG.made sealedKey w).upd ((Upd.refl (fun _=>False) _).alloc _) id,fun x _=>rfl,Nat.le_refl _,⟨⟨by omega,?_⟩,⟨by omega,?_⟩,fun g h=>(nomatch h)⟩,fun g h=>(nomatch h),fun k hk=>⟨by omega,hk.2⟩⟩⟩,u1.alloc _⟩
 · simp<;>omega
 · simp<;>omega
section
variable {w:World} {O:Nat->Prop} {r:Nat} {R:Rg} {v:Value} {mb:Nat} {l:List (SK×Value)}
theorem RingAt.look_no (h:RingAt w O r R v mb l) {k:Int} {t:List UInt8} (hk:(Lit.int .i64 k).wf=true) (ht:t.length<=1000000) (e:ringF R (k,t)=none) :
 (Instr.lookup 146 (.map (some mb)) (.agg #[.int .i64 k,.string ⟨t.toArray⟩]) true).run Tryz.prog w=.ok (.tuple #[.int .i64 0,.bool false]) w:=by
 have hx:=h.sk hk ht
 have:=h.map.getOk Tryz.underlying146 (zeroI w) hx
 have e2:=h.look _ hx
 unfold gLook at e2
 rw [e2,e] at this
 exact this
theorem RingAt.look_yes (h:RingAt w O r R v mb l) {k:Int} {t:List UInt8} (hk:(Lit.int .i64 k).wf=true) (ht:t.length<=1000000) {i:Nat} (e:ringF R (k,t)=some i) :
 (Instr.lookup 146 (.map (some mb)) (.agg #[.int .i64 k,.string ⟨t.toArray⟩]) true).run Tryz.prog w=.ok (.tuple #[.int .i64 i,.bool true]) w:=by
 have hx:=h.sk hk ht
 have:=h.map.getOk Tryz.underlying146 (zeroI w) hx
 have e2:=h.look _ hx
 unfold gLook at e2
 rw [e2,e] at this
 exact this
end
theorem valid_ring {O:Nat->Prop} {r:Nat} {R:Rg} {w:World} (h:IsRing w O r R) (s:Sg) (hk:(Lit.int .i64 s.key).wf=true) (ht:s.text.length<=1000000) :
 Calls Tryz.prog 33 #[.pointer (some ⟨r,0,none⟩),.agg #[.int .i64 s.key,.string ⟨s.text.toArray⟩,.int .i64 s.mark]] w fun e w'=>e=.returned (.bool (decide (ValidP R s)))/\Upd (fun _=>False) w w':=by
 obtain ⟨v,mb,l,H⟩:=h
 obtain ⟨W0,hW0⟩:∃ W0,W0=w.alloc (.cells #[.int .i64 s.key,.string ⟨s.text.toArray⟩,.int .i64 s.mark] 49 (0,0)):=⟨_,rfl⟩
 have u0:Upd (fun _=>False) w W0:=by rw [hW0];exact (Upd.refl _ _).alloc _
 have hb0:W0.heap[w.heap.size]? = some (.cells #[.int .i64 s.key,.string ⟨s.text.toArray⟩,.int .i64 s.mark] 49 (0,0)):=by rw [hW0];exact heap_alloc_new
 have b0:W0.cell? ⟨w.heap.size,0,none⟩=some (.int .i64 s.key):=by rw [cell_of_block hb0];rfl
 have b1:W0.cell? ⟨w.heap.size,1,none⟩=some (.string ⟨s.text.toArray⟩):=by rw [cell_of_block hb0];rfl
 have b2:W0.cell? ⟨w.heap.size,2,none⟩=some (.int .i64 s.mark):=by rw [cell_of_block hb0];rfl
 have H0:=H.upd u0 fun _ _=>id
 obtain ⟨c0,c1,cf⟩:=cells2 H0.head
 have HW0:=hid hW0;have U0:=hid u0;have HH:=hid H0
 have HV:=hid (valid_iff H.ok s)
 clear hW0 u0 hb0 H0
 cases hi:ringF R (s.key,s.text) with
 | none =>
   have HN:=hid (show ¬ValidP R s by rw [HV.out,hi];rintro ⟨_,h,_⟩;cases h)
   have HI:=hid hi
   clear hi H
   go_enter Tryz.func33,Tryz.ntmps33
   go_upto_region 1 with (fail)
   rw [<-HW0.out]
   have e0:=fun p:UW W0=>p.cell c0;have e1:=fun p:UW W0=>p.cell c1
   have f0:=fun p:UW W0=>p.cell b0;have f1:=fun p:UW W0=>p.cell b1
   have q:=fun p:UW W0=>(HH.out.upd p.u fun _ _=>id).look_no hk ht HI.out
   refine region_upd (by kernel_rfl) (by kernel_rfl) ?_
   repeat (go_big_quiet_step (fail))
   refine wpQuiet_nil ?_
   intro _ hw1
   refine uw_out hw1 ?_
   rintro w1 u1 rfl
   have U1:=hid u1
   clear hw1 u1 e0 e1 f0 f1 q
   go_wp2_with fail
   go_ret
   exact ⟨by rw [decide_eq_false HN.out]<;>rfl,U0.out.trans U1.out⟩
 | some i =>
   have HI:=hid hi
   have g2:=b2
   by_cases he:(i:Int)=s.mark
   · have HN:=hid (show ValidP R s by rw [HV.out];exact ⟨i,hi,he⟩)
     have t0:((i:Int)==s.mark)=true:=beq_iff_eq.2 he
     clear hi H he
     go_enter Tryz.func33,Tryz.ntmps33
     go_upto_region 1 with (fail)
     rw [<-HW0.out]
     have e0:=fun p:UW W0=>p.cell c0;have e1:=fun p:UW W0=>p.cell c1
     have f0:=fun p:UW W0=>p.cell b0;have f1:=fun p:UW W0=>p.cell b1
     have q:=fun p:UW W0=>(HH.out.upd p.u fun _ _=>id).look_yes hk ht HI.out
     refine region_upd (by kernel_rfl) (by kernel_rfl) ?_
     repeat (go_big_quiet_step (fail))
     refine wpQuiet_nil ?_
     intro _ hw1
     refine uw_out hw1 ?_
     rintro w1 u1 rfl
     have U1:=hid u1
     have k2:=cell_kept b2 (u1.block _ (World.block_lt_of_cell? _ _ b2) id)
     clear hw1 u1 e0 e1 f0 f1 q b0 b1 b2 g2
     go_wp2_with fail
     go_ret
     exact ⟨by rw [decide_eq_true HN.out]<;>rfl,U0.out.trans U1.out⟩
   · have HN:=hid (show ¬ValidP R s by rw [HV.out,hi];rintro ⟨j,h,h'⟩;cases h;exact he h')
     have t0:((i:Int)==s.mark)=false:=beq_eq_false_iff_ne.2 he
     clear hi H he
     go_enter Tryz.func33,Tryz.ntmps33
     go_upto_region 1 with (fail)
     rw [<-HW0.out]
     have e0:=fun p:UW W0=>p.cell c0;have e1:=fun p:UW W0=>p.cell c1
     have f0:=fun p:UW W0=>p.cell b0;have f1:=fun p:UW W0=>p.cell b1
     have q:=fun p:UW W0=>(HH.out.upd p.u fun _ _=>id).look_yes hk ht HI.out
     refine region_upd (by kernel_rfl) (by kernel_rfl) ?_
     repeat (go_big_quiet_step (fail))
     refine wpQuiet_nil ?_
     intro _ hw1
     refine uw_out hw1 ?_
     rintro w1 u1 rfl
     have U1:=hid u1
     have k2:=cell_kept b2 (u1.block _ (World.block_lt_of_cell? _ _ b2) id)
     clear hw1 u1 e0 e1 f0 f1 q b0 b1 b2 g2
     go_wp2_with fail
     go_ret
     exact ⟨by rw [decide_eq_false HN.out]<;>rfl,U0.out.trans U1.out⟩
theorem results_cell1 {fn:Func} {p:Tmp} {ty:TypeId} (h:fn.results=#[.cell p ty]) (tmps:Array Value) (P:Program) (w:World) :
 (results fn tmps).run P w=((asAddr (tmps.getD p undef)).run P w).andThen fun a w₁=>(loadVar ty a).run P w₁:=by
 simp only [results,h]
 simp [Sem.run_bind,Result.andThen]
theorem Upd.three (a:World) (x:Nat) (u v z:Value):Upd (· = x) a (((a.setCell ⟨x,0,none⟩ u).setCell ⟨x,1,none⟩ v).setCell ⟨x,2,none⟩ z) :=
 (((Upd.refl (· = x) a).setCell ⟨x,0,none⟩ u (.inl rfl)).setCell ⟨x,1,none⟩ v (.inl rfl)).setCell ⟨x,2,none⟩ z (.inl rfl)
theorem own_slice {w:World} {B:Nat} {e:TypeId} {s:Nat} {v:Value} {n:Nat} {xs:List Value} (h:w.ownsRow B e s v n xs):∃ a c,v=.slice a n c/\n<=c/\c<=maxLen:=by
 rcases ownsRow_fits h with ⟨rfl,rfl⟩ | ⟨g,cap,rfl,_,_,h1,h2⟩
 · exact ⟨_,_,rfl,Nat.le_refl _,Nat.zero_le _⟩
 · exact ⟨_,_,rfl,h1,h2⟩
def SignPost (R:Rg) (O:Nat->Prop) (r:Nat) (k:Int) (t:List UInt8) (w:World) (e:Ending) (w':World):Prop :=
 e=.returned (.agg #[.int .i64 (signF R k t).2.key,.string ⟨(signF R k t).2.text.toArray⟩,.int .i64 (signF R k t).2.mark])/\∃ O',IsRing w' O' r (signF R k t).1/\(∀ k,O' k->O k\/w.heap.size<=k)/\Upd O w w'
theorem sign_same {R:Rg} {O:Nat->Prop} {r:Nat} {k:Int} {t:List UInt8} {s:Sg} {w w':World} (h:IsRing w O r R) (e:signF R k t=(R,s)) (u:Upd (fun _=>False) w w'):SignPost R O r k t w (.returned (.agg #[.int .i64 s.key,.string ⟨s.text.toArray⟩,.int .i64 s.mark])) w' :=
 ⟨by rw [e],O,by rw [e];exact h.keep u,fun k hk=>.inl hk,u.mono fun _ q=>q.elim⟩
theorem Upd.setN {w a:World} {x:Nat} (h:Upd (fun _=>False) w a) (hx:w.heap.size<=x) (k:Nat) (v:Value):Upd (fun _=>False) w (a.setCell ⟨x,k,none⟩ v):=h.setCell _ v (.inr hx)
theorem sign_any {O:Nat->Prop} {r:Nat} {R:Rg} {w:World} (h:IsRing w O r R) (k:Int) (t:List UInt8) (hk:(Lit.int .i64 k).wf=true) (ht:t.length<=1000000) (hR:R.length<=100000) :
 Calls Tryz.prog 85 #[.pointer (some ⟨r,0,none⟩),.int .i64 k,.string ⟨t.toArray⟩] w (SignPost R O r k t w):=by
 have H00:=hid h
 obtain ⟨v,mb,l,H⟩:=h
 by_cases hkey:0<=k/\k<200
 case neg =>
  have hs:signF R k t=(R,⟨0,[],0⟩):=if_pos hkey
  have HS:=hid hs
  have HKEY:=hid (show decide (0<=k/\k<200)=false from decide_eq_false hkey)
  have U0:=hid ((Upd.refl (fun _=>False) w).alloc (.cells #[.int .i64 0,.string ⟨#[]⟩,.int .i64 0] 49 (0,0)))
  clear H hkey hs
  go_enter Tryz.func85,Tryz.ntmps85
  go_wp2_with fail
  refine (skey_any k _).mono ?_
  rintro e w1 ⟨rfl,rfl⟩
  rw [HKEY.out]
  go_wp2_with fail
  refine bodyPost_ret (v:=.agg #[.int .i64 0,.string ⟨#[]⟩,.int .i64 0]) (by rw [results_cell1 rfl];go_simp) rfl ?_
  exact sign_same H00.out HS.out (by repeat (first | exact U0.out | (refine Upd.set0 ?_ _ _) | (refine Upd.alloc ?_ _) | exact Upd.refl _ _))
 have HKEY:=hid (show decide (0<=k/\k<200)=true from decide_eq_true hkey)
 have HK2:=hid hkey
 obtain ⟨W0,hW0⟩:∃ W0,W0=w.alloc (.cells #[.int .i64 0,.string ⟨#[]⟩,.int .i64 0] 49 (0,0)):=⟨_,rfl⟩
 obtain ⟨W1,hW1⟩:∃ W1,W1=W0.alloc (.cells #[.int .i64 k,.string ⟨t.toArray⟩] 150 (0,0)):=⟨_,rfl⟩
 have hs0:W0.heap.size=w.heap.size+1:=by rw [hW0];simp
 have hs1:W1.heap.size=w.heap.size+2:=by rw [hW1];simp [hs0]
 have u0:Upd (fun _=>False) w W1:=by rw [hW1,hW0];exact ((Upd.refl _ _).alloc _).alloc _
 have hb0:W1.heap[w.heap.size]? = some (.cells #[.int .i64 0,.string ⟨#[]⟩,.int .i64 0] 49 (0,0)):=by rw [hW1,heap_alloc_old (by omega),hW0];exact heap_alloc_new
 have hb1:W1.heap[w.heap.size+1]? = some (.cells #[.int .i64 k,.string ⟨t.toArray⟩] 150 (0,0)):=by rw [hW1,<-hs0];exact heap_alloc_new
 obtain ⟨b0,b1,bf⟩:=cells2 hb1
 have H0:=H.upd u0 fun _ _=>id
 obtain ⟨c0,c1,cf⟩:=cells2 H0.head
 have HW0:=hid hW0;have HW1:=hid hW1;have U0:=hid u0;have HH:=hid H0;have HB0:=hid hb0;have HB1:=hid hb1
 have HS0:=hid hs0
 have hrl:=heap_lt H0.head
 have hrw:r<w.heap.size:=heap_lt H.head
 clear hW0 hW1 u0 hb0 hb1 H0 H hkey hs0 hs1
 cases hi:ringF R (k,t) with
 | some i =>
   have HSIG:=hid (show signF R k t=(R,⟨k,t,i⟩) by unfold signF;rw [if_neg (fun q=>q HK2.out),hi])
   have HI:=hid hi
   clear hi
   go_enter Tryz.func85,Tryz.ntmps85
   go_wp2_with fail
   refine (skey_any k _).mono ?_
   rintro e w1 ⟨rfl,rfl⟩
   rw [HKEY.out]
   go_upto_region 4 with (fail)
   rw [<-HW0.out,<-HW1.out]
   have e0:=fun p:UW W1=>p.cell c0;have e1:=fun p:UW W1=>p.cell c1
   have f0:=fun p:UW W1=>p.cell b0;have f1:=fun p:UW W1=>p.cell b1
   have q:=fun p:UW W1=>(HH.out.upd p.u fun _ _=>id).look_yes hk ht HI.out
   refine region_upd (by kernel_rfl) (by kernel_rfl) ?_
   repeat (go_big_quiet_step (fail))
   refine wpQuiet_nil ?_
   intro _ hw1
   refine uw_out hw1 ?_
   rintro w1 u1 e
   obtain rfl:=e.symm
   have U1:=hid u1
   have g0:=(u1.block _ (heap_lt HB0.out) id).trans HB0.out
   have gl:=heap_lt g0
   obtain ⟨k0,k1,k2,kf⟩:=cells3 g0
   clear hw1 u1 e0 e1 f0 f1 q g0
   go_wp2_with fail
   refine bodyPost_ret (v:=.agg #[.int .i64 k,.string ⟨t.toArray⟩,.int .i64 i]) (by rw [results_cell1 rfl];go_simp) rfl ?_
   exact sign_same H00.out HSIG.out ((((U0.out.trans U1.out).setN (Nat.le_refl _) _ _).setN (Nat.le_refl _) _ _).setN (Nat.le_refl _) _ _)
 | none =>
   have HSIG:=hid (show signF R k t=(R++[(k,t)],⟨k,t,R.length⟩) by unfold signF;rw [if_neg (fun q=>q HK2.out),hi])
   have HI:=hid hi
   obtain ⟨a,c,rfl,ha1,ha2⟩:=own_slice HH.out.row
   have ha2:c<=9223372036854775807:=ha2
   clear hi
   go_enter Tryz.func85,Tryz.ntmps85
   go_wp2_with fail
   refine (skey_any k _).mono ?_
   rintro e w1 ⟨rfl,rfl⟩
   rw [HKEY.out]
   go_upto_region 4 with (fail)
   rw [<-HW0.out,<-HW1.out]
   have e0:=fun p:UW W1=>p.cell c0;have e1:=fun p:UW W1=>p.cell c1
   have f0:=fun p:UW W1=>p.cell b0;have f1:=fun p:UW W1=>p.cell b1
   have q:=fun p:UW W1=>(HH.out.upd p.u fun _ _=>id).look_no hk ht HI.out
   refine region_upd (by kernel_rfl) (by kernel_rfl) ?_
   repeat (go_big_quiet_step (fail))
   refine wpQuiet_nil ?_
   intro _ hw1
   refine uw_out hw1 ?_
   rintro w1 u1 e
   obtain rfl:=e.symm
   have U1:=hid u1
   have H1:=HH.out.upd u1 fun _ _=>id
   have g0:=(u1.block _ (heap_lt HB0.out) id).trans HB0.out
   have g1:=(u1.block _ (heap_lt HB1.out) id).trans HB1.out
   obtain ⟨r0,r1,rf⟩:=cells2 H1.head
   obtain ⟨s0,s1,sf⟩:=cells2 g1
   clear hw1 u1 e0 e1 f0 f1 q b0 b1 bf c0 c1 cf
   have hr1:=heap_lt H1.head
   have hg1l:=heap_lt g1
   have hap:=H1.apart
   have how:=H1.own
   have hlt:=H1.lt
   have hne:¬mb=r:=fun e=>by
    obtain ⟨_,D0,⟨es,clock,hb,_⟩,_⟩:=H1.map
    rw [e,H1.head] at hb;cases hb
   obtain ⟨v',w4,r4,o4,u4,n4⟩:=append_one elemSealed (w:=w1.drew) H1.row.drew #[.int .i64 k,.string ⟨t.toArray⟩] rfl (by simp [Value.oneCell']) (by unfold maxLen;omega) (by omega) (Nat.zero_le _) 145 (0,0)
   obtain ⟨n1,hn1⟩:∃ n1,R.length+1=n1:=⟨_,rfl⟩
   rw [hn1] at o4
   obtain ⟨a',c',rfl,hc1,hc2⟩:=own_slice o4
   have hc2:c'<=9223372036854775807:=hc2
   have hd4:=(u4.block r (heap_lt H1.head) fun q=>(hap r q).1 rfl).trans H1.head
   have hg4:=(u4.block _ (heap_lt g1) fun q=>by have h1:=(hlt _ (how.2.2 _ q)).2;have h2:=(HH.out.lt _ (HH.out.own.2.2 _ q)).2;have h3:=(H00.out.lt _ (HH.out.own.2.2 _ q)).2;omega).trans g1
   have hm4:=(H1.map.upd (Upd.refl (fun _=>False) w1).drew id).upd u4 fun q=>(hap mb q).2 rfl
   obtain ⟨q0,q1,qf⟩:=cells2 hd4
   obtain ⟨w5,hw5⟩:∃ x,x=w4.setCell ⟨r,0,none⟩ (.slice a' n1 c'):=⟨_,rfl⟩
   have u5:Upd (· = r) w4 w5:=by rw [hw5];exact (Upd.refl _ _).setCell _ _ (.inl rfl)
   have hd5:w5.heap[r]? = some (.cells #[.slice a' n1 c',.map (some mb)] 148 (0,0)):=by rw [hw5,heap_setCell_same (p:=⟨r,0,none⟩) rfl hd4];rfl
   have hnr:¬w.heap.size+1=r:=by omega
   have hg5:=(u5.block _ (heap_lt hg4) hnr).trans hg4
   have hm5:=hm4.upd u5 hne
   have hv5:∀ g,(Value.slice a' n1 c').ownBlock=some g->¬g=r:=fun g hg=>by
    rcases n4 with e | ⟨g',e,hg'⟩
    · rw [e] at hg;exact (hap g hg).1
    · rw [e] at hg;cases hg
      have:r<w1.drew.heap.size:=heap_lt H1.head
      omega
   have ho5:=ownsRow_upd o4 u5 hv5
   obtain ⟨w6,r6,m6,u6⟩:=(hm5.upd (Upd.refl (fun _=>False) w5).drew id).put Tryz.underlying146 (by have:=H1.len;unfold maxLen;omega) (x:=(k,t)) ⟨hk,Nat.le_trans ht (by decide)⟩ (.int .i64 R.length)
   have r6:(Instr.mapUpdate 146 (.map (some mb)) (.agg #[.int .i64 k,.string ⟨t.toArray⟩]) (.int .i64 R.length)).run Tryz.prog w5.drew=.ok () w6:=r6
   obtain ⟨x0,x1,xf⟩:=cells2 hd5
   obtain ⟨y0,y1,yf⟩:=cells2 hg5
   have hv6:∀ g,(Value.slice a' n1 c').ownBlock=some g->¬g=mb:=fun g hg=>by
    rcases n4 with e | ⟨g',e,hg'⟩
    · rw [e] at hg;exact (hap g hg).2
    · rw [e] at hg;cases hg
      have:mb<w1.drew.heap.size:=H1.map.lt
      omega
   have ho6:=ownsRow_upd (ho5.drew) u6 hv6
   have hd6:=(u6.block r (heap_lt hd5) (fun e=>hne e.symm)).trans hd5
   have hg0:¬w.heap.size=r/\¬w.heap.size=mb:=by have h2:=(H00.out.lt _ HH.out.own.2.1).2;omega
   have hz4:=(u4.block _ (heap_lt g0) fun q=>by have h3:=(H00.out.lt _ (HH.out.own.2.2 _ q)).2;omega).trans g0
   have hz5:=(u5.block _ (heap_lt hz4) hg0.1).trans hz4
   have hz6:=(u6.block _ (heap_lt hz5) hg0.2).trans hz5
   obtain ⟨z0,z1,z2,zf⟩:=cells3 hz6
   have hzl:=heap_lt hz6
   have H1:=hid H1;have U4:=hid u4;have U5:=hid u5;have U6:=hid u6;have O6:=hid ho6;have M6:=hid m6;have D6:=hid hd6;have N4:=hid n4;have HW5:=hid hw5;have HN1:=hid hn1
   clear hn1
   have FIN:Hid (∀ wz,Upd (· = w.heap.size) w6 wz->SignPost R O r k t w (.returned (.agg #[.int .i64 k,.string ⟨t.toArray⟩,.int .i64 R.length])) wz):=by
    refine hid fun wz uz=>?_
    have hsz:w1.drew.heap.size<=w6.heap.size:=Nat.le_trans (Nat.le_trans U4.out.size U5.out.size) U6.out.size
    have R6:=H1.out.snoc HK2.out ht HI.out D6.out (by rw [HN1.out];exact O6.out) M6.out hsz (N4.out.imp id fun ⟨g,q1,q2⟩=>⟨g,q1,Nat.le_of_lt q2⟩)
    have A:Upd O w w4:=((U0.out.trans U1.out).drew.mono fun _ q=>q.elim).comp U4.out fun i hi q=>H1.out.own.2.2 i q
    have B:Upd O w w5:=A.comp U5.out fun i hi q=>by subst q;exact H1.out.own.1
    have C:Upd O w w6:=B.drew.comp U6.out fun i hi q=>by subst q;exact H1.out.own.2.1
    have hnew:∀ x,(Value.slice a' n1 c').ownBlock=some x->O x\/w.heap.size<x:=fun x hx=>by
     rcases N4.out with q | ⟨g,q,hg⟩
     · exact .inl (H1.out.own.2.2 x (by rw [<-q];exact hx))
     · rw [q] at hx;cases hx
       have hg:w1.heap.size<x:=hg
       exact .inr (Nat.lt_trans (Nat.lt_of_succ_lt hg1l) hg)
    refine ⟨by rw [HSIG.out],fun x=>O x\/(Value.slice a' n1 c').ownBlock=some x,?_,fun x hx=>hx.elim .inl fun q=>(hnew x q).imp id Nat.le_of_lt,C.comp uz fun i hi q=>absurd q (Nat.ne_of_lt hi)⟩
    rw [HSIG.out]
    refine ⟨_,_,_,R6.upd uz fun x hx q=>?_⟩
    subst q
    rcases hx with hx | hx
    · exact Nat.lt_irrefl _ (H00.out.lt _ hx).2
    · rcases hnew _ hx with hx | hx
      · exact Nat.lt_irrefl _ (H00.out.lt _ hx).2
      · exact Nat.lt_irrefl _ hx
   clear hap how hlt o4 u4 n4 hd4 hg4 hm4 hw5 u5 hd5 hg5 hm5 hv5 ho5 m6 u6 hv6 ho6 hd6 hz4 hz5 hz6 g0 g1 e
   go_upto_region 7 with (fail)
   go_region_law (refine step_append_run rfl _ _ _ _ rfl rfl rfl r4 ?_)
   all_goals
    rw [<-HW5.out]
    go_upto_region 8 with (fail)
    go_region
    all_goals
     go_wp2_with fail
     refine bodyPost_ret (v:=.agg #[.int .i64 k,.string ⟨t.toArray⟩,.int .i64 R.length]) (by rw [results_cell1 rfl];go_simp) rfl ?_
     exact FIN.out _ (Upd.three _ _ _ _ _)
end Go.Proofs.YtjkmalddfoemhaaGreatDoor
