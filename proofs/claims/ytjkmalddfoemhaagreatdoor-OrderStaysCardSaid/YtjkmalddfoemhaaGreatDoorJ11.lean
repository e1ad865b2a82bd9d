/- Walks: the marks of entries (marks, Marks, Past, Down, Heads). -/
import Derived.Test.YtjkmalddfoemhaaGreatDoorJ10
import Derived.Test.YtjkmalddfoemhaaGreatDoorJ2
import Derived.Test.YtjkmalddfoemhaaGreatDoorJ7
set_option maxRecDepth 100000
set_option maxHeartbeats 1000000
namespace Go.Proofs.YtjkmalddfoemhaaGreatDoor
open Go.RowKit Go.Deep
theorem pick_to (h:Hs) (p:Nat->Bool) {k:Nat} (hk:k<h.length):pick (h.take (k+1)) p=pick (h.take k) p++if p k=true then [h[k]] else []:=by
 unfold pick
 rw [List.take_succ_eq_append_getElem hk,List.zipIdx_append,List.filter_append,List.map_append]
 congr 1
 have hl:(h.take k).length=k:=by rw [List.length_take];omega
 rw [hl]
 by_cases hp:p k=true<;>simp [hp]
theorem pick_len (h:Hs) (p:Nat->Bool):(pick h p).length<=h.length:=(pick_sub h p).length_le
def marksTo (h:Hs) (p:Nat->Bool) (k:Nat):List Int:=(pick (h.take k) p).map Nd.mark
theorem marksTo_all (h:Hs) (p:Nat->Bool):marksTo h p h.length=(pick h p).map Nd.mark:=by unfold marksTo;rw [List.take_length]
theorem marksTo_yes {h:Hs} {p:Nat->Bool} {k:Nat} {n:Nd} (hk:h[k]? = some n) (hp:p k=true):marksTo h p (k+1)=marksTo h p k++[n.sg.mark]:=by
 obtain ⟨hl,rfl⟩:=List.getElem?_eq_some_iff.1 hk
 unfold marksTo
 rw [pick_to h p hl,if_pos hp,List.map_append];rfl
theorem marksTo_len (h:Hs) (p:Nat->Bool) (k:Nat):(marksTo h p k).length<=h.length:=by
 unfold marksTo
 rw [List.length_map]
 refine Nat.le_trans (pick_len _ p) ?_
 rw [List.length_take];omega
theorem pick_all (h:Hs):pick h (fun _=>true)=h:=by
 unfold pick
 rw [List.filter_eq_self.2 (fun _ _=>rfl)]
 exact List.zipIdx_map_fst 0 h
def IntsPost (l:List Int) (w:World) (e:Ending) (w':World):Prop:=∃ v,e=.returned v/\w'.ownsRow w.heap.size 3 1 v l.length (l.map fun x=>.int .i64 x)/\Upd (fun _=>False) w w'
theorem IntsPost.nil {w w':World} (u:Upd (fun _=>False) w w'):IntsPost [] w (.returned (.slice none 0 0)) w':=⟨_,rfl,World.ownsRow_nil _ _ _ _,u⟩
theorem ownsRow_base {w:World} {B C:Nat} {v:Value} {n:Nat} {xs:List Value} {e:TypeId} {s:Nat} (h:w.ownsRow B e s v n xs) (hb:C<=B):w.ownsRow C e s v n xs:=by
 obtain ⟨h1,h2 | ⟨g,cap,cur,hv,h3,r⟩⟩:=h
 · exact ⟨h1,.inl h2⟩
 · exact ⟨h1,.inr ⟨g,cap,cur,hv,Nat.le_trans hb h3,r⟩⟩
theorem own_lt {w:World} {B:Nat} {v:Value} {n:Nat} {xs:List Value} (h:w.ownsRow B 3 1 v n xs):∀ g,v.ownBlock=some g->B<=g/\g<w.heap.size:=by
 intro g hg
 rcases ownsRow_fits h with ⟨rfl,_⟩ | ⟨g',cap,rfl,h1,h2,_⟩
 · cases hg
 · cases hg;exact ⟨h1,h2⟩
theorem sorted_end {w w1:World} {v:Value} {l:List Int} (h:w1.ownsRow w.heap.size 3 1 v l.length (l.map fun x=>.int .i64 x)) (hl:l.length<=1000000) (u:Upd (fun _=>False) w w1) :
 Calls Tryz.prog 95 #[v] w1 fun e w'=>e=.returned (.tuple #[])/\IntsPost (sortI l) w (.returned v) w':=by
 refine (sortI_any v l w.heap.size w1 h hl).mono ?_
 rintro e w' ⟨rfl,h2,u2⟩
 exact ⟨rfl,v,rfl,h2,u.comp u2 fun i hi e=>by have:=(own_lt h i e).1;omega⟩
theorem marksF_pick (h:Hs):marksF h=marksP h fun _=>true:=by unfold marksF marksP;rw [pick_all]
theorem hmarks_any {O:Nat->Prop} {b r:Nat} {hs:Hs} {w:World} (h:IsHis w O b r hs):Calls Tryz.prog 21 #[.pointer (some ⟨b,0,none⟩)] w (IntsPost (marksF hs) w):=by
 rw [marksF_pick]
 obtain ⟨D,vn,mb,l,L,H,rfl⟩:=h
 obtain ⟨c0,c1,c2,cf⟩:=cells3 H.head
 have HLL:=hid (show (L.map NdC.n).length=L.length from List.length_map ..)
 rcases H.at_ with ⟨rfl,h0⟩ | ⟨g,cap,rfl,h1,h2,hgl,_⟩
 · subst h0
   clear H
   go_enter Tryz.func21,Tryz.ntmps21
   go_wp2_with fail
   go_loopg [3,11] 0 (fun gg s3 s11 wr=>s3=.slice none 0 0/\s11=.int .i64 0/\w=wr)
   case atStart=>exact ⟨rfl,rfl,rfl⟩
   case round =>
    obtain ⟨rfl,rfl,rfl⟩:=hrel
    go_wp2_with fail
    refine (sorted_end (l:=[]) (World.ownsRow_nil _ _ _ _) (by decide) (Upd.refl _ w)).mono ?_
    rintro e w' ⟨rfl,h⟩
    have HE:=hid h
    clear h
    go_wp2_with fail
    go_ret
    exact HE.out
 · have h2:cap<=9223372036854775807:=h2
   have HH:=hid H
   have hfew:=H.few
   clear H
   go_enter Tryz.func21,Tryz.ntmps21
   go_wp2_with fail
   go_loopg [3,11] L.length (fun gg s3 s11 wr=>∃ k:Nat,k<=L.length/\gg=L.length-k/\s11=.int .i64 k/\wr.ownsRow w.heap.size 3 1 s3 (marksTo (L.map NdC.n) (fun _=>true) k).length ((marksTo (L.map NdC.n) (fun _=>true) k).map fun x=>.int .i64 x)/\Upd (fun _=>False) w wr)
   case atStart=>exact ⟨0,Nat.zero_le _,rfl,rfl,World.ownsRow_nil _ _ _ _,Upd.refl _ _⟩
   case round =>
    obtain ⟨k,hk,hg,rfl,hown,u⟩:=hrel
    have UU:=hid u;have HG:=hid hg;have OWN:=hid hown
    clear u hg hown
    have ML:=hid (marksTo_len (L.map NdC.n) (fun _=>true) k)
    by_cases hlt:k<L.length
    case neg =>
     have hlti:¬(k:Int)<L.length:=by omega
     have HE:=hid (show marksTo (L.map NdC.n) (fun _=>true) k=(pick (L.map NdC.n) (fun _=>true)).map Nd.mark by rw [<-marksTo_all,HLL.out,show k=L.length by omega])
     go_wp2_with fail
     refine (sorted_end OWN.out (by have:=ML.out;rw [HLL.out] at this;omega) UU.out).mono ?_
     rintro e w' ⟨rfl,h⟩
     rw [HE.out] at h
     have HF:=hid h
     clear h
     go_wp2_with fail
     go_ret
     exact HF.out
    have hlti:(k:Int)<L.length:=by omega
    obtain ⟨c,hc⟩:∃ c,L[k]? = some c:=⟨_,List.getElem?_eq_getElem hlt⟩
    obtain ⟨g',cap',e1,_,_,_,hn⟩:=HH.out.node (Nat.lt_of_le_of_lt (Nat.zero_le _) hlt)
    cases e1
    have NK:=hid ((hn k c hc).keep UU.out id)
    have hgr:g<wr.heap.size:=Nat.lt_of_lt_of_le hgl UU.out.size
    obtain ⟨W1,hW1⟩:∃ W1,W1=wr.alloc (.cells c.cells.toArray 136 (0,0)):=⟨_,rfl⟩
    have u1:Upd (fun _=>False) wr W1:=by rw [hW1];exact (Upd.refl _ _).alloc _
    have HW1:=hid hW1;have U1:=hid (UU.out.trans u1)
    have OW:=hid (ownsRow_upd OWN.out u1 fun _ _=>id)
    have HN:=hid (marksTo_yes (p:=fun _=>true) (HH.out.nd hc) rfl)
    obtain ⟨v',w4,r4,o4,u4,n4⟩:=append_one elemI OW.out #[.int .i64 c.n.sg.mark] rfl (by simp [Value.oneCell']) (by have:=ML.out;rw [HLL.out] at this;unfold maxLen;omega) (by have:=ML.out;rw [HLL.out] at this;omega) U1.out.size 30 (0,0)
    have O4:=hid o4;have U4:=hid u4
    have hb1:W1.heap[wr.heap.size]? = some (.cells c.cells.toArray 136 (0,0)):=by rw [hW1];exact heap_alloc_new
    have q2:W1.cell? ⟨wr.heap.size,2,none⟩=some (.int .i64 c.n.sg.mark):=by rw [cell_of_block hb1];rfl
    clear o4 u4 n4 hW1 hb1 hn hc
    go_upto_region 4 with (fail)
    refine wp_region_lit ?_
    refine op_index rfl _ _ _ rfl rfl rfl (node_index hlt h1 h2 _) ?_
    refine op_load rfl _ _ rfl rfl (node_load NK.out) ?_
    refine op_alloc rfl _ rfl (node_alloc _) ?_
    refine op_store rfl _ _ _ rfl rfl rfl (node_store _ _) ?_
    rw [<-HW1.out]
    refine wpList_nil ?_
    go_frame
    go_wp2_with (at_builtin;refine wpList_append_run rfl _ _ _ _ rfl rfl rfl r4 ?_)
    go_roundg (L.length-(k+1))
    case measure=>have:=HG.out;omega
    case rel =>
     refine ⟨k+1,by omega,rfl,by go_num,?_,U1.out.comp U4.out fun i hi e=>by have:=(own_lt OW.out i e).1;omega⟩
     rw [HN.out,List.length_append,List.map_append]
     exact O4.out
end Go.Proofs.YtjkmalddfoemhaaGreatDoor
namespace Go.Proofs.YtjkmalddfoemhaaGreatDoor
open Go.RowKit Go.Deep
theorem ndFlat_snoc (L:List NdC) (c:NdC):ndFlat (L++[c])=ndFlat L++c.cells:=by unfold ndFlat;simp
theorem MapIs.obj {P:Program} {k:TypeId} {w:World} {b:Nat} {l:List (Int×Value)} (h:MapIs P k w b l):∃ es c,w.heap[b]? = some (.map es c):=by
 obtain ⟨_,D,⟨es,c,hb,_⟩,_⟩:=h
 exact ⟨es,c,hb⟩
theorem cells_ne_map {P:Program} {k:TypeId} {w:World} {b p:Nat} {l:List (Int×Value)} {cs:Array Value} {t:TypeId} {fr:Nat×Nat} (h:MapIs P k w b l) (hc:w.heap[p]? = some (.cells cs t fr)):p≠b:=by
 rintro rfl
 obtain ⟨es,c,hb⟩:=h.obj
 rw [hc] at hb
 cases hb
theorem HisAt.ne {O D:Nat->Prop} {w:World} {b r:Nat} {v:Value} {mb:Nat} {l:List (Int×Value)} {L:List NdC} (h:HisAt w O D b r v mb l L):b≠mb:=cells_ne_map h.map h.head
theorem HisAt.snoc {O D D':Nat->Prop} {w w':World} {b r:Nat} {v v':Value} {mb:Nat} {l:List (Int×Value)} {L:List NdC} {c:NdC} (h:HisAt w O D b r v mb l L)
 (hd:w'.heap[b]? = some (.cells #[.pointer (some ⟨r,0,none⟩),v',.map (some mb)] 131 (0,0))) (hr:w'.ownsRow 0 136 18 v' (L.length+1) (ndFlat L++c.cells))
 (hm:MapIs Tryz.prog 3 w' mb (putM l c.n.sg.mark (.int .i64 L.length))) (hn:idxF (L.map NdC.n) c.n.mark=none) (u:Upd (fun k=>k=b\/k=mb\/v.ownBlock=some k) w w')
 (hc:NdOk w' D' c) (hD:∀ k,D' k->w.heap.size<=k/\k<w'.heap.size) (ho:v'.ownBlock=v.ownBlock\/∃ g,v'.ownBlock=some g/\w.heap.size<=g/\¬D' g) (hl:L.length<64) :
 HisAt w' (fun k=>O k\/D' k\/v'.ownBlock=some k) (fun k=>D k\/D' k) b r v' mb (putM l c.n.sg.mark (.int .i64 L.length)) (L++[c]):=by
 have hbl:=(h.lt b h.own.1)
 have hml:=(h.lt mb h.own.2.1)
 refine ⟨hd,?_,hm,fun m=>?_,fun x hx=>?_,by rw [List.length_append];simp;omega,⟨.inl h.own.1,.inl h.own.2.1,fun g hg=>.inr (.inr hg),fun k hk=>hk.elim (fun q=>.inl (h.own.2.2.2 k q)) fun q=>.inr (.inl q)⟩,⟨fun g hg=>?_,?_,?_⟩,fun k hk=>?_⟩
 · rw [ndFlat_snoc,List.length_append];exact hr
 · rw [lookup_put,List.map_append,List.map_singleton,idx_snoc]
   by_cases e:m=c.n.sg.mark
   · subst e
     rw [if_pos rfl,show idxF (L.map NdC.n) c.n.sg.mark=none from hn]
     dsimp only
     rw [if_pos (show c.n.mark=c.n.sg.mark from rfl),List.length_map];rfl
   · rw [if_neg e,h.look]
     cases hi:idxF (L.map NdC.n) m with
     | some i=>rfl
     | none =>
       dsimp only
       rw [if_neg (fun q=>e q.symm)]
 · rcases List.mem_append.1 hx with hx | hx
   · refine ((h.nodes x hx).upd u fun k hk hS=>?_).wide fun k hk=>.inl hk
     rcases hS with rfl | rfl | hS
     · exact h.apart.2.1 hk
     · exact h.apart.2.2 hk
     · exact (h.apart.1 k hS).2.2 hk
   · rw [List.mem_singleton.1 hx];exact hc.wide fun k hk=>.inr hk
 · rcases ho with ho | ⟨g',e,hg',hD'⟩
   · rw [ho] at hg
     obtain ⟨q1,q2,q3⟩:=h.apart.1 g hg
     have:=h.lt g (h.own.2.2.1 g hg)
     exact ⟨q1,q2,fun q=>q.elim q3 fun q=>by have:=hD g q;omega⟩
   · rw [e] at hg;cases hg
     refine ⟨by omega,by omega,fun q=>q.elim (fun q=>?_) hD'⟩
     have:=h.lt _ (h.own.2.2.2 _ q);omega
 · exact fun q=>q.elim h.apart.2.1 fun q=>by have:=hD b q;omega
 · exact fun q=>q.elim h.apart.2.2 fun q=>by have:=hD mb q;omega
 · rcases hk with hk | hk | hk
   · exact ⟨(h.lt k hk).1,Nat.lt_of_lt_of_le (h.lt k hk).2 u.size⟩
   · have:=hD k hk;omega
   · rcases ownsRow_fits hr with ⟨rfl,_⟩ | ⟨g',cap,rfl,_,q,_⟩
     · cases hk
     · cases hk
       rcases ho with ho | ⟨g,e,hg,_⟩
       · exact ⟨(h.lt _ (h.own.2.2.1 _ ho.symm)).1,q⟩
       · cases e;exact ⟨by omega,q⟩
def AddPost (R:Rg) (O:Nat->Prop) (b r:Nat) (hs:Hs) (s:Sg) (w:World) (e:Ending) (w':World):Prop :=
 e=.returned (.int .i64 (addF rdF R hs s).2)/\∃ O',IsHis w' O' b r (addF rdF R hs s).1/\(∀ k,O' k->O k\/w.heap.size<=k)/\Upd O w w'
theorem add_no {R:Rg} {O:Nat->Prop} {b r:Nat} {hs:Hs} {s:Sg} {w w':World} {n:Int} (h:IsHis w O b r hs) (e:addF rdF R hs s=(hs,n)) (u:Upd (fun _=>False) w w'):AddPost R O b r hs s w (.returned (.int .i64 n)) w' :=
 ⟨by rw [e],O,by rw [e];exact h.keep u,fun k hk=>.inl hk,u.mono fun _ q=>q.elim⟩
theorem rd_ok {s:List UInt8} (hl:s.length<=10000000):EnOk (rdF s).1:=by
 have hw:=rd_wf hl
 rcases rd_cases s with ⟨_,h,_⟩ | h
 · have h1:=h.author;have h2:=h.seq;have h3:=h.day;have h4:=h.kind;have h5:=h.circle;have h6:=h.who;have h7:=h.text
   unfold keyP at h1 h6
   unfold dayP at h3
   unfold markP at h5
   exact ⟨by unfold I64;omega,by unfold I64;omega,by unfold I64;omega,by unfold I64;omega,by unfold I64;omega,by unfold I64;omega,hw.n,hw.m,hw.ref,hw.knows.2,hw.keys.2,by unfold maxLen;omega⟩
 · rw [h]
   refine ⟨?_,?_,?_,?_,?_,?_,?_,?_,?_,?_,?_,?_⟩<;>simp [En.none,I64,maxLen]
theorem levelF_bound {rd:List UInt8->En×Int} {R:Rg} {h:Hs} (H:His rd R h) (ms:List Int) (hk:∀ m∈ms,(idxF h m).isSome):levelF h ms<=h.length:=by
 rw [levelF_le hk]
 intro m hm i hi
 have:∀ i,levelAt h i<=i:=by
  intro i
  induction i using Nat.strongRecOn with
  | _ i ih =>
    by_cases hl:i<h.length
    · rw [H.level_le hl]
      intro m hm k hk
      obtain ⟨k',hk',hlt⟩:=H.knows hl hm
      rw [hk] at hk';cases hk'
      have:=ih k hlt;omega
    · unfold levelAt;rw [List.getElem?_eq_none (by omega)];exact Nat.zero_le _
 obtain ⟨hl,_⟩:=idx_some hi
 have:=this i;omega
def levelTo (h:Hs) (ms:List Int) (k:Nat):Nat:=(ms.take k).foldl (levelStep h) 0
theorem levelTo_all (h:Hs) (ms:List Int):levelTo h ms ms.length=levelF h ms:=by unfold levelTo levelF;rw [List.take_length]
theorem levelTo_succ {h:Hs} {ms:List Int} {k i:Nat} (hk:k<ms.length) (e:idxF h ms[k]=some i):levelTo h ms (k+1)=max (levelTo h ms k) (levelAt h i+1):=by
 unfold levelTo
 rw [List.take_succ_eq_append_getElem hk,List.foldl_append]
 show levelStep h _ _=_
 unfold levelStep
 rw [e]
theorem levelTo_le {h:Hs} {ms:List Int} (hk:∀ m∈ms,(idxF h m).isSome) (k:Nat):levelTo h ms k<=levelF h ms:=by
 have h1:levelTo h ms k=levelF h (ms.take k):=rfl
 rw [h1,levelF_le fun m hm=>hk m (List.mem_of_mem_take hm)]
 intro m hm i hi
 exact (levelF_le hk _).1 (Nat.le_refl _) m (List.mem_of_mem_take hm) i hi
end Go.Proofs.YtjkmalddfoemhaaGreatDoor
namespace Go.Proofs.YtjkmalddfoemhaaGreatDoor
open Go.RowKit Go.Deep
structure Gnd (w:World) (Or:Nat->Prop) (r:Nat) (R:Rg):Prop where
 ring:IsRing w Or r R
 env:Env w
 uses:UsesIn w
 six:6<=w.heap.size
theorem Gnd.upd {S Or:Nat->Prop} {w w':World} {r:Nat} {R:Rg} (h:Gnd w Or r R) (u:Upd S w w') (hS:∀ k,Or k->¬S k) (h6:∀ k,S k->6<=k):Gnd w' Or r R :=
 ⟨h.ring.upd u hS,h.env.keep u h6,fun k hk=>cell_kept (h.uses k hk) (u.block _ (World.block_lt_of_cell? _ _ (h.uses k hk)) fun q=>absurd (show (6:Nat)<=0 from h6 _ q) (by decide)),Nat.le_trans h.six u.size⟩
theorem Gnd.keep {Or:Nat->Prop} {w w':World} {r:Nat} {R:Rg} (h:Gnd w Or r R) (u:Upd (fun _=>False) w w'):Gnd w' Or r R:=h.upd u (fun _ _=>id) fun _ q=>q.elim
def ReadX (w:World) (x:En) (y:Int) (w':World) (en:Ending) (a1 a2 a3:Option Addr) (c1 c2 c3:Nat):Prop :=
 en=.returned (.tuple #[.agg #[.int .i64 x.author,.int .i64 x.seq,.int .i64 x.day,.slice a1 x.knows.length c1,.int .i64 x.kind,.int .i64 x.circle,.int .i64 x.who,.int .i64 x.n,.int .i64 x.m,.int .i64 x.ref,.slice a2 x.keys.length c2,.slice a3 x.spans.length c3,.string ⟨x.text.toArray⟩],.int .i64 y])/\EnRep (fun g=>w.heap.size<=g/\g<w'.heap.size) w' x a1 a2 a3 c1 c2 c3/\Upd (fun _=>False) w w'
theorem read_x {s:List UInt8} {w:World} (E:Env w) (hu:UsesIn w) (hz:6<=w.heap.size) (hl:s.length<=10000000) {x:En} {y:Int} (hx:rdF s=(x,y)) :
 Calls Tryz.prog 123 #[.string ⟨s.toArray⟩] w fun en w'=>∃ a1 a2 a3 c1 c2 c3,ReadX w x y w' en a1 a2 a3 c1 c2 c3:=by
 refine (read_any s w E hu hz hl).mono ?_
 rintro en w' ⟨a1,a2,a3,c1,c2,c3,he,hr,u⟩
 rw [hx] at he hr
 exact ⟨a1,a2,a3,c1,c2,c3,he,hr,u⟩
structure AddPre (w:World) (O Or:Nat->Prop) (b r:Nat) (hs:Hs) (R:Rg) (s:Sg):Prop where
 his:IsHis w O b r hs
 gnd:Gnd w Or r R
 plain:His rdF R hs
 apart:∀ k,Or k->¬O k
 key:I64 s.key
 mark:I64 s.mark
 text:s.text.length<=1000000
 room:hs.length<64
 ring:R.length<=1000000
theorem his_field1 (b:Nat) (w:World):(Instr.fieldAt 131 (.pointer (some ⟨b,0,none⟩)) 1).run Tryz.prog w=.ok (.pointer (some ⟨b,1,none⟩)) w:=by
 unfold Instr.fieldAt
 go_simp
theorem his_field2 (b:Nat) (w:World):(Instr.fieldAt 131 (.pointer (some ⟨b,0,none⟩)) 2).run Tryz.prog w=.ok (.pointer (some ⟨b,2,none⟩)) w:=by
 unfold Instr.fieldAt
 go_simp
theorem sg_field2 (b:Nat) (w:World):(Instr.fieldAt 49 (.pointer (some ⟨b,0,none⟩)) 2).run Tryz.prog w=.ok (.pointer (some ⟨b,2,none⟩)) w:=by
 unfold Instr.fieldAt
 go_simp
theorem map_load {w:World} {p:Addr} {m:Option Nat} (h:w.cell? p=some (.map m)):(Instr.loadAt 129 (.pointer (some p))).run Tryz.prog w=.ok (.map m) w:=by
 unfold Instr.loadAt
 go_simp
theorem intl_load {w:World} {p:Addr} {x:Int} (h:w.cell? p=some (.int .i64 x)):(Instr.loadAt 3 (.pointer (some p))).run Tryz.prog w=.ok (.int .i64 x) w:=by
 unfold Instr.loadAt
 go_simp
theorem nodes_load {w:World} {p:Addr} {a:Option Addr} {n c:Nat} (h:w.cell? p=some (.slice a n c)):(Instr.loadAt 128 (.pointer (some p))).run Tryz.prog w=.ok (.slice a n c) w:=by
 unfold Instr.loadAt
 go_simp
theorem nodes_store {w:World} {b k:Nat} {u:Value} {a:Option Addr} {n c:Nat} (h:w.cell? ⟨b,k,none⟩=some u) (hf:w.frozen? ⟨b,k,none⟩=false):(Instr.storeAt 128 (.pointer (some ⟨b,k,none⟩)) (.slice a n c)).run Tryz.prog w=.ok () (w.setCell ⟨b,k,none⟩ (.slice a n c)):=by
 unfold Instr.storeAt
 go_simp
theorem add_node {O Or D':Nat->Prop} {b r:Nat} {hs:Hs} {R:Rg} {w wr:World} {s:Sg} (P:AddPre w O Or b r hs R s) (hok:ValidP R s) {x:En} (hx:rdF s.text=(x,0)) (hall:(downF hs x.knows).2=true)
 {a1 a2 a3 pa:Option Addr} {c1 c2 c3 pn pc z:Nat} (rep:EnRep D' wr x a1 a2 a3 c1 c2 c3) (hz:BitsAt wr (.slice pa pn pc) z) (hp:∀ j,z.testBit j=(downF hs x.knows).1 j) (ho:∀ g,Value.ownBlock (.slice pa pn pc)=some g->D' g) :
 NdOk wr D' ⟨⟨s,x,levelF hs x.knows,(downF hs x.knows).1⟩,a1,a2,a3,c1,c2,c3,pa,pn,pc,z⟩:=by
 obtain ⟨h1,h2⟩:=hok
 obtain ⟨h3,_⟩:=List.getElem?_eq_some_iff.1 h2
 have hk:=P.gnd.ring.ok.ok _ (List.mem_of_getElem? h2)
 have hr:=P.ring
 have hl:s.text.length<=10000000:=Nat.le_trans P.text (by decide)
 have e1:=rd_ok hl
 have e2:=rd_wf hl
 rw [hx] at e1 e2
 have hlv:=levelF_bound P.plain x.knows ((downF_all hs x.knows).1 hall)
 have hrm:=P.room
 exact ⟨rep,hz,fun j=>(hp j).symm,ho,⟨hk.1,hk.2.1⟩,⟨h1,by dsimp only;omega⟩,P.text,e1,e2,by dsimp only;omega⟩
theorem add_fin {O D:Nat->Prop} {b r mb:Nat} {v v':Value} {l:List (Int×Value)} {L:List NdC} {hs:Hs} {w wr w6 w8 wz:World} {c:NdC}
 (H:HisAt w O D b r v mb l L) (hL:L.map NdC.n=hs) (ur:Upd (fun _=>False) w wr)
 (hc:NdOk wr (fun k=>w.heap.size<=k/\k<wr.heap.size) c) (hn:idxF hs c.n.mark=none) (hl:L.length<64)
 (u6:Upd (· = mb) wr w6) (m6:MapIs Tryz.prog 3 w6 mb (putM l c.n.sg.mark (.int .i64 L.length)))
 (o8:w8.ownsRow 0 136 18 v' (L.length+1) (ndFlat L++c.cells)) (u8:Upd (fun k=>v.ownBlock=some k) w6 w8)
 (n8:v'.ownBlock=v.ownBlock\/∃ g,v'.ownBlock=some g/\w6.heap.size<=g)
 (hz:wz.heap[b]? = some (.cells #[.pointer (some ⟨r,0,none⟩),v',.map (some mb)] 131 (0,0))) (uz:Upd (· = b) w8 wz) :
 ∃ O',IsHis wz O' b r (hs++[c.n])/\(∀ k,O' k->O k\/w.heap.size<=k)/\Upd O w wz:=by
 have hbl:=(H.lt b H.own.1).2
 have hml:=(H.lt mb H.own.2.1).2
 have s1:=ur.size;have s2:=u6.size;have s3:=u8.size;have s4:=uz.size
 have hvl:∀ k,v.ownBlock=some k->k<w.heap.size:=fun k hk=>(H.lt k (H.own.2.2.1 k hk)).2
 have uu:Upd (fun k=>k=b\/k=mb\/v.ownBlock=some k) wr wz:=((u6.mono fun k q=>.inr (.inl q)).trans (u8.mono fun k q=>.inr (.inr q))).trans (uz.mono fun k q=>.inl q)
 have u:Upd (fun k=>k=b\/k=mb\/v.ownBlock=some k) w wz:=(ur.mono fun _ q=>q.elim).trans uu
 have row:=ownsRow_upd o8 uz fun g hg e=>by
  subst e
  rcases n8 with q | ⟨g',q,h'⟩
  · rw [q] at hg;exact (H.apart.1 _ hg).1 rfl
  · rw [q] at hg;cases hg;omega
 have map:=(m6.upd u8 fun q=>(H.apart.1 mb q).2.1 rfl).upd uz fun e=>H.ne e.symm
 have hc':=hc.upd uu fun k hk hS=>by
  rcases hS with rfl | rfl | hS
  · omega
  · omega
  · have:=hvl k hS;omega
 have h:=H.snoc hz row map (by rw [hL];exact hn) u hc' (fun k hk=>⟨hk.1,by omega⟩) (n8.imp id fun ⟨g,e,q⟩=>⟨g,e,by omega,fun d=>by omega⟩) hl
 refine ⟨_,⟨_,_,_,_,L++[c],h,by rw [List.map_append,hL];rfl⟩,fun k hk=>?_,u.mono fun k hk=>?_⟩
 · rcases hk with hk | hk | hk
   · exact .inl hk
   · exact .inr hk.1
   · rcases n8 with q | ⟨g',q,h'⟩
     · rw [q] at hk;exact .inl (H.own.2.2.1 k hk)
     · rw [q] at hk;cases hk;exact .inr (by omega)
 · rcases hk with rfl | rfl | hk
   · exact H.own.1
   · exact H.own.2.1
   · exact H.own.2.2.1 k hk
theorem add_done {R:Rg} {O:Nat->Prop} {b r:Nat} {hs:Hs} {s:Sg} {n:Nd} {w wz:World} (e:addF rdF R hs s=(hs++[n],0)) (h:∃ O',IsHis wz O' b r (hs++[n])/\(∀ k,O' k->O k\/w.heap.size<=k)/\Upd O w wz):AddPost R O b r hs s w (.returned (.int .i64 0)) wz:=by
 obtain ⟨O',h1,h2,h3⟩:=h
 exact ⟨by rw [e],O',by rw [e];exact h1,h2,h3⟩
end Go.Proofs.YtjkmalddfoemhaaGreatDoor
