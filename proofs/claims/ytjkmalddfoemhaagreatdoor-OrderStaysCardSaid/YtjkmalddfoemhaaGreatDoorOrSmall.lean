/- Walks: the examples of the documentation of layer 33 (small). -/
import Derived.Test.YtjkmalddfoemhaaGreatDoorRm
import Derived.Test.YtjkmalddfoemhaaGreatDoorOrI
import Derived.Test.YtjkmalddfoemhaaGreatDoorOrSmP
import Derived.BigQuiet
set_option maxRecDepth 100000
set_option maxHeartbeats 16000000
namespace Go.Proofs.YtjkmalddfoemhaaGreatDoor
open Go.RowKit Go.Deep
def or65 (a b c:Nat):Array Value:=#[.int .i64 3,.int .i64 0,.int .i64 0,.slice none 0 0,.int .i64 1,.int .i64 0,.int .i64 0,.int .i64 0,.int .i64 0,.int .i64 (-1),.slice none 0 0,.slice none 0 0,.string ⟨#[]⟩,.int .i64 4,.int .i64 0,.int .i64 0,.slice none 0 0,.int .i64 1,.int .i64 0,.int .i64 0,.int .i64 0,.int .i64 0,.int .i64 (-1),.slice none 0 0,.slice none 0 0,.string ⟨#[]⟩,.int .i64 3,.int .i64 1,.int .i64 0,.slice (some ⟨a,0,none⟩) 1 1,.int .i64 18,.int .i64 0,.int .i64 0,.int .i64 0,.int .i64 0,.int .i64 (-1),.slice none 0 0,.slice none 0 0,.string ⟨#[]⟩,.int .i64 3,.int .i64 2,.int .i64 0,.slice (some ⟨b,0,none⟩) 1 1,.int .i64 19,.int .i64 0,.int .i64 0,.int .i64 0,.int .i64 0,.int .i64 2,.slice none 0 0,.slice none 0 0,.string ⟨#[]⟩,.int .i64 3,.int .i64 3,.int .i64 0,.slice (some ⟨c,0,none⟩) 1 1,.int .i64 20,.int .i64 0,.int .i64 0,.int .i64 0,.int .i64 0,.int .i64 2,.slice none 0 0,.slice none 0 0,.string ⟨#[]⟩]
def orAd (a b c:Nat):Nat->Option Addr×Nat
 | 2=>(some ⟨a,0,none⟩,1)
 | 3=>(some ⟨b,0,none⟩,1)
 | 4=>(some ⟨c,0,none⟩,1)
 | _=>(none,0)
theorem or65_get (a b c:Nat):∀ k (hk:k<orE.length) j,j<13->(or65 a b c)[k*13+j]? = (en13 orE[k] (orAd a b c k).1 none none (orAd a b c k).2 0 0)[j]?
 | 0,_,0,_ | 0,_,1,_ | 0,_,2,_ | 0,_,3,_ | 0,_,4,_ | 0,_,5,_ | 0,_,6,_ | 0,_,7,_ | 0,_,8,_ | 0,_,9,_ | 0,_,10,_ | 0,_,11,_ | 0,_,12,_
 | 1,_,0,_ | 1,_,1,_ | 1,_,2,_ | 1,_,3,_ | 1,_,4,_ | 1,_,5,_ | 1,_,6,_ | 1,_,7,_ | 1,_,8,_ | 1,_,9,_ | 1,_,10,_ | 1,_,11,_ | 1,_,12,_
 | 2,_,0,_ | 2,_,1,_ | 2,_,2,_ | 2,_,3,_ | 2,_,4,_ | 2,_,5,_ | 2,_,6,_ | 2,_,7,_ | 2,_,8,_ | 2,_,9,_ | 2,_,10,_ | 2,_,11,_ | 2,_,12,_
 | 3,_,0,_ | 3,_,1,_ | 3,_,2,_ | 3,_,3,_ | 3,_,4,_ | 3,_,5,_ | 3,_,6,_ | 3,_,7,_ | 3,_,8,_ | 3,_,9,_ | 3,_,10,_ | 3,_,11,_ | 3,_,12,_
 | 4,_,0,_ | 4,_,1,_ | 4,_,2,_ | 4,_,3,_ | 4,_,4,_ | 4,_,5,_ | 4,_,6,_ | 4,_,7,_ | 4,_,8,_ | 4,_,9,_ | 4,_,10,_ | 4,_,11,_ | 4,_,12,_=>rfl
 | k+5,hk,_,_=>by
   have:orE.length=5:=rfl
   omega
 | _,_,j+13,hj=>by omega
theorem or_wf0:EnWf (nt 3 0 []):=⟨⟨by decide,by unfold I64;decide⟩,⟨by decide,by unfold I64;decide⟩,by unfold I64;decide,by unfold I64;decide,by unfold I64;decide⟩
theorem or_wf1:EnWf (nt 4 0 []):=⟨⟨by decide,by unfold I64;decide⟩,⟨by decide,by unfold I64;decide⟩,by unfold I64;decide,by unfold I64;decide,by unfold I64;decide⟩
theorem or_wf2:EnWf (ow 1 18 [0] (-1)):=⟨⟨by decide,by unfold I64;decide⟩,⟨by decide,by unfold I64;decide⟩,by unfold I64;decide,by unfold I64;decide,by unfold I64;decide⟩
theorem or_wf3:EnWf (ow 2 19 [2] 2):=⟨⟨by decide,by unfold I64;decide⟩,⟨by decide,by unfold I64;decide⟩,by unfold I64;decide,by unfold I64;decide,by unfold I64;decide⟩
theorem or_wf4:EnWf (ow 3 20 [3] 2):=⟨⟨by decide,by unfold I64;decide⟩,⟨by decide,by unfold I64;decide⟩,by unfold I64;decide,by unfold I64;decide,by unfold I64;decide⟩
theorem orE_wf:∀ k (hk:k<orE.length),EnWf orE[k]
 | 0,_=>or_wf0
 | 1,_=>or_wf1
 | 2,_=>or_wf2
 | 3,_=>or_wf3
 | 4,_=>or_wf4
 | k+5,hk=>by
   have:orE.length=5:=rfl
   omega
theorem orE_key:∀ k (hk:k<orE.length),0<=orE[k].author/\orE[k].author<200:=by decide
theorem or_blk {w:World} {b n:Nat} {l:List Int} (h:w.heap[b]? = some (.cells (l.map fun x=>Value.int .i64 x).toArray 3 (0,0))) (hn:l.length=n) (hw:∀ x∈l,I64 x) (hl:n<=100):kInts.rep (· < w.heap.size) w [.slice (some ⟨b,0,none⟩) n n] l:=by
 subst hn
 have hb:IntsBlk w b l:=h
 exact hb.rep (fun x hx=>iwf (hw x hx)) (Nat.le_refl _) (by unfold maxLen;omega) hb.lt
theorem or_blk1 {w:World} {b n:Nat} {l:List Int} (h:w.heap[b]? = some (.cells (l.map fun x=>Value.int .i64 x).toArray 3 (0,0))) (hn:l.length=n) (hw:∀ x∈l,I64 x) (hl:n<=100) (hp:0<n):kInts.rep (fun g=>g=b) w [.slice (some ⟨b,0,none⟩) n n] l:=by
 rcases or_blk h hn hw hl with ⟨a,c,e,_,hnil⟩ | ⟨b',o,cap,e,h1,h2,_,hel⟩
 · rw [hnil] at hn;simp at hn;omega
 · injection e with e _
   injection e with e1 e2 e3
   injection e1 with e1
   injection e1 with eb eo _
   subst eb eo
   rw [hn] at h1
   exact .inr ⟨b,0,cap,by rw [hn,e3],by rw [hn];exact h1,h2,rfl,hel⟩
theorem or_nil {A:Nat->Prop} {w:World}:kInts.rep A w [.slice none 0 0] []:=.inl ⟨none,0,rfl,Nat.zero_le _,rfl⟩
theorem or_rep {w:World} {a b c:Nat} (ha:w.heap[a]? = some (.cells #[.int .i64 0] 3 (0,0))) (hb:w.heap[b]? = some (.cells #[.int .i64 2] 3 (0,0))) (hc:w.heap[c]? = some (.cells #[.int .i64 3] 3 (0,0))) :
 ∀ k (hk:k<orE.length),EnRep (· < w.heap.size) w orE[k] (orAd a b c k).1 none none (orAd a b c k).2 0 0
 | 0,_=>⟨or_nil,or_nil,.inl ⟨none,0,rfl,Nat.zero_le _,rfl⟩⟩
 | 1,_=>⟨or_nil,or_nil,.inl ⟨none,0,rfl,Nat.zero_le _,rfl⟩⟩
 | 2,_=>⟨or_blk (l:=[0]) ha rfl (by unfold I64;decide) (show 1<=100 by decide),or_nil,.inl ⟨none,0,rfl,Nat.zero_le _,rfl⟩⟩
 | 3,_=>⟨or_blk (l:=[2]) hb rfl (by unfold I64;decide) (show 1<=100 by decide),or_nil,.inl ⟨none,0,rfl,Nat.zero_le _,rfl⟩⟩
 | 4,_=>⟨or_blk (l:=[3]) hc rfl (by unfold I64;decide) (show 1<=100 by decide),or_nil,.inl ⟨none,0,rfl,Nat.zero_le _,rfl⟩⟩
 | k+5,hk=>by
   have:orE.length=5:=rfl
   omega
theorem wp_world33 {P:Program} {Q:Exit->Act->World->Prop} {c:Code} {a:Act} {w w':World} (h:w'=w) (k:c.wp P Q a w'):c.wp P Q a w:=h ▸ k
theorem en_loadO {w:World} {g p:Nat} {e:En} {a1 a2 a3:Option Addr} {c1 c2 c3:Nat} (h:∀ j,j<13->w.cell? ⟨g,p+j,none⟩=(en13 e a1 a2 a3 c1 c2 c3)[j]?):(Instr.loadAt 72 (.pointer (some ⟨g,p,none⟩))).run Tryz.prog w=.ok (enV e a1 a2 a3 c1 c2 c3) w:=by
 have n0:w.cell? ⟨g,p,none⟩=some (.int .i64 e.author):=h 0 (by decide)
 have n1:w.cell? ⟨g,p+1,none⟩=some (.int .i64 e.seq):=h 1 (by decide)
 have n2:w.cell? ⟨g,p+2,none⟩=some (.int .i64 e.day):=h 2 (by decide)
 have n3:w.cell? ⟨g,p+3,none⟩=some (.slice a1 e.knows.length c1):=h 3 (by decide)
 have n4:w.cell? ⟨g,p+4,none⟩=some (.int .i64 e.kind):=h 4 (by decide)
 have n5:w.cell? ⟨g,p+5,none⟩=some (.int .i64 e.circle):=h 5 (by decide)
 have n6:w.cell? ⟨g,p+6,none⟩=some (.int .i64 e.who):=h 6 (by decide)
 have n7:w.cell? ⟨g,p+7,none⟩=some (.int .i64 e.n):=h 7 (by decide)
 have n8:w.cell? ⟨g,p+8,none⟩=some (.int .i64 e.m):=h 8 (by decide)
 have n9:w.cell? ⟨g,p+9,none⟩=some (.int .i64 e.ref):=h 9 (by decide)
 have n10:w.cell? ⟨g,p+10,none⟩=some (.slice a2 e.keys.length c2):=h 10 (by decide)
 have n11:w.cell? ⟨g,p+11,none⟩=some (.slice a3 e.spans.length c3):=h 11 (by decide)
 have n12:w.cell? ⟨g,p+12,none⟩=some (.string ⟨e.text.toArray⟩):=h 12 (by decide)
 clear h
 unfold enV
 unfold Instr.loadAt
 go_simp
theorem en_fieldO (g p:Nat) (w:World):(Instr.fieldAt 72 (.pointer (some ⟨g,p,none⟩)) 0).run Tryz.prog w=.ok (.pointer (some ⟨g,p,none⟩)) w:=by
 unfold Instr.fieldAt
 go_simp
theorem en_index {g k:Nat} (hk:k<5) (w:World):(Instr.indexAt 153 (.slice (some ⟨g,0,none⟩) 5 5) (.int .i64 k)).run Tryz.prog w=.ok (.pointer (some ⟨g,k*13,none⟩)) w:=by
 have hki:(k:Int)<5:=by omega
 unfold Instr.indexAt
 go_simp
theorem orH_of {days:List (Int×Int)} (h:DaysOf orS orH days):seqF orH days=[0,1,2,3,4]/\endsF orH days=[1]:=by
 have e:days=[(2,0)]:=days_of_unique h ⟨fun _=>orH_days,fun q=>absurd orS_ok q⟩
 subst e
 exact orH_seq
theorem orQ_of {days:List (Int×Int)} (h:DaysOf orS orQ days):seqF orQ days=[0,1,2,3]/\endsF orQ days=[]:=by
 have e:days=[]:=days_of_unique h ⟨fun _=>orQ_days,fun q=>absurd orS_ok q⟩
 subst e
 exact orQ_seq
theorem small33_any (w:World) (E:Env w) (hu:UsesIn w) (hz:6<=w.heap.size):Calls Tryz.prog 38 #[] w fun en w'=>en=.returned (.bool true)/\Upd (fun _=>False) w w':=by
 have HE:=hid E;have HU:=hid hu;have HZ:=hid hz
 clear E hu hz
 go_enter Tryz.func38,Tryz.ntmps38
 go_wp2_with fail
 refine (rnew_any w HZ.out).mono ?_
 rintro en x0 ⟨rb,rfl,hrb,hri,u⟩
 have UC:=hid u
 obtain ⟨Or0,hOr0⟩:∃ Or:Nat->Prop,(fun k=>w.heap.size<=k/\k<x0.heap.size)=Or:=⟨_,rfl⟩
 have HO:=hid (show ∀ k,Or0 k->w.heap.size<=k/\k<x0.heap.size by rw [<-hOr0];exact fun k hk=>hk)
 rw [hOr0] at hri
 have HR:=hid hri
 clear hri u hOr0
 go_wp2_with fail
 refine (hnew_any rb _ (Nat.le_trans HZ.out UC.out.size)).mono ?_
 rintro en x1 ⟨bh,rfl,hb,hn,u⟩
 obtain ⟨Oh0,hO⟩:∃ O:Nat->Prop,(fun k=>x0.heap.size<=k/\k<x1.heap.size)=O:=⟨_,rfl⟩
 rw [hO] at hn
 have NEW:=hid (show ∀ k,Oh0 k->x0.heap.size<=k/\k<x1.heap.size by rw [<-hO];exact fun k hk=>hk)
 have HP:=hid (show HPre x1 Oh0 Or0 bh rb [] [] from ⟨hn,⟨HR.out.keep u,HE.out.keep0 (UC.out.trans u),HU.out.keep (UC.out.trans u),Nat.le_trans HZ.out (Nat.le_trans UC.out.size u.size)⟩,His.nil,fun k hk hk'=>by have h1:=(HO.out k hk).2;have h2:=(NEW.out k hk').1;omega,Nat.zero_le _⟩)
 have ZL:=hid (show ∀ k,Oh0 k\/Or0 k->w.heap.size<=k/\k<x1.heap.size from fun k hk=>by
  have s1:=UC.out.size;have s2:=u.size
  rcases hk with q | q
  · have:=NEW.out k q;omega
  · have:=HO.out k q;omega)
 replace UC:=hid (UC.out.trans u)
 clear hn hO hb u HR HO NEW
 
 obtain ⟨X2,hX2⟩:∃ X,X=x1.alloc (.cells #[.int .i64 3] 3 (0,0)):=⟨_,rfl⟩
 obtain ⟨X3,hX3⟩:∃ X,X=X2.alloc (.cells #[.slice (some ⟨x1.heap.size,0,none⟩) 1 1,.int .i64 0,.int .i64 0] 60 (0,0)):=⟨_,rfl⟩
 have u2:Upd (fun _=>False) x1 X2:=by rw [hX2];exact (Upd.refl _ _).alloc _
 have u3:Upd (fun _=>False) X2 X3:=by rw [hX3];exact (Upd.refl _ _).alloc _
 have kb2:X2.heap[x1.heap.size]? = some (.cells #[.int .i64 3] 3 (0,0)):=by rw [hX2];exact heap_alloc_new
 have HB:=hid (show X3.heap[X2.heap.size]? = some (.cells #[.slice (some ⟨x1.heap.size,0,none⟩) 1 1,.int .i64 0,.int .i64 0] 60 (0,0)) by rw [hX3];exact heap_alloc_new)
 have kb3:=(u3.block _ (heap_lt kb2) id).trans kb2
 have ST:=hid (show StpAt X3 (fun g=>g=x1.heap.size) orS (some ⟨x1.heap.size,0,none⟩) 1 from ⟨or_blk1 (l:=[3]) kb3 rfl (by unfold I64;decide) (by decide) (by decide),⟨by decide,by decide⟩,by unfold I64;decide,by unfold I64;decide⟩)
 have U3:=hid (u2.trans u3)
 obtain ⟨kb,hkb⟩:∃ x,x1.heap.size=x:=⟨_,rfl⟩
 obtain ⟨sb,hsb⟩:∃ x,X2.heap.size=x:=⟨_,rfl⟩
 have HSB:=hid (show kb<=sb/\sb<X3.heap.size/\kb=x1.heap.size from ⟨by rw [<-hkb,<-hsb];exact u2.size,heap_lt (by rw [<-hsb];exact HB.out),hkb.symm⟩)
 rw [hkb] at HB ST
 rw [hsb] at HB
 have N2x:=hid (show kb+1=sb by rw [<-hkb,<-hsb,hX2];simp)
 have E2:=hid hX2;have E3:=hid (show X3=X2.alloc (.cells #[.slice (some ⟨kb,0,none⟩) 1 1,.int .i64 0,.int .i64 0] 60 (0,0)) from by rw [<-hkb];exact hX3);have N1:=hid hkb;have N2:=hid hsb
 
 obtain ⟨Y1,hY1⟩:∃ X,X=X3.alloc (.cells #[.int .i64 0] 3 (0,0)):=⟨_,rfl⟩
 obtain ⟨Y2,hY2⟩:∃ X,X=Y1.alloc (.cells #[.int .i64 2] 3 (0,0)):=⟨_,rfl⟩
 obtain ⟨Y3,hY3⟩:∃ X,X=Y2.alloc (.cells #[.int .i64 3] 3 (0,0)):=⟨_,rfl⟩
 obtain ⟨Y4,hY4⟩:∃ X,X=Y3.alloc (.cells (or65 X3.heap.size Y1.heap.size Y2.heap.size) 72 (0,0)):=⟨_,rfl⟩
 have v1:Upd (fun _=>False) X3 Y1:=by rw [hY1];exact (Upd.refl _ _).alloc _
 have v2:Upd (fun _=>False) Y1 Y2:=by rw [hY2];exact (Upd.refl _ _).alloc _
 have v3:Upd (fun _=>False) Y2 Y3:=by rw [hY3];exact (Upd.refl _ _).alloc _
 have v4:Upd (fun _=>False) Y3 Y4:=by rw [hY4];exact (Upd.refl _ _).alloc _
 have c1:Y4.heap[X3.heap.size]? = some (.cells #[.int .i64 0] 3 (0,0)):=by
  have q:Y1.heap[X3.heap.size]? = some (.cells #[.int .i64 0] 3 (0,0)):=by rw [hY1];exact heap_alloc_new
  exact (((v2.trans v3).trans v4).block _ (heap_lt q) id).trans q
 have c2:Y4.heap[Y1.heap.size]? = some (.cells #[.int .i64 2] 3 (0,0)):=by
  have q:Y2.heap[Y1.heap.size]? = some (.cells #[.int .i64 2] 3 (0,0)):=by rw [hY2];exact heap_alloc_new
  exact ((v3.trans v4).block _ (heap_lt q) id).trans q
 have c3:Y4.heap[Y2.heap.size]? = some (.cells #[.int .i64 3] 3 (0,0)):=by
  have q:Y3.heap[Y2.heap.size]? = some (.cells #[.int .i64 3] 3 (0,0)):=by rw [hY3];exact heap_alloc_new
  exact (v4.block _ (heap_lt q) id).trans q
 have c4:Y4.heap[Y3.heap.size]? = some (.cells (or65 X3.heap.size Y1.heap.size Y2.heap.size) 72 (0,0)):=by rw [hY4];exact heap_alloc_new
 have V:=hid (((v1.trans v2).trans v3).trans v4)
 have L3:=hid (show X3.heap.size<=Y3.heap.size from ((v1.trans v2).trans v3).size)
 obtain ⟨a,ha⟩:∃ x,X3.heap.size=x:=⟨_,rfl⟩
 obtain ⟨b,hb⟩:∃ x,Y1.heap.size=x:=⟨_,rfl⟩
 obtain ⟨c,hc⟩:∃ x,Y2.heap.size=x:=⟨_,rfl⟩
 obtain ⟨lb,hlb⟩:∃ x,Y3.heap.size=x:=⟨_,rfl⟩
 have HAL:=hid (show X3.heap.size=a/\a<=b/\b<=c/\c<=lb from ⟨ha,by rw [<-ha,<-hb];exact v1.size,by rw [<-hb,<-hc];exact v2.size,by rw [<-hc,<-hlb];exact v3.size⟩)
 rw [ha] at c1 c4
 rw [hb] at c2 c4
 rw [hc] at c3 c4
 rw [hlb] at c4
 have C1:=hid c1;have C2:=hid c2;have C3:=hid c3;have C4:=hid c4
 have M2x:=hid (show a+1=b/\a+2=c/\a+3=lb/\b+1=c/\c+1=lb/\b+2=lb by
  have s1:Y1.heap.size=X3.heap.size+1:=by rw [hY1];simp
  have s2:Y2.heap.size=Y1.heap.size+1:=by rw [hY2];simp
  have s3:Y3.heap.size=Y2.heap.size+1:=by rw [hY3];simp
  omega)
 have G1:=hid hY1;have G2:=hid hY2;have G3:=hid hY3;have G4:=hid (show Y4=Y3.alloc (.cells (or65 a b c) 72 (0,0)) from by rw [<-ha,<-hb,<-hc];exact hY4)
 have M1:=hid ha;have M2:=hid hb;have M3:=hid hc;have M4:=hid hlb
 have ZLT:=hid (show ∀ k,Oh0 k\/Or0 k->k<kb from fun k hk=>by have:=(ZL.out k hk).2;have:=HSB.out.2.2;omega)
 
 have KEEP:=hid (fun (y:World) (u:Upd (fun j=>Oh0 j\/Or0 j) Y4 y)=>(show y.heap[sb]? = some (.cells #[.slice (some ⟨kb,0,none⟩) 1 1,.int .i64 0,.int .i64 0] 60 (0,0))/\StpAt y (fun g=>g=kb) orS (some ⟨kb,0,none⟩) 1/\y.heap[a]? = some (.cells #[.int .i64 0] 3 (0,0))/\y.heap[b]? = some (.cells #[.int .i64 2] 3 (0,0))/\y.heap[c]? = some (.cells #[.int .i64 3] 3 (0,0))/\y.heap[lb]? = some (.cells (or65 a b c) 72 (0,0)) from by
  have k0:=(V.out.block _ (heap_lt HB.out) id).trans HB.out
  have s:=HSB.out;have t:=HAL.out
  refine ⟨(u.block _ (heap_lt k0) fun q=>by have:=ZLT.out _ q;omega).trans k0,⟨kInts.keep (kInts.keep ST.out.keys (Same.of_upd V.out fun _ _=>id)) (Same.of_upd u fun g hg q=>by have:=ZLT.out _ q;have hg:g=kb:=hg;omega),ST.out.cap,ST.out.liars,ST.out.seed⟩,(u.block _ (heap_lt C1.out) fun q=>by have:=ZLT.out _ q;omega).trans C1.out,(u.block _ (heap_lt C2.out) fun q=>by have:=ZLT.out _ q;omega).trans C2.out,(u.block _ (heap_lt C3.out) fun q=>by have:=ZLT.out _ q;omega).trans C3.out,(u.block _ (heap_lt C4.out) fun q=>by have:=ZLT.out _ q;omega).trans C4.out⟩))
 clear u2 u3 kb2 kb3 hkb hsb hX2 hX3 hY1 hY2 hY3 hY4 v1 v2 v3 v4 c1 c2 c3 c4 ha hb hc hlb
 have HP4:=hid (show HPre Y4 Oh0 Or0 bh rb (orSt 0).2 (orSt 0).1 from HP.out.keep (U3.out.trans V.out))
 have U4:=hid (show Upd (fun _=>False) w Y4 from UC.out.trans (U3.out.trans V.out))
 have X14:=hid (show x1.heap.size<=Y4.heap.size from (U3.out.trans V.out).size)
 clear HP ST HB C1 C2 C3 C4 U3 UC
 go_upto_region 6 with (fail)
 rw [<-E2.out]
 try rw [N1.out]
 rw [<-E3.out]
 try rw [N2.out]
 try rw [N2x.out]
 go_upto_region 7 with (fail)
 rw [<-G1.out]
 try rw [M1.out]
 rw [<-G2.out]
 try rw [M2.out]
 rw [<-G3.out]
 try rw [M3.out]
 try rw [M2x.out.2.2.1]
 try rw [M2x.out.2.1]
 try rw [M2x.out.1]
 try rw [M2x.out.2.2.2.2.2]
 try rw [M2x.out.2.2.2.1]
 try rw [M2x.out.2.2.2.2.1]
 refine wp_world33 (w':=Y4) (G4.out.trans rfl) ?_
 try rw [M4.out]
 clear E2 E3 N1 N2 G1 G2 G3 G4 M1 M2 M3 M4 V
 go_wp2_with fail
 go_loopg [5] 5 (fun gg s5 wr=>∃ k:Nat,k<=5/\gg=5-k/\s5=.int .i64 k/\∃ Oh Or,HPre wr Oh Or bh rb (orSt k).2 (orSt k).1/\(∀ j,Oh j\/Or j->(Oh0 j\/Or0 j)\/Y4.heap.size<=j)/\Upd (fun j=>Oh0 j\/Or0 j) Y4 wr)
 case atStart=>exact ⟨0,Nat.zero_le _,rfl,rfl,Oh0,Or0,HP4.out,fun j hj=>.inl hj,Upd.refl _ _⟩
 case round =>
  obtain ⟨k,hk,hg,rfl,Oh,Or,hp,hd,u⟩:=hrel
  have HG:=hid hg;have HPK:=hid hp;have HD:=hid hd;have UP:=hid u
  have UC:=hid (show Upd (fun _=>False) w wr from U4.out.comp u fun i hi e=>by have:=(ZL.out i e).1;omega)
  clear hg hp hd u HP4
  by_cases hlt:k<5
  case pos =>
   as_aux_lemma =>
   have hlti:(k:Int)<5:=by omega
   have hk1:(k:Int)+1<=1000:=by omega
   have hkL:k<orE.length:=hlt
   have EC:=hid (fun (y:World) (u:Upd (fun j=>Oh0 j\/Or0 j) Y4 y)=>(show ∀ j,j<13->y.cell? ⟨lb,k*13+j,none⟩=(en13 orE[k] (orAd a b c k).1 none none (orAd a b c k).2 0 0)[j]? from fun j hj=>by
    rw [cell_of_block (KEEP.out y u).2.2.2.2.2,or65_get a b c k hkL j hj]))
   have ER:=hid (fun (y:World) (u:Upd (fun j=>Oh0 j\/Or0 j) Y4 y)=>or_rep (KEEP.out y u).2.2.1 (KEEP.out y u).2.2.2.1 (KEEP.out y u).2.2.2.2.1 k hkL)
   have EW:=hid (orE_wf k hkL)
   have NEXT:=hid (orSt_succ hkL);have ADD:=hid (or_add k hkL);have KEY:=hid (orE_key k hkL)
   have TX:=hid (or_txt _ (List.getElem_mem hkL));have LEN:=hid (or_len k (Nat.le_of_lt hkL));have LEN1:=hid (or_len (k+1) hkL)
   obtain ⟨e,he⟩:∃ e,orE[k]=e:=⟨_,rfl⟩
   obtain ⟨a1,ha1⟩:∃ a1,(orAd a b c k).1=a1:=⟨_,rfl⟩
   obtain ⟨cc,hcc⟩:∃ cc,(orAd a b c k).2=cc:=⟨_,rfl⟩
   rw [ha1,hcc,he] at EC ER
   rw [he] at EW NEXT ADD KEY TX
   obtain ⟨R,hR⟩:∃ R,(orSt k).1=R:=⟨_,rfl⟩
   obtain ⟨hs,hhs⟩:∃ hs,(orSt k).2=hs:=⟨_,rfl⟩
   have NX:=hid (show orSt (k+1)=((orSign R e).1,(addF rdF (orSign R e).1 hs (orSign R e).2).1) by rw [NEXT.out];unfold orStep;rw [hR,hhs])
   rw [NX.out] at LEN1
   rw [hR,hhs] at HPK ADD
   rw [hR] at LEN
   clear he ha1 hcc hR hhs NEXT hkL
   go_upto_region 10 with (fail)
   obtain ⟨Wd,hWd⟩:∃ Wd,wr.drew=Wd:=⟨_,rfl⟩
   have UD:=hid (show Upd (fun _=>False) wr Wd by rw [<-hWd];exact (Upd.refl _ _).drew)
   have SHOW:=hid (fun (y:World) (u:Upd (fun _=>False) wr y)=>EC.out y (UP.out.trans (u.mono fun _ q=>q.elim)))
   refine wp_region_g (fun y=>∀ j,j<13->y.cell? ⟨lb,k*13+j,none⟩=(en13 e a1 none none cc 0 0)[j]?) 12 (by kernel_rfl) ?_
   rw [hWd]
   have hS:=SHOW.out Wd UD.out
   clear hWd
   refine g_take0 (i:=0) rfl (by kernel_rfl) (by kernel_rfl) (by kernel_rfl) (by decide) (fun _ _ _ h=>h) (yields_move (by kernel_rfl) _ rfl rfl) (fun _=>hS) ?_
   (try simp only [List.getElem_toArray,List.getElem_cons_zero])
   (try go_frame)
   refine g_take0 (i:=1) rfl (by kernel_rfl) (by kernel_rfl) (by kernel_rfl) (by decide) (fun _ _ _ h=>h) (yields_move (by kernel_rfl) _ rfl rfl) (fun _=>hS) ?_
   (try simp only [List.getElem_toArray,List.getElem_cons_zero,List.getElem_cons_succ])
   (try go_frame)
   refine g_take0 (i:=2) rfl (by kernel_rfl) (by kernel_rfl) (by kernel_rfl) (by decide) (fun _ _ _ h=>h) (yields_move (by kernel_rfl) _ rfl rfl) (fun _=>hS) ?_
   (try simp only [List.getElem_toArray,List.getElem_cons_zero,List.getElem_cons_succ])
   (try go_frame)
   refine g_take0 (i:=3) rfl (by kernel_rfl) (by kernel_rfl) (by kernel_rfl) (by decide) (fun _ _ _ h=>h) (yields_move (by kernel_rfl) _ rfl rfl) (fun _=>hS) ?_
   (try simp only [List.getElem_toArray,List.getElem_cons_zero,List.getElem_cons_succ])
   (try go_frame)
   refine g_take0 (i:=4) rfl (by kernel_rfl) (by kernel_rfl) (by kernel_rfl) (by decide) (fun _ _ _ h=>h) (yields_index (by kernel_rfl) _ _ _ rfl rfl rfl (fun w _=>en_index hlt w)) (fun _=>hS) ?_
   (try simp only [List.getElem_toArray,List.getElem_cons_zero,List.getElem_cons_succ])
   (try go_frame)
   refine g_take0 (i:=5) rfl (by kernel_rfl) (by kernel_rfl) (by kernel_rfl) (by decide) (fun _ _ _ h=>h) (yields_field (by kernel_rfl) _ _ _ rfl rfl (fun w _=>en_fieldO _ _ w)) (fun _=>hS) ?_
   (try simp only [List.getElem_toArray,List.getElem_cons_zero,List.getElem_cons_succ])
   (try go_frame)
   refine g_take (i:=6) rfl (by kernel_rfl) (by kernel_rfl) (by kernel_rfl) (by kernel_rfl) (fun _ _ _ h=>h) (yields_load (by kernel_rfl) _ _ rfl rfl (fun w hw=>int_load0 (x:=e.author) (hw 0 (by decide)))) hS ?_
   (try simp only [List.getElem_toArray,List.getElem_cons_zero,List.getElem_cons_succ])
   (try go_frame)
   refine g_take0 (i:=7) rfl (by kernel_rfl) (by kernel_rfl) (by kernel_rfl) (by decide) (fun _ _ _ h=>h) (yields_move (by kernel_rfl) _ rfl rfl) (fun _=>hS) ?_
   (try simp only [List.getElem_toArray,List.getElem_cons_zero,List.getElem_cons_succ])
   (try go_frame)
   refine g_take0 (i:=8) rfl (by kernel_rfl) (by kernel_rfl) (by kernel_rfl) (by decide) (fun _ _ _ h=>h) (yields_move (by kernel_rfl) _ rfl rfl) (fun _=>hS) ?_
   (try simp only [List.getElem_toArray,List.getElem_cons_zero,List.getElem_cons_succ])
   (try go_frame)
   refine g_take0 (i:=9) rfl (by kernel_rfl) (by kernel_rfl) (by kernel_rfl) (by decide) (fun _ _ _ h=>h) (yields_index (by kernel_rfl) _ _ _ rfl rfl rfl (fun w _=>en_index hlt w)) (fun _=>hS) ?_
   (try simp only [List.getElem_toArray,List.getElem_cons_zero,List.getElem_cons_succ])
   (try go_frame)
   refine g_takeP [12,11] (i:=10) rfl (by kernel_rfl) (by kernel_rfl) (by kernel_rfl) (by kernel_rfl) (fun _ _ _ h=>h) (yields_load (by kernel_rfl) _ _ rfl rfl (fun w hw=>en_loadO hw)) hS ?_
   (try simp only [List.getElem_toArray,List.getElem_cons_zero,List.getElem_cons_succ])
   (try go_frame)
   refine g_op (i:=11) (by kernel_rfl) rfl ?_
   go_wp2_with fail
   refine (text_any e a1 none none cc 0 0 _ (HE.out.keep0 (UC.out.trans UD.out)) (HU.out.keep (UC.out.trans UD.out)) (ER.out _ (UP.out.trans (UD.out.mono fun _ q=>q.elim))) EW.out).mono ?_
   rintro en y1 ⟨rfl,u⟩
   have Y1:=hid (UD.out.trans u)
   clear u
   go_wp2_with fail
   first | (refine ⟨fun _=>SHOW.out y1 Y1.out,?_⟩) | (refine ⟨SHOW.out y1 Y1.out,?_⟩)
   (try simp only [List.getElem_toArray,List.getElem_cons_zero,List.getElem_cons_succ])
   (try go_frame)
   refine g_op (i:=12) (by kernel_rfl) rfl ?_
   go_wp2_with fail
   refine (sign_any (HPK.out.gnd.ring.keep Y1.out) e.author (txtF e) (iwf (by have:=KEY.out;omega)) (Nat.le_trans TX.out (by decide)) (Nat.le_trans LEN.out (by omega))).mono ?_
   rintro en y2 ⟨rfl,Or2,q1,q2,q3⟩
   have Q2:=hid q2
   have SZ1:=hid (show wr.heap.size<=y1.heap.size from Y1.out.size)
   have U2:=hid (show Upd (fun _=>False) w y2 from (UC.out.trans Y1.out).comp q3 fun i hi e=>by
    rcases HD.out i (.inr e) with z | z
    · have:=(ZL.out i z).1;omega
    · have:=X14.out;have:=U4.out.size;omega)
   have UZ2:=hid (show Upd (fun j=>Oh0 j\/Or0 j) Y4 y2 from (UP.out.trans (Y1.out.mono fun _ q=>q.elim)).comp q3 fun i hi e=>(HD.out i (.inr e)).resolve_right (by omega))
   have HP2:=hid (show HPre y2 Oh Or2 bh rb hs (orSign R e).1 from
    ⟨(HPK.out.keep Y1.out).his.upd q3 fun j hj e=>HPK.out.apart j e hj,⟨q1,HE.out.keep0 U2.out,HU.out.keep U2.out,Nat.le_trans HZ.out U2.out.size⟩,(by obtain ⟨x,ex⟩:=sign_grow R e.author (txtF e);show His rdF (signF R e.author (txtF e)).1 hs;rw [ex];exact HPK.out.plain.grow x),
     fun j hj hj'=>(Q2.out j hj).elim (fun z=>HPK.out.apart j z hj') fun z=>by have:=((HPK.out.keep Y1.out).his.lt j hj').2;omega,Nat.le_trans LEN1.out (by omega)⟩)
   have SGS:=hid (show SgSmall (orSign R e).2 from by
    have h:=sign_sg R e.author (txtF e)
    exact ⟨⟨h.1,Int.le_of_lt h.2.1⟩,⟨h.2.2.1,by have:=LEN.out;show (signF R e.author (txtF e)).2.mark<=_;omega⟩,by have:=TX.out;show (signF R e.author (txtF e)).2.text.length<=_;omega⟩)
   have HD2:=hid (show ∀ j,Oh j\/Or2 j->(Oh0 j\/Or0 j)\/Y4.heap.size<=j from fun j hj=>hj.elim (fun z=>HD.out j (.inl z)) fun z=>(Q2.out j z).elim (fun z=>HD.out j (.inr z)) fun z=>.inr (by have:=SZ1.out;have:=UP.out.size;omega))
   rw [show signF R e.author (txtF e)=orSign R e from rfl]
   obtain ⟨sg,hsg⟩:∃ sg,(orSign R e).2=sg:=⟨_,rfl⟩
   rw [hsg] at ADD NX SGS ⊢
   clear q1 q2 q3 hS hsg
   go_wp2_with fail
   try with_reducible refine And.intro (fun h=>absurd h (by simp)) ?_
   refine g_op (i:=13) (by kernel_rfl) rfl ?_
   go_wp2_with fail
   refine (add_any (sg_pre HP2.out SGS.out)).mono ?_
   rintro en y3 ⟨rfl,Oh2,q1,q2,q3⟩
   rw [ADD.out]
   have H3:=hid (HP2.out.grown q3 q1 (HP2.out.plain.add sg) q2)
   have UZ3:=hid (show Upd (fun j=>Oh0 j\/Or0 j) Y4 y3 from UZ2.out.comp q3 fun i hi e=>(HD2.out i (.inl e)).resolve_right (by omega))
   have HD3:=hid (show ∀ j,Oh2 j\/Or2 j->(Oh0 j\/Or0 j)\/Y4.heap.size<=j from fun j hj=>hj.elim (fun z=>(q2 j z).elim (fun z=>HD2.out j (.inl z)) fun z=>.inr (Nat.le_trans UZ2.out.size z)) fun z=>HD2.out j (.inr z))
   clear q1 q2 q3
   go_wp2_with fail
   try with_reducible refine And.intro (fun h=>absurd h (by simp)) ?_
   refine g_op (i:=14) (by kernel_rfl) rfl ?_
   go_wp2_with fail
   try with_reducible refine And.intro (fun h=>absurd h (by simp)) ?_
   refine g_done (by kernel_rfl) ?_
   go_wp2_with fail
   go_roundg (5-(k+1))
   case measure=>have:=HG.out;omega
   case rel=>exact ⟨k+1,by omega,rfl,by go_num,Oh2,Or2,by rw [NX.out];exact H3.out,HD3.out,UZ3.out⟩
  obtain rfl:k=5:=by omega
  have HH:=hid (show HPre wr Oh Or bh rb orH orR by unfold orH orR;exact HPK.out)
  have KE:=hid (fun (y:World) (u:Upd (fun _=>False) wr y)=>KEEP.out y (UP.out.trans (u.mono fun _ q=>q.elim)))
  clear hk hlt HG HD HPK KEEP
  have A1:=hid (show Upd (fun _=>False) wr (wr.alloc (.cells #[.int .i64 1,.int .i64 3] 3 (0,0))) from (Upd.refl _ _).alloc _)
  have RP:=hid (or_blk (w:=wr.alloc (.cells #[.int .i64 1,.int .i64 3] 3 (0,0))) (l:=[1,3]) heap_alloc_new rfl (by unfold I64;decide) (by decide))
  go_wp2_with fail
  refine (hrestrict_any (HH.out.keep A1.out) _ _ [1,3] RP.out).mono ?_
  rintro en z1 ⟨bl,Ol,rfl,q1,q2,u⟩
  have HL:=hid (show HPre z1 Ol Or bl rb orQ orR from (HH.out.keep A1.out).made u q1 orQ_his q2)
  have UZ:=hid (show Upd (fun _=>False) wr z1 from A1.out.trans u)
  clear q1 q2 u A1 RP
  replace HH:=hid (HH.out.keep UZ.out)
  have KL:=hid (show orS.keys.length<=1000 by decide)
  have LTA:=hid (fun (y:World) (u:Upd (fun _=>False) wr y) (g:Nat) (hg:g=kb)=>(show g<y.heap.size from by have h1:=heap_lt (KE.out y u).1;have:=HSB.out;omega))
  obtain ⟨m0,m1,m2⟩:=cells3s (KE.out z1 UZ.out).1
  have ST:=hid (KE.out z1 UZ.out).2.1
  go_wp2_with fail
  refine (sequence_any HH.out ST.out (LTA.out _ UZ.out) KL.out).mono ?_
  rintro en z2 ⟨vA1,vA2,daysA,rfl,hd,_,r1,r2,u⟩
  rw [(orH_of hd).1] at r1
  rw [(orH_of hd).2] at r2
  replace HH:=hid (HH.out.keep u);replace HL:=hid (HL.out.keep u);replace UZ:=hid (UZ.out.trans u)
  have RA1:=hid r1;have RA2:=hid r2
  obtain ⟨aA1,cA1,rfl,_,_⟩:=own_slice r1
  obtain ⟨aA2,cA2,rfl,_,_⟩:=own_slice r2
  clear hd r1 r2 u m0 m1 m2 ST
  obtain ⟨m0,m1,m2⟩:=cells3s (KE.out z2 UZ.out).1
  have ST:=hid (KE.out z2 UZ.out).2.1
  go_wp2_with fail
  refine (sequence_any HL.out ST.out (LTA.out _ UZ.out) KL.out).mono ?_
  rintro en z3 ⟨vB1,vB2,daysB,rfl,hd,_,r1,r2,u⟩
  rw [(orQ_of hd).1] at r1
  rw [(orQ_of hd).2] at r2
  replace HH:=hid (HH.out.keep u);replace HL:=hid (HL.out.keep u);replace UZ:=hid (UZ.out.trans u);replace RA1:=hid (ownsRow_upd RA1.out u fun _ _=>id);replace RA2:=hid (ownsRow_upd RA2.out u fun _ _=>id)
  have RB1:=hid r1;have RB2:=hid r2
  obtain ⟨aB1,cB1,rfl,_,_⟩:=own_slice r1
  obtain ⟨aB2,cB2,rfl,_,_⟩:=own_slice r2
  clear hd r1 r2 u m0 m1 m2 ST
  obtain ⟨m0,m1,m2⟩:=cells3s (KE.out z3 UZ.out).1
  have ST:=hid (KE.out z3 UZ.out).2.1
  have p1:max (Lib.idxOf [0,1,2,3,4] 1) (0:Int)=1:=by decide
  have p2:decide ((0:Int)<=Lib.idxOf [0,1,2,3,4] 1)=true:=by decide
  go_wp2_with fail
  refine (position_any HH.out ST.out (LTA.out _ UZ.out) KL.out 1).mono ?_
  rintro en z4 ⟨days1,hd,rfl,u⟩
  rw [(orH_of hd).1,p1,p2]
  replace HH:=hid (HH.out.keep u);replace HL:=hid (HL.out.keep u);replace UZ:=hid (UZ.out.trans u);replace RA1:=hid (ownsRow_upd RA1.out u fun _ _=>id);replace RA2:=hid (ownsRow_upd RA2.out u fun _ _=>id);replace RB1:=hid (ownsRow_upd RB1.out u fun _ _=>id);replace RB2:=hid (ownsRow_upd RB2.out u fun _ _=>id)
  clear hd u m0 m1 m2 ST p1 p2
  obtain ⟨m0,m1,m2⟩:=cells3s (KE.out z4 UZ.out).1
  have ST:=hid (KE.out z4 UZ.out).2.1
  have p1:max (Lib.idxOf [0,1,2,3,4] 9) (0:Int)=0:=by decide
  have p2:decide ((0:Int)<=Lib.idxOf [0,1,2,3,4] 9)=false:=by decide
  go_wp2_with fail
  refine (position_any HH.out ST.out (LTA.out _ UZ.out) KL.out 9).mono ?_
  rintro en z5 ⟨days9,hd,rfl,u⟩
  rw [(orH_of hd).1,p1,p2]
  replace HH:=hid (HH.out.keep u);replace HL:=hid (HL.out.keep u);replace UZ:=hid (UZ.out.trans u);replace RA1:=hid (ownsRow_upd RA1.out u fun _ _=>id);replace RA2:=hid (ownsRow_upd RA2.out u fun _ _=>id);replace RB1:=hid (ownsRow_upd RB1.out u fun _ _=>id);replace RB2:=hid (ownsRow_upd RB2.out u fun _ _=>id)
  clear hd u m0 m1 m2 ST p1 p2
  clear LTA KL KE HL HH
  have A1:=hid (show Upd (fun _=>False) z5 (z5.alloc (.cells #[.int .i64 0,.int .i64 1,.int .i64 2,.int .i64 3,.int .i64 4] 3 (0,0))) from (Upd.refl _ _).alloc _)
  have RP:=hid (or_blk (w:=z5.alloc (.cells #[.int .i64 0,.int .i64 1,.int .i64 2,.int .i64 3,.int .i64 4] 3 (0,0))) (l:=[0,1,2,3,4]) heap_alloc_new rfl (by unfold I64;decide) (by decide))
  have RO:=hid (kInts.mono (ints_rep (ownsRow_upd RA1.out A1.out fun _ _=>id) (by unfold I64;decide)) fun g (hg:_/\_)=>hg.2)
  go_wp2_with fail
  refine (ints8_any _ _ [0,1,2,3,4] [0,1,2,3,4] _ _ _ RO.out RP.out (fun _ h=>h) (fun _ h=>h)).mono ?_
  rintro en z6 ⟨rfl,u⟩
  rw [decide_eq_true rfl]
  replace UZ:=hid (UZ.out.trans (A1.out.trans u));replace RA2:=hid (ownsRow_upd RA2.out (A1.out.trans u) fun _ _=>id);replace RB1:=hid (ownsRow_upd RB1.out (A1.out.trans u) fun _ _=>id)
  clear u A1 RP RO
  have A1:=hid (show Upd (fun _=>False) z6 (z6.alloc (.cells #[.int .i64 1] 3 (0,0))) from (Upd.refl _ _).alloc _)
  have RP:=hid (or_blk (w:=z6.alloc (.cells #[.int .i64 1] 3 (0,0))) (l:=[1]) heap_alloc_new rfl (by unfold I64;decide) (by decide))
  have RO:=hid (kInts.mono (ints_rep (ownsRow_upd RA2.out A1.out fun _ _=>id) (by unfold I64;decide)) fun g (hg:_/\_)=>hg.2)
  go_wp2_with fail
  refine (ints8_any _ _ [1] [1] _ _ _ RO.out RP.out (fun _ h=>h) (fun _ h=>h)).mono ?_
  rintro en z7 ⟨rfl,u⟩
  rw [decide_eq_true rfl]
  replace UZ:=hid (UZ.out.trans (A1.out.trans u));replace RB1:=hid (ownsRow_upd RB1.out (A1.out.trans u) fun _ _=>id)
  clear u A1 RP RO
  have A1:=hid (show Upd (fun _=>False) z7 (z7.alloc (.cells #[.int .i64 0,.int .i64 1,.int .i64 2,.int .i64 3] 3 (0,0))) from (Upd.refl _ _).alloc _)
  have RP:=hid (or_blk (w:=z7.alloc (.cells #[.int .i64 0,.int .i64 1,.int .i64 2,.int .i64 3] 3 (0,0))) (l:=[0,1,2,3]) heap_alloc_new rfl (by unfold I64;decide) (by decide))
  have RO:=hid (kInts.mono (ints_rep (ownsRow_upd RB1.out A1.out fun _ _=>id) (by unfold I64;decide)) fun g (hg:_/\_)=>hg.2)
  go_wp2_with fail
  refine (ints8_any _ _ [0,1,2,3] [0,1,2,3] _ _ _ RO.out RP.out (fun _ h=>h) (fun _ h=>h)).mono ?_
  rintro en z8 ⟨rfl,u⟩
  rw [decide_eq_true rfl]
  replace UZ:=hid (UZ.out.trans (A1.out.trans u))
  clear u A1 RP RO
  go_wp2_with fail
  go_ret
  exact ⟨rfl,UC.out.trans UZ.out⟩
end Go.Proofs.YtjkmalddfoemhaaGreatDoor
