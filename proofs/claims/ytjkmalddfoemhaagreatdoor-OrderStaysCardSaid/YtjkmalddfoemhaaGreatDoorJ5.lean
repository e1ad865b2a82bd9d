/- Walks: numbers. -/
import Derived.Test.YtjkmalddfoemhaaGreatDoorJ2
import Derived.Test.YtjkmalddfoemhaaGreatDoorJ3
import Derived.Test.YtjkmalddfoemhaaGreatDoorCEnNrm
import Derived.Test.YtjkmalddfoemhaaGreatDoorSortS
import Derived.Test.YtjkmalddfoemhaaGreatDoorShelf
import Derived.Test.YtjkmalddfoemhaaGreatDoorJ1
import Derived.Shelf.SlicesG.Turned
import Derived.Shelf.SlSortCmp.WholeK
import Derived.Shelf.SlSortCmp.NoneTotal
import Derived.Deep.RegionHeld3
import Derived.Shelf.SlicesQ.IndexFunc
import Derived.Lib.AppendZeros
set_option maxRecDepth 100000
set_option maxHeartbeats 40000000
namespace Go.Proofs.YtjkmalddfoemhaaGreatDoor
open Go.RowKit Go.Deep
theorem numbers_any (e:En) (hk:0<=e.kind/\e.kind<21) (a1 a2 a3:Option Addr) (c1 c2 c3:Nat) (w:World):Calls Tryz.prog 207 #[enV e a1 a2 a3 c1 c2 c3] w fun en w'=>en=.returned (.bool (decide (numbersP e)))/\Upd (fun _=>False) w w':=by
 have h:e.kind=0\/e.kind=1\/e.kind=2\/e.kind=3\/e.kind=4\/e.kind=5\/e.kind=6\/e.kind=7\/e.kind=8\/e.kind=9\/e.kind=10\/e.kind=11\/e.kind=12\/e.kind=13\/e.kind=14\/e.kind=15\/e.kind=16\/e.kind=17\/e.kind=18\/e.kind=19\/e.kind=20:=by omega
 clear hk
 unfold enV
 rcases h with hk | hk | hk | hk | hk | hk | hk | hk | hk | hk | hk | hk | hk | hk | hk | hk | hk | hk | hk | hk | hk<;>(
 rw [hk]
 have HK:=hid hk
 clear hk
 go_enter Tryz.func207,Tryz.ntmps207
 go_wp2_with (first
  | (go_at_call 204;refine (mark_any _ _).mono ?_;rintro e w' ⟨rfl,rfl⟩)
  | (go_at_call 200;refine (key_any _ _).mono ?_;rintro e w' ⟨rfl,rfl⟩)
  | (go_at_call 201;refine (day_any _ _).mono ?_;rintro e w' ⟨rfl,rfl⟩))
 all_goals
  go_ret
  refine ⟨?_,(Upd.refl _ _).alloc _⟩
  have hk:=HK.out
  clear HK
  refine ret_b ?_
  try simp only [Bool.or_eq_true,decide_eq_true_eq,beq_iff_eq,bne_iff_ne,Bool.false_eq_true,false_iff,true_iff,ne_eq]
  try simp only [numbersP,hk,markP,dayP,keyP,coinsP,Int.reduceEq,if_true,if_false,or_self,or_true,or_false,ne_eq] at *
  first | done | omega | exact decide_eq_true_iff (p:=markP _) | exact decide_eq_true_iff (p:=dayP _) | simp_all)
end Go.Proofs.YtjkmalddfoemhaaGreatDoor
namespace Go.Proofs.YtjkmalddfoemhaaGreatDoor
open Go.RowKit Go.Deep
def en13 (e:En) (a1 a2 a3:Option Addr) (c1 c2 c3:Nat):Array Value:=#[.int .i64 e.author,.int .i64 e.seq,.int .i64 e.day,.slice a1 e.knows.length c1,.int .i64 e.kind,.int .i64 e.circle,.int .i64 e.who,.int .i64 e.n,.int .i64 e.m,.int .i64 e.ref,.slice a2 e.keys.length c2,.slice a3 e.spans.length c3,.string ⟨e.text.toArray⟩]
structure EnRep (A:Nat->Prop) (w:World) (e:En) (a1 a2 a3:Option Addr) (c1 c2 c3:Nat):Prop where
 knows:kInts.rep A w [.slice a1 e.knows.length c1] e.knows
 keys:kInts.rep A w [.slice a2 e.keys.length c2] e.keys
 spans:kSps.rep A w [.slice a3 e.spans.length c3] e.spans
theorem EnRep.keep {A:Nat->Prop} {w w':World} {e:En} {a1 a2 a3:Option Addr} {c1 c2 c3:Nat} (h:EnRep A w e a1 a2 a3 c1 c2 c3) (u:Upd (fun _=>False) w w'):EnRep A w' e a1 a2 a3 c1 c2 c3 :=
 ⟨kInts.keep h.knows (Same.of_upd u fun _ _=>id),kInts.keep h.keys (Same.of_upd u fun _ _=>id),kSps.keep h.spans (Same.of_upd u fun _ _=>id)⟩
theorem cells13 {w:World} {p:Nat} {e:En} {a1 a2 a3:Option Addr} {c1 c2 c3:Nat} {t:TypeId} (h:w.heap[p]? = some (.cells (en13 e a1 a2 a3 c1 c2 c3) t (0,0))) :
 w.cell? ⟨p,0,none⟩=some (.int .i64 e.author)/\w.cell? ⟨p,1,none⟩=some (.int .i64 e.seq)/\w.cell? ⟨p,2,none⟩=some (.int .i64 e.day)/\w.cell? ⟨p,3,none⟩=some (.slice a1 e.knows.length c1)/\w.cell? ⟨p,4,none⟩=some (.int .i64 e.kind)/\w.cell? ⟨p,5,none⟩=some (.int .i64 e.circle)/\w.cell? ⟨p,6,none⟩=some (.int .i64 e.who)/\w.cell? ⟨p,7,none⟩=some (.int .i64 e.n)/\w.cell? ⟨p,8,none⟩=some (.int .i64 e.m)/\w.cell? ⟨p,9,none⟩=some (.int .i64 e.ref)/\w.cell? ⟨p,10,none⟩=some (.slice a2 e.keys.length c2)/\w.cell? ⟨p,11,none⟩=some (.slice a3 e.spans.length c3)/\w.cell? ⟨p,12,none⟩=some (.string ⟨e.text.toArray⟩):=by
 refine ⟨?_,?_,?_,?_,?_,?_,?_,?_,?_,?_,?_,?_,?_⟩<;>(rw [cell_of_block h];rfl)
theorem kinds_any (k:Int) (w:World):Calls Tryz.prog 132 #[.slice (some ⟨w.heap.size,0,none⟩) 3 3,.int .i64 k] (w.alloc (.cells #[.int .i64 5,.int .i64 6,.int .i64 7] 3 (0,0)))
 fun e w'=>e=.returned (.bool (decide (k=5\/k=6\/k=7)))/\Upd (fun _=>False) w w':=by
 have h:=AnyG.slices_Contains_int Tryz.containsA w.heap.size 0 3 3 [5,6,7] k (w.alloc (.cells #[.int .i64 5,.int .i64 6,.int .i64 7] 3 (0,0))) (by decide) (by decide) (fun j hj=>by
  have:j=0\/j=1\/j=2:=by simp at hj;omega
  rw [cell_of_block heap_alloc_new]
  rcases this with rfl | rfl | rfl<;>rfl)
 refine h.mono fun e w' ⟨he,hw⟩=>⟨?_,by rw [hw];exact (Upd.refl _ _).alloc _⟩
 rw [he]
 refine ret_b ?_
 simp
theorem kinds_yes (k:Int) (h:k=5\/k=6\/k=7) (w:World):Calls Tryz.prog 132 #[.slice (some ⟨w.heap.size,0,none⟩) 3 3,.int .i64 k] (w.alloc (.cells #[.int .i64 5,.int .i64 6,.int .i64 7] 3 (0,0)))
 fun e w'=>e=.returned (.bool true)/\Upd (fun _=>False) w w':=(kinds_any k w).mono fun _ _ g=>⟨by rw [g.1,decide_eq_true h],g.2⟩
theorem kinds_no (k:Int) (h:¬(k=5\/k=6\/k=7)) (w:World):Calls Tryz.prog 132 #[.slice (some ⟨w.heap.size,0,none⟩) 3 3,.int .i64 k] (w.alloc (.cells #[.int .i64 5,.int .i64 6,.int .i64 7] 3 (0,0)))
 fun e w'=>e=.returned (.bool false)/\Upd (fun _=>False) w w':=(kinds_any k w).mono fun _ _ g=>⟨by rw [g.1,decide_eq_false h],g.2⟩
theorem or_no {A B:Prop} (h:A\/¬B) (hb:B) (ha:¬A):False:=h.elim ha fun g=>g hb
theorem or_no3 {e:En} (h:e.spans=[]\/40<(e.spans.length:Int)\/¬nrmP e.spans) (hb:nrmP e.spans) (ha:¬40<(e.spans.length:Int)) (g1:e.spans≠[]):False:=h.elim g1 fun h=>h.elim ha fun g=>g hb
theorem or_no4 {e:En} (h:(((e.spans.length:Int)==0)=true\/40<(e.spans.length:Int))\/¬nrmP e.spans) (hb:nrmP e.spans) (ha:¬40<(e.spans.length:Int)) (g1:e.spans≠[]):False :=
 h.elim (fun h=>h.elim (fun h=>g1 (List.length_eq_zero_iff.1 (by have:=beq_iff_eq.1 h;omega))) ha) fun g=>g hb
theorem nd_f {p:Prop} [Decidable p]:((!decide p)=false)=p:=by simp
theorem nd_t {p:Prop} [Decidable p]:((!decide p)=true)=¬p:=by simp
theorem slice_caps {α:Type} {K:Knd α} {A:Nat->Prop} {w:World} {a:Option Addr} {c:Nat} {l:List α} (h:(kSlice K).rep A w [.slice a l.length c] l):l.length<=c/\c<=9223372036854775807:=by
 obtain ⟨_,_,hv,h1,h2,_⟩:=slice_open h
 injection hv with _ _ e
 subst e
 exact ⟨h1,h2⟩
end Go.Proofs.YtjkmalddfoemhaaGreatDoor
namespace Go.Proofs.YtjkmalddfoemhaaGreatDoor
open Go.RowKit Go.Deep Go.Sort
end Go.Proofs.YtjkmalddfoemhaaGreatDoor
namespace Go.Proofs.YtjkmalddfoemhaaGreatDoor
open Go.RowKit Go.Deep Go.Sort
end Go.Proofs.YtjkmalddfoemhaaGreatDoor
namespace Go.Proofs.YtjkmalddfoemhaaGreatDoor
open Go.RowKit Go.Deep
end Go.Proofs.YtjkmalddfoemhaaGreatDoor
namespace Go.Proofs.YtjkmalddfoemhaaGreatDoor
open Go.RowKit Go.Deep
end Go.Proofs.YtjkmalddfoemhaaGreatDoor
namespace Go.Proofs.YtjkmalddfoemhaaGreatDoor
open Go.RowKit Go.Deep
end Go.Proofs.YtjkmalddfoemhaaGreatDoor
namespace Go.Proofs.YtjkmalddfoemhaaGreatDoor
open Go.RowKit Go.Deep
end Go.Proofs.YtjkmalddfoemhaaGreatDoor
namespace Go.Proofs.YtjkmalddfoemhaaGreatDoor
open Go.RowKit Go.Deep
theorem append_lit {P:Program} {t e:TypeId} {size bytes:Nat} (T:ElemTy P t e size bytes) {w:World} {base:Nat} {v:Value} {n:Nat} {xs:List Value} (hown:w.ownsRow base e size v n xs)
 (cells:Array Value) (m:Nat) (hc:cells.size=m*size) (h1:∀ u∈cells,u.oneCell'=true) (h63:n+m<=maxLen) (hbytes:(n+m)*bytes<=140737488355328) (hbase:base<=w.heap.size) (ty:TypeId) (fr:Nat×Nat) :
 ∃ v' w',(Builtin.append_ #[t,t] ty #[v,.slice (some ⟨w.heap.size,0,none⟩) m m]).run P (w.alloc (.cells cells e fr))=.ok v' w'/\w'.ownsRow base e size v' (n+m) (xs++cells.toList) ∧
   Upd (fun k=>v.ownBlock=some k) w w'/\(v'.ownBlock=v.ownBlock\/∃ g,v'.ownBlock=some g/\w.heap.size<g):=by
 obtain ⟨v',w',hr,h2,h3,h4⟩:=append_own2 T (hown.alloc (.cells cells e fr)) ⟨w.heap.size,0,none⟩ m m cells.toList (by simp [hc]) (fun j u hu=>by
  have e1:Addr.add ⟨w.heap.size,0,none⟩ j=⟨w.heap.size,j,none⟩:=by unfold Addr.add;split<;>simp_all
  rw [e1,cell_of_block heap_alloc_new]
  simpa using hu) (by simpa using h1) h63 hbytes (by simp;omega) ty
 refine ⟨v',w',hr,h2,((Upd.refl _ w).alloc _).grown h3 (fun k hk=>.inl hk),?_⟩
 rcases h4 with h4 | ⟨g,hg,hs⟩
 · exact .inl h4
 · exact .inr ⟨g,hg,by simp at hs;omega⟩
end Go.Proofs.YtjkmalddfoemhaaGreatDoor
namespace Go.Proofs.YtjkmalddfoemhaaGreatDoor
open Go.RowKit Go.Deep
end Go.Proofs.YtjkmalddfoemhaaGreatDoor
