/- Appending to a slice that the call owns, one element at a time, and what such a slice reads as. -/
import Derived.Test.YtjkmalddfoemhaaGreatDoorJ1
import Derived.Deep.LoopGhost
import Derived.Deep.QuietTactic
import Derived.BigQuiet
import Derived.Deep.RegionWith
import Derived.Deep.RegionLaw
import Derived.Deep.Cut
import Derived.Deep.CutRange
import Derived.Deep.DeepCutAuto
import Derived.Lib.SliceRun
import Derived.Laws.OwnMore
import Derived.Laws.IdiomCopy
import Derived.Shelf.Abstract
import Derived.OrdersHeld
import Derived.Deep.RegionHeld
import Derived.Maps.RangeWalk
import Derived.Laws.StructEq
import Derived.Maps.OwnSet
import Derived.Maps.Views
namespace Go.Proofs.YtjkmalddfoemhaaGreatDoor
open Go.RowKit Go.ChangeShapes Go.WideShapes Go.Deep
structure ElemTy (P:Program) (t e:TypeId) (size bytes:Nat):Prop where
 ht:P.underlying t=some (.slice e)
 hi:∃ i z,P.info? e=some i/\i.zero=some z/\i.size=size/\i.bytes=bytes/\z.cells.size=size
 pos:0<size
theorem ElemTy.mk' {P:Program} {t e:TypeId} {size bytes:Nat} {z:Value} (ht:P.underlying t=some (.slice e)) (h:(P.info? e).map (fun i=>(i.zero,i.size,i.bytes))=some (some z,size,bytes)) (hz:z.cells.size=size) (pos:0<size) :
 ElemTy P t e size bytes:=by
 obtain ⟨i0,hi,hz0,hz1,hz2⟩:=info_parts h
 exact ⟨ht,⟨i0,z,hi,hz0,hz1,hz2,hz⟩,pos⟩
section
variable {P:Program}
theorem append_own2 {t e:TypeId} {size bytes:Nat} (T:ElemTy P t e size bytes) {w:World} {base:Nat} {v:Value} {n:Nat} {xs:List Value} (hown:w.ownsRow base e size v n xs)
 (ad:Addr) (m c:Nat) (news:List Value) (hl:news.length=m*size) (hnews:∀ j u,news[j]? = some u->w.cell? (ad.add j)=some u) (h1:∀ u∈news,u.oneCell'=true)
 (h63:n+m<=maxLen) (hbytes:(n+m)*bytes<=140737488355328) (hbase:base<=w.heap.size) (ty:TypeId) :
 ∃ v' w',(Builtin.append_ #[t,t] ty #[v,.slice (some ad) m c]).run P w=.ok v' w'/\w'.ownsRow base e size v' (n+m) (xs++news)/\w.grownBy w' v.ownBlock ∧
   (v'.ownBlock=v.ownBlock\/∃ g,v'.ownBlock=some g/\w.heap.size<=g):=by
 obtain ⟨ht,⟨i,z,hi,hz,hsz,hby,hzs⟩,hpos⟩:=T
 obtain ⟨v',w',hr,h2,h3,h4⟩:=run_append_own (P:=P) w base t ty e i z size bytes ht hi hz hsz hby hzs hpos v n xs hown ad m c news hl hnews h1 h63 hbytes hbase
 refine ⟨v',w',hr,h2,h3,?_⟩
 rcases hown.2 with ⟨rfl,rfl⟩ | ⟨g,cap,cur,rfl,hbg,hg,hnc,hcm,hcs,htake⟩
 · by_cases hm:m=0
   · exact .inl (by rw [h4.2 ⟨rfl,hm⟩])
   · have hr2:=run_append_nil (P:=P) w t ty e i z ht hi hz ad m c news (by rw [hsz];exact hl) hnews (by omega) (by unfold maxLen at h63;omega) (by rw [hby];simp only [Nat.zero_add] at hbytes;omega)
     rw [hr2] at hr
     injection hr with hv _
     exact .inr ⟨_,by rw [<-hv];rfl,Nat.le_refl _⟩
 · by_cases hroom:n+m<=cap
   · have hfit:n*i.size+news.length<=cur.size:=by rw [hl,hcs,hsz,<-Nat.add_mul];exact Nat.mul_le_mul_right _ hroom
     have hr2:=run_append_room (P:=P) w t ty e i ht hi g n cap cur hg ad m c news (by rw [hsz];exact hl) hnews h1 hroom hfit
     rw [hr2] at hr
     injection hr with hv _
     exact .inl (by rw [<-hv];rfl)
   · have holds:∀ j u,xs[j]? = some u->w.cell? ((⟨g,0,none⟩:Addr).add j)=some u:=hown.cells (g:=g) rfl
     have hr2:=run_append_grow (P:=P) w t ty e i z ht hi hz ⟨g,0,none⟩ n cap xs (by rw [hsz];exact hown.1) holds ad m c news (by rw [hsz];exact hl) hnews (by omega) (by unfold maxLen at h63;omega) (growslice_fits (by omega) (by rw [hby];exact hbytes))
     rw [hr2] at hr
     injection hr with hv _
     exact .inr ⟨_,by rw [<-hv];rfl,Nat.le_refl _⟩
theorem append_one {t e:TypeId} {size bytes:Nat} (T:ElemTy P t e size bytes) {w:World} {base:Nat} {v:Value} {n:Nat} {xs:List Value} (hown:w.ownsRow base e size v n xs)
 (cells:Array Value) (hc:cells.size=size) (h1:∀ u∈cells,u.oneCell'=true) (h63:n+1<=maxLen) (hbytes:(n+1)*bytes<=140737488355328) (hbase:base<=w.heap.size) (ty:TypeId) (fr:Nat×Nat) :
 ∃ v' w',(Builtin.append_ #[t,t] ty #[v,.slice (some ⟨w.heap.size,0,none⟩) 1 1]).run P (w.alloc (.cells cells e fr))=.ok v' w'/\w'.ownsRow base e size v' (n+1) (xs++cells.toList) ∧
   Upd (fun k=>v.ownBlock=some k) w w'/\(v'.ownBlock=v.ownBlock\/∃ g,v'.ownBlock=some g/\w.heap.size<g):=by
 obtain ⟨v',w',hr,h2,h3,h4⟩:=append_own2 T (hown.alloc (.cells cells e fr)) ⟨w.heap.size,0,none⟩ 1 1 cells.toList (by simp [hc]) (fun j u hu=>by
  have e1:Addr.add ⟨w.heap.size,0,none⟩ j=⟨w.heap.size,j,none⟩:=by unfold Addr.add;split<;>simp_all
  rw [e1,cell_of_block heap_alloc_new]
  simpa using hu) (by simpa using h1) h63 hbytes (by simp;omega) ty
 refine ⟨v',w',hr,h2,((Upd.refl _ w).alloc _).grown h3 (fun k hk=>.inl hk),?_⟩
 rcases h4 with h4 | ⟨g,hg,hs⟩
 · exact .inl h4
 · exact .inr ⟨g,hg,by simp at hs;omega⟩
theorem ownsRow_upd {S:Nat->Prop} {w w':World} {base:Nat} {e:TypeId} {size:Nat} {v:Value} {n:Nat} {xs:List Value} (h:w.ownsRow base e size v n xs) (u:Upd S w w') (hS:∀ g,v.ownBlock=some g->¬S g) :
 w'.ownsRow base e size v n xs:=by
 obtain ⟨h1,h2⟩:=h
 refine ⟨h1,?_⟩
 rcases h2 with h2 | ⟨g,cap,cur,rfl,hb,hg,r⟩
 · exact .inl h2
 · exact .inr ⟨g,cap,cur,rfl,hb,by rw [u.block g (heap_lt hg) (hS g rfl)];exact hg,r⟩
theorem ownsRow_fits {w:World} {base:Nat} {e:TypeId} {size:Nat} {v:Value} {n:Nat} {xs:List Value} (h:w.ownsRow base e size v n xs):(v=.slice none 0 0/\n=0)\/∃ g cap,v=.slice (some ⟨g,0,none⟩) n cap/\base<=g/\g<w.heap.size/\n<=cap/\cap<=maxLen:=by
 rcases h.2 with h2 | ⟨g,cap,cur,rfl,hb,hg,h3,h4,_⟩
 · exact .inl h2
 · exact .inr ⟨g,cap,rfl,hb,heap_lt hg,h3,h4⟩
theorem ownsRow_rep {α:Type} {K:Knd α} {A:Nat->Prop} {w:World} {base:Nat} {e:TypeId} {v:Value} {l:List α} {xs:List Value} (h:w.ownsRow base e K.size v l.length xs)
 (hx:∀ i (hi:i<l.length),∃ cs,K.rep A w cs l[i]/\∀ j,j<K.size->xs[i*K.size+j]? = cs[j]?) (hA:∀ g,v.ownBlock=some g->A g):(kSlice K).rep A w [v] l:=by
 obtain ⟨h1,⟨rfl,h0⟩ | ⟨g,cap,cur,rfl,hb,hg,hn,hc,hs,ht⟩⟩:=h
 · exact .inl ⟨none,0,rfl,Nat.zero_le _,List.length_eq_zero_iff.1 h0⟩
 · refine .inr ⟨g,0,cap,rfl,hn,hc,hA g rfl,fun i hi=>?_⟩
   obtain ⟨cs,r,hcs⟩:=hx i hi
   refine ⟨cs,r,fun j hj=>?_⟩
   rw [K.len r] at hj
   rw [<-hcs j hj,cell_of_block hg,<-ht,List.getElem?_take,if_pos,Nat.zero_add,Array.getElem?_toList]
   calc i*K.size+j<i*K.size+K.size:=by omega
    _=(i+1)*K.size:=by rw [Nat.add_mul,Nat.one_mul]
    _<=l.length*K.size:=Nat.mul_le_mul_right _ hi
theorem ownsRow_rep1 {α:Type} {K:Knd α} (h1:K.size=1) {A:Nat->Prop} {w:World} {base:Nat} {e:TypeId} {v:Value} {l:List α} (f:α->Value) (h:w.ownsRow base e 1 v l.length (l.map f))
 (hx:∀ x∈l,K.rep A w [f x] x) (hA:∀ g,v.ownBlock=some g->A g):(kSlice K).rep A w [v] l:=by
 refine ownsRow_rep (e:=e) (xs:=l.map f) (by rw [h1];exact h) (fun i hi=>⟨_,hx _ (List.getElem_mem hi),fun j hj=>?_⟩) hA
 rw [h1] at hj ⊢
 obtain rfl:j=0:=by omega
 simp [hi]
end
end Go.Proofs.YtjkmalddfoemhaaGreatDoor
namespace Go.Proofs.YtjkmalddfoemhaaGreatDoor
open Go.RowKit Go.Deep
theorem step_append_run {P:Program} {ops:Array Oper} {o:Oper} {a:Act} {w w':World} {K:Act->World->Prop} {Q:Exit->Act->World->Prop} {E:Prop}
 (hg:o.guard=none) (s x:Operand) (t t':TypeId) (hop:o.op=Op.call { callee:=Callee.builtin Builtin.append,args:=#[s,x],argTypes:=#[t,t'] })
 {v0 v1 v':Value} (hs:a.eval s=v0) (hx:a.eval x=v1) (hrun:(Builtin.append_ #[t,t'] o.type #[v0,v1]).run P w=.ok v' w') (hK:K (a.put o.dst v') w') :
 if Region.wanted o (yielded ops a.tmps)=true then Oper.wp P o a w K Q else E:=by
 have hw:Region.wanted o (yielded ops a.tmps)=true:=by simp [Region.wanted,hg]
 rw [if_pos hw]
 unfold Oper.wp execOp
 simp only [hop,resolve,invoke,builtin,Sem.run_bind,Sem.run_pure,Result.andThen_ok,List.map_toArray,List.map_cons,List.map_nil,hs,hx,hrun]
 exact hK
theorem slice_at {α:Type} {K:Knd α} {A:Nat->Prop} {w:World} {a:Option Addr} {n cap:Nat} {l:List α} (h:(kSlice K).rep A w [.slice a n cap] l) (hpos:0<l.length) :
 ∃ b o,a=some ⟨b,o,none⟩/\A b/\Elems K A w b o l:=by
 obtain ⟨a',cap',e,_,_,h3⟩:=slice_open h
 injection e with e1 _ _
 subst e1
 exact h3 hpos
theorem Upd.comp {S T:Nat->Prop} {a b c:World} (h:Upd S a b) (k:Upd T b c) (hT:∀ i,i<a.heap.size->T i->S i):Upd S a c :=
 ⟨k.os.trans h.os,k.tape.trans h.tape,k.output.trans h.output,Nat.le_trans h.size k.size,fun i hi hs=>(k.block i (Nat.lt_of_lt_of_le hi h.size) fun ht=>hs (hT i hi ht)).trans (h.block i hi hs)⟩
theorem heap_setCells (b:Nat) (t:TypeId) (fr:Nat×Nat):∀ (vs:List Value) (o:Nat) (w:World) (cs:List Value),w.heap[b]? = some (.cells cs.toArray t fr)->o+vs.length<=cs.length →
 (w.setCells b o vs).heap[b]? = some (.cells (cs.take o++(vs++cs.drop (o+vs.length))).toArray t fr)
 | [],o,w,cs,h,_=>by
   rw [World.setCells,h];simp
 | v::vs,o,w,cs,h,hs=>by
   have h1:(w.setCell ⟨b,o,none⟩ v).heap[b]? = some (.cells (cs.set o v).toArray t fr):=by
    have:=heap_setCell_same (p:=⟨b,o,none⟩) (u:=v) rfl h
    simpa using this
   have:=heap_setCells b t fr vs (o+1) (w.setCell ⟨b,o,none⟩ v) (cs.set o v) h1 (by simp at hs ⊢;omega)
   rw [World.setCells,this]
   simp only [List.length_cons] at hs ⊢
   congr 3
   rw [List.take_add_one,List.getElem?_set_self (by omega),List.take_set_of_le (Nat.le_refl o),List.drop_set_of_lt (by omega)]
   simp
   rw [show o+1+vs.length=o+(vs.length+1) by omega]
theorem upd_setCells' {S:Nat->Prop} {a:World} (b:Nat) (hb:S b\/a.heap.size<=b):∀ (vs:List Value) (o:Nat) (w:World),Upd S a w->Upd S a (w.setCells b o vs)
 | [],_,_,h=>h
 | v::vs,o,w,h=>upd_setCells' b hb vs (o+1) (w.setCell ⟨b,o,none⟩ v) (h.setCell _ v hb)
theorem wfi {x:Int} (h:(Lit.int .i64 x).wf=true):-9223372036854775808<=x/\x<=9223372036854775807:=bounds_i64 h
theorem iwf {x:Int} (h:-9223372036854775808<=x/\x<=9223372036854775807):(Lit.int .i64 x).wf=true:=by simp [Lit.wf,IntKind.min,IntKind.max,IntKind.signed,IntKind.bits];omega
def kInts:Knd (List Int):=kSlice (kInt .i64)
theorem reads_ints:Reads Tryz.prog 30 kInts:=reads_slice Tryz.underlying30 (by kernel_rfl) (reads_int Tryz.underlying3 (by kernel_rfl)) (by decide)
theorem int_cells {k:IntKind} {A:Nat->Prop} {w:World} {b o:Nat} {l:List Int} (h:Elems (kInt k) A w b o l) {j:Nat} (hk:j<l.length) :
 w.cell? ⟨b,o+j,none⟩=some (.int k l[j]):=by
 obtain ⟨cs,h1,h2⟩:=h.cell hk
 obtain ⟨rfl,_⟩:=h1
 have:=h2 0 (Nat.lt_succ_self 0)
 rw [show (kInt k).size=1 from rfl,Nat.mul_one] at this
 exact this
def IntsBlk (w:World) (b:Nat) (l:List Int):Prop:=w.heap[b]? = some (.cells (l.map (Value.int .i64)).toArray 3 (0,0))
theorem IntsBlk.lt {w:World} {b:Nat} {l:List Int} (h:IntsBlk w b l):b<w.heap.size:=heap_lt h
theorem IntsBlk.cell {w:World} {b:Nat} {l:List Int} (h:IntsBlk w b l) {k:Nat} (hk:k<l.length):w.cell? ⟨b,k,none⟩=some (.int .i64 l[k]):=by
 rw [cell_of_block h];simp [hk]
theorem IntsBlk.frozen {w:World} {b:Nat} {l:List Int} (h:IntsBlk w b l) (k:Nat):w.frozen? ⟨b,k,none⟩=false:=frozen_of_block h
theorem IntsBlk.set {w:World} {b:Nat} {l:List Int} (h:IntsBlk w b l) (k:Nat) (x:Int):IntsBlk (w.setCell ⟨b,k,none⟩ (.int .i64 x)) b (l.set k x):=by
 have:=heap_setCell_same (p:=⟨b,k,none⟩) (u:=.int .i64 x) rfl h
 unfold IntsBlk
 rw [this]
 simp [List.map_set]
theorem IntsBlk.upd {S:Nat->Prop} {w w':World} {b:Nat} {l:List Int} (h:IntsBlk w b l) (u:Upd S w w') (hb:¬S b):IntsBlk w' b l:=by
 unfold IntsBlk;rw [u.block b h.lt hb];exact h
theorem IntsBlk.rep {A:Nat->Prop} {w:World} {b cap:Nat} {l:List Int} (h:IntsBlk w b l) (hwf:∀ x∈l,(Lit.int .i64 x).wf=true) (hc:l.length<=cap) (hm:cap<=maxLen) (hA:A b):kInts.rep A w [.slice (some ⟨b,0,none⟩) l.length cap] l:=by
 refine .inr ⟨b,0,cap,rfl,hc,hm,hA,fun i hi=>⟨_,⟨rfl,hwf _ (List.getElem_mem hi)⟩,fun j hj=>?_⟩⟩
 have:j=0:=by simpa using hj
 subst this
 show w.cell? ⟨b,0+i*1+0,none⟩=_
 rw [show 0+i*1+0=i by omega,h.cell hi];rfl
end Go.Proofs.YtjkmalddfoemhaaGreatDoor
namespace Go.Proofs.YtjkmalddfoemhaaGreatDoor
open Go.RowKit Go.Deep
structure UW (W:World) where
 w:World
 u:Upd (fun _=>False) W w
instance {W:World}:Inhabited (UW W):=⟨⟨W,Upd.refl _ _⟩⟩
theorem UW.cell {W:World} {a:Addr} {v:Value} (h:W.cell? a=some v) (p:UW W):p.w.cell? a=some v:=cell_kept h (p.u.block _ (World.block_lt_of_cell? _ _ h) id)
theorem region_upd {P:Program} {id:Nat} {Q:Exit->Act->World->Prop} {a:Act} {w:World} {l:List Oper} (hm:P.follows .mixedOrders=true) (hB:Region.lexB .any l.toArray=true)
 (h:wpQuiet P l.toArray (fun w'=>∃ p:UW w,w'=p.w) (fun a'=>∀ w',(∃ p:UW w,w'=p.w)->Q .normal a' w') l a):(Code.region id l.toArray true).wp P Q a w :=
 wp_region_quiet (C:=fun w'=>∃ p:UW w,w'=p.w) hm hB ⟨⟨w.drew,(Upd.refl _ _).drew⟩,rfl⟩ (by simpa using h)
theorem Calls.upd_of {P:Program} {f:FuncId} {args:Array Value} {w:World} {p:UW w} {v:Value} (h:Calls P f args p.w fun e w'=>e=.returned v/\Upd (fun _=>False) p.w w') :
 Calls P f args p.w fun e w''=>e=.returned v/\∃ q:UW w,w''=q.w :=
 h.mono fun _ _ ⟨he,u⟩=>⟨he,⟨⟨_,p.u.trans u⟩,rfl⟩⟩
theorem Calls.upd_same {P:Program} {f:FuncId} {args:Array Value} {w:World} {p:UW w} {v:Value} (h:Calls P f args p.w fun e w'=>e=.returned v/\p.w=w') :
 Calls P f args p.w fun e w''=>e=.returned v/\∃ q:UW w,w''=q.w :=
 h.mono fun _ _ ⟨he,u⟩=>⟨he,⟨p,u.symm⟩⟩
theorem uw_out {W w':World} {Q:Prop} (h:∃ p:UW W,w'=p.w) (k:∀ w1,Upd (fun _=>False) W w1->w'=w1->Q):Q:=let ⟨p,e⟩:=h;k p.w p.u e
end Go.Proofs.YtjkmalddfoemhaaGreatDoor
namespace Go.Proofs.YtjkmalddfoemhaaGreatDoor
open Go
section
variable {P:Program} {ops:Array Oper} {Q:Exit->Act->World->Prop} {md:Region.Mode} {S:World->Prop} {k:Nat}
def wpAnyG (P:Program) (md:Region.Mode) (ops:Array Oper) (Q:Exit->Act->World->Prop) (S:World->Prop) (k:Nat):Nat->Array Bool->Act->World->Prop
 | 0,listed,a,w=>Region.ready md ops listed=[]/\Q .normal a w
 | fuel+1,listed,a,w =>
   (Region.ready md ops listed=[]->Q .normal a w) ∧
   ∀ i∈Region.ready md ops listed,wpOp P ops Q i (fun a' w'=>((listed.setIfInBounds i true).getD k true=false->S w')/\wpAnyG P md ops Q S k fuel (listed.setIfInBounds i true) a' w') a w
theorem wpAny_of_g:∀ (fuel:Nat) (listed:Array Bool) (a:Act) (w:World),wpAnyG P md ops Q S k fuel listed a w->wpAny P md ops Q fuel listed a w
 | 0,_,_,_,h=>h
 | fuel+1,_,_,_,h=>⟨h.1,fun i hi=>wpOp_mono (fun a' w' h'=>wpAny_of_g fuel _ a' w' h'.2) (h.2 i hi)⟩
theorem wp_region_g {id:Nat} {a:Act} {w:World} (S:World->Prop) (k:Nat) (hm:P.follows .mixedOrders=true) (h:wpAnyG P .any ops Q S k ops.size (Array.replicate ops.size false) a w.drew):(Code.region id ops true).wp P Q a w :=
 wp_region_any hm (wpAny_of_g _ _ _ _ h)
theorem ready_not {i j:Nat} {oj:Oper} {listed:Array Bool} (hr:i∈Region.ready md ops listed) (hj:j∈Region.ready md ops listed) (hoj:ops[j]? = some oj):∀ e∈oj.after,Region.binds md e=true->e.on≠i:=fun e he hb heq=>by
 obtain ⟨_,oj',hoj',hall⟩:=mem_ready.1 hj
 rw [hoj] at hoj'
 injection hoj' with hoj'
 subst hoj'
 have h1:=hall e he hb
 have h0:=(mem_ready.1 hr).1
 rw [heq] at h1
 rcases Nat.lt_or_ge i listed.size with h' | h'
 · simp [h'] at h0 h1;rw [h0] at h1;cases h1
 · simp [Array.getElem?_eq_none h'] at h1
theorem wpAnyG_first {i:Nat} {oi ok:Oper} {v:Value} (hi:ops[i]? = some oi) (hok:ops[k]? = some ok) (hki:k≠i) (hwait:∃ e∈ok.after,Region.binds md e=true/\e.on=i)
 (hsel:∀ (j:Nat) (o:Oper) cs b,ops[j]? = some o->o.op≠.select cs b) (hQ:∀ c a w,Q (.panic c) (a.put oi.dst v) w->Q (.panic c) a w) :
 ∀ (fuel:Nat) (listed:Array Bool) (a:Act) (w:World),
   (∀ j oj,ops[j]? = some oj->j≠i->listed.getD j true=false->(∀ e∈oj.after,Region.binds md e=true->e.on≠i)->oi.apart ops oj=true) →
   i∈Region.ready md ops listed->listed.getD k true=false->YieldsIf P ops S oi v a->S w →
   wpAnyG P md ops Q S k fuel (listed.setIfInBounds i true) (a.put oi.dst v) w->wpAnyG P md ops Q S k (fuel+1) listed a w:=by
 intro fuel
 induction fuel with
 | zero =>
   intro listed a w _ hr hkl hy hS H
   refine ⟨fun h=>(by rw [h] at hr;cases hr),fun j hj=>?_⟩
   by_cases hji:j=i
   · subst hji;exact hy.wpOp hi hS ⟨fun _=>hS,H⟩
   · have:=ready_mono hj hji
     rw [H.1] at this
     cases this
 | succ fuel ih =>
   intro listed a w hfree hr hkl hy hS H
   refine ⟨fun h=>(by rw [h] at hr;cases hr),fun j hj=>?_⟩
   by_cases hji:j=i
   · subst hji;exact hy.wpOp hi hS ⟨fun _=>hS,H⟩
   · have h1:=H.2 j (ready_mono hj hji)
     obtain ⟨hjun,oj,hoj,hall⟩:=mem_ready.1 hj
     have hnot:=ready_not hr hj hoj
     have hjk:j≠k:=fun e=>by
      subst e
      rw [hoj] at hok
      injection hok with hok
      subst hok
      obtain ⟨e,he,hb,hon⟩:=hwait
      exact hnot e he hb hon
     have h2:=wpOp_putIf hoj (hfree j oj hoj hji hjun hnot) (fun cs b=>hsel i oi cs b hi) (fun cs b=>hsel j oj cs b hoj) hQ hy h1
     have hfree':∀ k ok,ops[k]? = some ok->k≠i->(listed.setIfInBounds j true).getD k true=false →
      (∀ e∈ok.after,Region.binds md e=true->e.on≠i)->oi.apart ops ok=true:=fun k ok hk hki hun hno=>by
      refine hfree k ok hk hki ?_ hno
      by_cases hjk:j=k
      · subst hjk;exact hjun
      · rw [getD_set_ne true hjk] at hun;exact hun
     have hg:((listed.setIfInBounds i true).setIfInBounds j true).getD k true=false:=by
      rw [getD_set_ne true hjk,getD_set_ne true (Ne.symm hki)];exact hkl
     have hg':(listed.setIfInBounds j true).getD k true=false:=by rw [getD_set_ne true hjk];exact hkl
     refine wpOp_mono (fun a' w' h3=>⟨fun _=>h3.2.1 hg,ih (listed.setIfInBounds j true) a' w' hfree' (ready_mono hr (Ne.symm hji)) hg' h3.1 (h3.2.1 hg) ?_⟩) h2
     rw [Array.setIfInBounds_comm _ _ hji]
     exact h3.2.2
theorem wpAnyG_first0 {i:Nat} {oi:Oper} {v:Value} (hi:ops[i]? = some oi) (hki:k≠i)
 (hsel:∀ (j:Nat) (o:Oper) cs b,ops[j]? = some o->o.op≠.select cs b) (hQ:∀ c a w,Q (.panic c) (a.put oi.dst v) w->Q (.panic c) a w) :
 ∀ (fuel:Nat) (listed:Array Bool) (a:Act) (w:World),
   (∀ j oj,ops[j]? = some oj->j≠i->listed.getD j true=false->(∀ e∈oj.after,Region.binds md e=true->e.on≠i)->oi.apart ops oj=true) →
   i∈Region.ready md ops listed->YieldsIf P ops (fun _=>True) oi v a->(listed.getD k true=false->S w) →
   wpAnyG P md ops Q S k fuel (listed.setIfInBounds i true) (a.put oi.dst v) w->wpAnyG P md ops Q S k (fuel+1) listed a w:=by
 intro fuel
 induction fuel with
 | zero =>
   intro listed a w _ hr hy hS H
   refine ⟨fun h=>(by rw [h] at hr;cases hr),fun j hj=>?_⟩
   by_cases hji:j=i
   · subst hji;exact hy.wpOp hi trivial ⟨fun h=>hS (by rw [getD_set_ne true (Ne.symm hki)] at h;exact h),H⟩
   · have:=ready_mono hj hji
     rw [H.1] at this
     cases this
 | succ fuel ih =>
   intro listed a w hfree hr hy hS H
   refine ⟨fun h=>(by rw [h] at hr;cases hr),fun j hj=>?_⟩
   by_cases hji:j=i
   · subst hji;exact hy.wpOp hi trivial ⟨fun h=>hS (by rw [getD_set_ne true (Ne.symm hki)] at h;exact h),H⟩
   · have h1:=H.2 j (ready_mono hj hji)
     obtain ⟨hjun,oj,hoj,hall⟩:=mem_ready.1 hj
     have hnot:=ready_not hr hj hoj
     have h2:=wpOp_putIf hoj (hfree j oj hoj hji hjun hnot) (fun cs b=>hsel i oi cs b hi) (fun cs b=>hsel j oj cs b hoj) hQ hy h1
     have hfree':∀ k ok,ops[k]? = some ok->k≠i->(listed.setIfInBounds j true).getD k true=false →
      (∀ e∈ok.after,Region.binds md e=true->e.on≠i)->oi.apart ops ok=true:=fun k ok hk hki hun hno=>by
      refine hfree k ok hk hki ?_ hno
      by_cases hjk:j=k
      · subst hjk;exact hjun
      · rw [getD_set_ne true hjk] at hun;exact hun
     have hg:(listed.setIfInBounds j true).getD k true=false->((listed.setIfInBounds i true).setIfInBounds j true).getD k true=false:=fun h=>by
      rw [<-Array.setIfInBounds_comm _ _ hji,getD_set_ne true (Ne.symm hki)];exact h
     refine wpOp_mono (fun a' w' h3=>⟨fun h=>h3.2.1 (hg h),ih (listed.setIfInBounds j true) a' w' hfree' (ready_mono hr (Ne.symm hji)) h3.1 (fun h=>h3.2.1 (hg h)) ?_⟩) h2
     rw [Array.setIfInBounds_comm _ _ hji]
     exact h3.2.2
def waitsB (md:Region.Mode) (ops:Array Oper) (k i:Nat):Bool:=k != i && ((ops[k]?).map fun o=>o.after.any fun e=>Region.binds md e && e.on==i).getD false
theorem g_take {i:Nat} {oi:Oper} {v:Value} {fuel:Nat} {listed:Array Bool} {a:Act} {w:World} (hi:ops[i]? = some oi)
 (hs:Region.noSelect ops=true) (hf:Region.free md ops listed i=true) (hr:(Region.ready md ops listed).contains i=true) (hk:(waitsB md ops k i && !listed.getD k true)=true)
 (hQ:∀ c a w,Q (.panic c) (a.put oi.dst v) w->Q (.panic c) a w) (hy:YieldsIf P ops S oi v a) (hS:S w)
 (h:wpAnyG P md ops Q S k fuel (listed.setIfInBounds i true) (a.put oi.dst v) w):wpAnyG P md ops Q S k (fuel+1) listed a w:=by
 simp only [waitsB,Bool.and_eq_true,Bool.not_eq_true',bne_iff_ne] at hk
 obtain ⟨⟨hne,hw⟩,hl⟩:=hk
 cases hok:ops[k]? with
 | none=>rw [hok] at hw;cases hw
 | some ok =>
   rw [hok] at hw
   simp only [Option.map_some,Option.getD_some] at hw
   obtain ⟨e,he,hb⟩:=Array.any_eq_true'.1 hw
   simp only [Bool.and_eq_true,beq_iff_eq] at hb
   obtain ⟨hb,hon⟩:=hb
   exact wpAnyG_first hi hok hne ⟨e,he,hb,hon⟩ (Region.noSelect_spec hs) hQ fuel listed a w (Region.free_spec hi hf) (by simpa using hr) hl hy hS h
theorem g_take0 {i:Nat} {oi:Oper} {v:Value} {fuel:Nat} {listed:Array Bool} {a:Act} {w:World} (hi:ops[i]? = some oi)
 (hs:Region.noSelect ops=true) (hf:Region.free md ops listed i=true) (hr:(Region.ready md ops listed).contains i=true) (hk:k≠i)
 (hQ:∀ c a w,Q (.panic c) (a.put oi.dst v) w->Q (.panic c) a w) (hy:YieldsIf P ops (fun _=>True) oi v a) (hS:listed.getD k true=false->S w)
 (h:wpAnyG P md ops Q S k fuel (listed.setIfInBounds i true) (a.put oi.dst v) w):wpAnyG P md ops Q S k (fuel+1) listed a w :=
 wpAnyG_first0 hi hk (Region.noSelect_spec hs) hQ fuel listed a w (Region.free_spec hi hf) (by simpa using hr) hy hS h
theorem Oper.wp_then {o:Oper} {a:Act} {w:World} {K:Act->World->Prop} (h:o.wp P a w K (Exit.then K Q)):o.wp P a w K Q:=by
 unfold Oper.wp at *
 generalize (execOp a.eval o).run P w=r at *
 cases r with
 | ok n w' =>
   cases n<;>simp only [Oper.upon] at h ⊢ <;>
    first
     | exact h
     | exact Calls.mono h (fun e w'' he=>by cases e<;>exact he)
 | halt x w'=>cases x<;>simp only [Oper.upon] at h ⊢<;>exact h
theorem g_op {i:Nat} {o:Oper} {fuel:Nat} {listed:Array Bool} {a:Act} {w:World} (hr:Region.ready md ops listed=[i]) (ho:ops[i]? = some o)
 (h:wpList P ops (Exit.then (fun a' w'=>((listed.setIfInBounds i true).getD k true=false->S w')/\wpAnyG P md ops Q S k fuel (listed.setIfInBounds i true) a' w') Q) [o] a w):wpAnyG P md ops Q S k (fuel+1) listed a w:=by
 refine ⟨fun h0=>(by rw [hr] at h0;cases h0),fun j hj=>?_⟩
 rw [hr,List.mem_singleton] at hj
 subst hj
 unfold wpOp
 simp only [ho]
 unfold wpList at h
 split
 · rename_i hw
   rw [if_pos hw] at h
   rcases h with h | ⟨h1,h2⟩
   · exact .inl (Oper.wp_then h)
   · exact .inr ⟨h1,h2⟩
 · rename_i hw
   rw [if_neg hw] at h
   exact h
theorem g_done {fuel:Nat} {listed:Array Bool} {a:Act} {w:World} (hr:Region.ready md ops listed=[]) (h:Q .normal a w):wpAnyG P md ops Q S k fuel listed a w:=by
 cases fuel with
 | zero=>exact ⟨hr,h⟩
 | succ n=>exact ⟨fun _=>h,fun i hi=>by rw [hr] at hi;cases hi⟩
end
end Go.Proofs.YtjkmalddfoemhaaGreatDoor
namespace Go.Proofs.YtjkmalddfoemhaaGreatDoor
open Go.RowKit Go.Deep
def kSp:Knd Sp:=kMap (kPair (kInt .i64) (kPair (kInt .i64) (kInt .i64))) fun s=>(s.mark,s.fr,s.to)
def kSps:Knd (List Sp):=kSlice kSp
theorem reads_sp:Reads Tryz.prog 177 kSp :=
 reads_map (fun x=>⟨x.1,x.2.1,x.2.2⟩) (fun _=>rfl) (reads_struct Tryz.underlying177
  (tail_cons rfl rfl (reads_int Tryz.underlying3 (by kernel_rfl)) (tail_cons rfl rfl (reads_int Tryz.underlying3 (by kernel_rfl)) (tail_last rfl rfl (reads_int Tryz.underlying3 (by kernel_rfl)) (by kernel_rfl)))))
theorem reads_sps:Reads Tryz.prog 70 kSps:=reads_slice Tryz.underlying70 (by kernel_rfl) reads_sp (by decide)
structure SpWf (s:Sp):Prop where
 mark:(Lit.int .i64 s.mark).wf=true
 fr:(Lit.int .i64 s.fr).wf=true
 upto:(Lit.int .i64 s.to).wf=true
def spCells (s:Sp):List Value:=[.int .i64 s.mark,.int .i64 s.fr,.int .i64 s.to]
def spVal (s:Sp):Value:=.agg #[.int .i64 s.mark,.int .i64 s.fr,.int .i64 s.to]
theorem sp_open {A:Nat->Prop} {w:World} {cs:List Value} {s:Sp} (h:kSp.rep A w cs s):cs=spCells s/\SpWf s:=by
 obtain ⟨_,_,rfl,⟨rfl,h1⟩,_,_,rfl,⟨rfl,h2⟩,rfl,h3⟩:=h
 exact ⟨rfl,h1,h2,h3⟩
theorem sp_rep {A:Nat->Prop} {w:World} {s:Sp} (h:SpWf s):kSp.rep A w (spCells s) s :=
 ⟨_,_,rfl,⟨rfl,h.mark⟩,_,_,rfl,⟨rfl,h.fr⟩,rfl,h.upto⟩
theorem sp_cells {A:Nat->Prop} {w:World} {b o:Nat} {l:List Sp} (h:Elems kSp A w b o l) {i:Nat} (hi:i<l.length) :
 SpWf l[i]/\w.cell? ⟨b,o+i*3,none⟩=some (.int .i64 l[i].mark)/\w.cell? ⟨b,o+i*3+1,none⟩=some (.int .i64 l[i].fr)/\w.cell? ⟨b,o+i*3+2,none⟩=some (.int .i64 l[i].to):=by
 obtain ⟨cs,h1,h2⟩:=h.cell hi
 obtain ⟨rfl,hw⟩:=sp_open h1
 exact ⟨hw,h2 0 (by decide),h2 1 (by decide),h2 2 (by decide)⟩
def kStr8:Knd (List UInt8):=kMap kStr fun l=>⟨l.toArray⟩
theorem reads_str8:Reads Tryz.prog 9 kStr8:=reads_map (fun x=>x.data.toList) (fun _=>rfl) (reads_str Tryz.underlying9 (by kernel_rfl))
def kEn:Knd En :=
 kMap (kPair (kInt .i64) (kPair (kInt .i64) (kPair (kInt .i64) (kPair kInts (kPair (kInt .i64) (kPair (kInt .i64) (kPair (kInt .i64) (kPair (kInt .i64) (kPair (kInt .i64) (kPair (kInt .i64) (kPair kInts (kPair kSps kStr8))))))))))))
  fun e=>(e.author,e.seq,e.day,e.knows,e.kind,e.circle,e.who,e.n,e.m,e.ref,e.keys,e.spans,e.text)
theorem reads_en:Reads Tryz.prog 72 kEn :=
 reads_map (fun x=>⟨x.1,x.2.1,x.2.2.1,x.2.2.2.1,x.2.2.2.2.1,x.2.2.2.2.2.1,x.2.2.2.2.2.2.1,x.2.2.2.2.2.2.2.1,x.2.2.2.2.2.2.2.2.1,x.2.2.2.2.2.2.2.2.2.1,x.2.2.2.2.2.2.2.2.2.2.1,x.2.2.2.2.2.2.2.2.2.2.2.1,x.2.2.2.2.2.2.2.2.2.2.2.2⟩) (fun _=>rfl) (reads_struct Tryz.underlying72
  (tail_cons rfl rfl (reads_int Tryz.underlying3 (by kernel_rfl)) (tail_cons rfl rfl (reads_int Tryz.underlying3 (by kernel_rfl)) (tail_cons rfl rfl (reads_int Tryz.underlying3 (by kernel_rfl)) (tail_cons rfl rfl reads_ints
   (tail_cons rfl rfl (reads_int Tryz.underlying3 (by kernel_rfl)) (tail_cons rfl rfl (reads_int Tryz.underlying3 (by kernel_rfl)) (tail_cons rfl rfl (reads_int Tryz.underlying3 (by kernel_rfl)) (tail_cons rfl rfl (reads_int Tryz.underlying3 (by kernel_rfl))
    (tail_cons rfl rfl (reads_int Tryz.underlying3 (by kernel_rfl)) (tail_cons rfl rfl (reads_int Tryz.underlying3 (by kernel_rfl)) (tail_cons rfl rfl reads_ints (tail_cons rfl rfl reads_sps (tail_last rfl rfl reads_str8 (by kernel_rfl)))))))))))))))
end Go.Proofs.YtjkmalddfoemhaaGreatDoor
namespace Go.Proofs.YtjkmalddfoemhaaGreatDoor
open Go.RowKit Go.Deep
theorem ret_dec {p q:Prop} [Decidable p] [Decidable q] (h:p↔q):Ending.returned (.bool (decide p))=.returned (.bool (decide q)):=by rw [decide_eq_decide.2 h]
theorem ret_f {q:Prop} [Decidable q] (h:¬q):Ending.returned (.bool false)=.returned (.bool (decide q)):=by rw [decide_eq_false h]
theorem ret_t {q:Prop} [Decidable q] (h:q):Ending.returned (.bool true)=.returned (.bool (decide q)):=by rw [decide_eq_true h]
theorem ret_b {b:Bool} {q:Prop} [Decidable q] (h:b=true↔q):Ending.returned (.bool b)=.returned (.bool (decide q)):=by rw [<-decide_eq_decide.2 h];cases b<;>rfl
theorem mark_any (n:Int) (w:World):Calls Tryz.prog 204 #[.int .i64 n] w fun e w'=>e=.returned (.bool (decide (markP n)))/\w=w':=by
 go_enter Tryz.func204,Tryz.ntmps204
 go_wp2
 all_goals
  go_ret
  exact ⟨by first | exact ret_dec (by unfold markP;omega) | exact ret_f (by unfold markP;omega),rfl⟩
theorem key_any (n:Int) (w:World):Calls Tryz.prog 200 #[.int .i64 n] w fun e w'=>e=.returned (.bool (decide (keyP n)))/\w=w':=by
 go_enter Tryz.func200,Tryz.ntmps200
 go_wp2
 all_goals
  go_ret
  exact ⟨by first | exact ret_dec (by unfold keyP;omega) | exact ret_f (by unfold keyP;omega),rfl⟩
theorem day_any (n:Int) (w:World):Calls Tryz.prog 201 #[.int .i64 n] w fun e w'=>e=.returned (.bool (decide (dayP n)))/\w=w':=by
 go_enter Tryz.func201,Tryz.ntmps201
 go_wp2
 all_goals
  go_ret
  exact ⟨by first | exact ret_dec (by unfold dayP;omega) | exact ret_f (by unfold dayP;omega),rfl⟩
theorem valid_any (s:Sp) (w:World):Calls Tryz.prog 254 #[spVal s] w fun e w'=>e=.returned (.bool (decide s.Ok))/\Upd (fun _=>False) w w':=by
 unfold spVal
 go_enter Tryz.func254,Tryz.ntmps254
 go_wp2_with (go_at_call 204;refine (mark_any _ _).mono ?_;rintro e w' ⟨rfl,rfl⟩)
 all_goals
  go_ret
  exact ⟨by simp only [markP] at *;first | exact ret_dec (by unfold Sp.Ok;omega) | exact ret_f (by unfold Sp.Ok;omega),(Upd.refl _ _).alloc _⟩
def enV (e:En) (a1 a2 a3:Option Addr) (c1 c2 c3:Nat):Value:=.agg #[.int .i64 e.author,.int .i64 e.seq,.int .i64 e.day,.slice a1 e.knows.length c1,.int .i64 e.kind,.int .i64 e.circle,.int .i64 e.who,.int .i64 e.n,.int .i64 e.m,.int .i64 e.ref,.slice a2 e.keys.length c2,.slice a3 e.spans.length c3,.string ⟨e.text.toArray⟩]
end Go.Proofs.YtjkmalddfoemhaaGreatDoor
namespace Go.Proofs.YtjkmalddfoemhaaGreatDoor
open Go.RowKit Go.Deep
end Go.Proofs.YtjkmalddfoemhaaGreatDoor
namespace Go.Proofs.YtjkmalddfoemhaaGreatDoor
open Go.RowKit Go.ChangeShapes Go.WideShapes Go.Deep
open Go.Maps (Keyed int_keyed keyOf_int_mk)
def RV:Value->Option (DataW Value×List MemPlace):=fun v=>some (.held v,[])
def MapIs (P:Program) (k:TypeId) (w:World) (b:Nat) (l:List (Int×Value)):Prop :=
 (l.map Prod.fst).Nodup/\∃ D:DataW Value,w.ownsMap P k RV b l.length D/\Maps.size D=l.length ∧
  (∀ x v,l.lookup x=some v->Maps.has D (.int .i64 x)=true/\∀ z,D.atKey (.int .i64 x) z=.held v)/\∀ x,l.lookup x=none->Maps.has D (.int .i64 x)=false
def delM {α:Type} (l:List (Int×α)) (x:Int):List (Int×α):=l.filter fun p=>p.1 != x
def putM {α:Type} (l:List (Int×α)) (x:Int) (v:α):List (Int×α):=(x,v)::delM l x
theorem lookup_none_iff {α:Type} {l:List (Int×α)} {x:Int}:l.lookup x=none↔x∉l.map Prod.fst:=by
 induction l with
 | nil=>simp
 | cons p r ih =>
   obtain ⟨a,b⟩:=p
   by_cases h:x=a
   · subst h;simp
   · rw [List.lookup_cons,beq_eq_false_iff_ne.2 h,List.map_cons,List.mem_cons,ih]
     simp [h]
theorem lookup_del {α:Type} (l:List (Int×α)) (x y:Int):(delM l x).lookup y=if y=x then none else l.lookup y:=by
 unfold delM
 induction l with
 | nil=>simp
 | cons p r ih =>
   obtain ⟨a,b⟩:=p
   by_cases hax:a=x
   · subst hax
     rw [List.filter_cons_of_neg (by simp),ih]
     by_cases hy:y=a
     · rw [if_pos hy,if_pos hy]
     · rw [if_neg hy,if_neg hy,List.lookup_cons,beq_eq_false_iff_ne.2 hy]
   · rw [List.filter_cons_of_pos (by simp [hax]),List.lookup_cons,List.lookup_cons,ih]
     by_cases hya:y=a
     · subst hya;simp [hax]
     · rw [beq_eq_false_iff_ne.2 hya]
theorem lookup_put {α:Type} (l:List (Int×α)) (x y:Int) (v:α):(putM l x v).lookup y=if y=x then some v else l.lookup y:=by
 unfold putM
 rw [List.lookup_cons,lookup_del]
 by_cases h:y=x
 · subst h;simp
 · rw [beq_eq_false_iff_ne.2 h,if_neg h];simp [h]
theorem nodup_del {α:Type} {l:List (Int×α)} (h:(l.map Prod.fst).Nodup) (x:Int):((delM l x).map Prod.fst).Nodup :=
 h.sublist (List.filter_sublist.map _)
theorem nodup_put {α:Type} {l:List (Int×α)} (h:(l.map Prod.fst).Nodup) (x:Int) (v:α):((putM l x v).map Prod.fst).Nodup:=by
 unfold putM
 rw [List.map_cons,List.nodup_cons]
 refine ⟨?_,nodup_del h x⟩
 rw [<-lookup_none_iff,lookup_del,if_pos rfl]
theorem len_del {α:Type} {l:List (Int×α)} (h:(l.map Prod.fst).Nodup) (x:Int):(delM l x).length+(if (l.lookup x).isSome then 1 else 0)=l.length:=by
 unfold delM
 induction l with
 | nil=>rfl
 | cons p r ih =>
   obtain ⟨a,b⟩:=p
   rw [List.map_cons,List.nodup_cons] at h
   have ih:=ih h.2
   by_cases hax:a=x
   · subst hax
     rw [List.filter_cons_of_neg (by simp),List.lookup_cons,beq_self_eq_true]
     rw [lookup_none_iff.2 h.1] at ih
     simp at ih ⊢
     omega
   · rw [List.filter_cons_of_pos (by simp [hax]),List.lookup_cons,beq_eq_false_iff_ne.2 (Ne.symm hax),List.length_cons,List.length_cons]
     dsimp only
     omega
theorem len_put {α:Type} {l:List (Int×α)} (h:(l.map Prod.fst).Nodup) (x:Int) (v:α):(putM l x v).length=if (l.lookup x).isSome then l.length else l.length+1:=by
 have:=len_del h x
 unfold putM
 rw [List.length_cons]
 split at this<;>rename_i hs<;>simp [hs]<;>omega
section
variable {P:Program} {k e t:TypeId} {w:World} {b:Nat} {l:List (Int×Value)}
theorem owns_size {R:Value->Option (DataW Value×List MemPlace)} {n:Nat} {D:DataW Value} (h:w.ownsMap P k R b n D):w.ownsMap P k R b (Maps.size D) D:=by
 obtain ⟨es,clock,hb,F,_,hD⟩:=h
 have e1:Maps.size D=es.size:=by rw [hD];simp [Maps.size,length_sorted]
 exact ⟨es,clock,hb,F,by rw [e1];exact Nat.le_refl _,hD⟩
theorem MapIs.lt (h:MapIs P k w b l):b<w.heap.size:=h.2.elim fun _ h=>h.1.lt
theorem MapIs.upd {S:Nat->Prop} {w':World} (h:MapIs P k w b l) (u:Upd S w w') (hb:¬S b):MapIs P k w' b l:=by
 obtain ⟨hn,D,ho,r⟩:=h
 have hlt:=ho.lt
 obtain ⟨es,clock,hb',F,hs,hD⟩:=ho
 exact ⟨hn,D,⟨es,clock,(u.block b hlt hb).trans hb',F,hs,hD⟩,r⟩
theorem MapIs.made (w:World):MapIs P k (w.alloc (.map #[] 0)) w.heap.size [] :=
 ⟨List.nodup_nil,.map [],World.ownsMap_made w P k RV,rfl,fun _ v h=>(nomatch (h:(none:Option Value)=some v)),fun _ _=>rfl⟩
theorem MapIs.get (h:MapIs P k w b l) (hk:P.underlying k=some (.int .i64)) (ht:P.underlying t=some (.map k e)) {z:Value} (hz:(zeroValue e).run P w=.ok z w) {x:Int} (hx:(Lit.int .i64 x).wf=true) :
 (Instr.lookup t (.map (some b)) (.int .i64 x) false).run P w=.ok ((l.lookup x).getD z) w:=by
 obtain ⟨_,D,ho,_,h1,h2⟩:=h
 obtain ⟨v,ps,hrun,hv⟩:=ho.lookup (int_keyed hk) ht hz (zd:=.held z) rfl (keyOf_int_mk hk hx)
 rw [hrun]
 injection hv with hv
 injection hv with hv _
 cases hl:l.lookup x with
 | none =>
   rw [Maps.atKey_of_not_has (h2 x hl)] at hv
   injection hv with hv
   rw [hv];rfl
 | some y =>
   rw [(h1 x y hl).2] at hv
   injection hv with hv
   rw [hv];rfl
theorem MapIs.getOk (h:MapIs P k w b l) (hk:P.underlying k=some (.int .i64)) (ht:P.underlying t=some (.map k e)) {z:Value} (hz:(zeroValue e).run P w=.ok z w) {x:Int} (hx:(Lit.int .i64 x).wf=true) :
 (Instr.lookup t (.map (some b)) (.int .i64 x) true).run P w=.ok (.tuple #[(l.lookup x).getD z,.bool (l.lookup x).isSome]) w:=by
 obtain ⟨_,D,ho,_,h1,h2⟩:=h
 obtain ⟨v,ps,hrun,hv⟩:=ho.look_ok (int_keyed hk) ht hz (zd:=.held z) rfl (keyOf_int_mk hk hx)
 rw [hrun]
 injection hv with hv
 injection hv with hv _
 cases hl:l.lookup x with
 | none =>
   rw [Maps.atKey_of_not_has (h2 x hl)] at hv
   injection hv with hv
   rw [hv,h2 x hl];rfl
 | some y =>
   rw [(h1 x y hl).2] at hv
   injection hv with hv
   rw [hv,(h1 x y hl).1];rfl
theorem MapIs.len (h:MapIs P k w b l) (ht:P.underlying t=some (.map k e)) (ty:TypeId):(Builtin.len_ #[t] ty #[.map (some b)]).run P w=.ok (.int .i64 l.length) w:=by
 obtain ⟨_,D,ho,hs,_⟩:=h
 rw [ho.len ht ty,hs]
theorem MapIs.put (h:MapIs P k w b l) (hk:P.underlying k=some (.int .i64)) (ht:P.underlying t=some (.map k e)) (hn:l.length<maxLen) {x:Int} (hx:(Lit.int .i64 x).wf=true) (v:Value) :
 ∃ w',(Instr.mapUpdate t (.map (some b)) (.int .i64 x) v).run P w=.ok () w'/\MapIs P k w' b (putM l x v)/\Upd (· = b) w w':=by
 obtain ⟨hnd,D,ho,hs,h1,h2⟩:=h
 have K:=int_keyed hk
 have hkey:=keyOf_int_mk hk hx
 obtain ⟨w',hrun,ho',ht'⟩:=ho.store K ht hn (d:=.held v) (ps:=[]) (val:=v) hkey rfl
 have hasx:Maps.has D (.int .i64 x)=(l.lookup x).isSome:=by
  cases hl:l.lookup x with
  | none=>rw [h2 x hl];rfl
  | some y=>rw [(h1 x y hl).1];rfl
 have hs':Maps.size (D.put (.int .i64 x) (.held v))=(putM l x v).length:=by
  rw [Maps.size_put (ho.tidy K),len_put hnd,hasx,hs]
 refine ⟨w',hrun,⟨nodup_put hnd x v,_,by rw [<-hs'];exact owns_size ho',hs',fun y u hy=>?_,fun y hy=>?_⟩,(Upd.refl (· = b) w).grown ht'.grown fun i hi=>.inl (by injection hi with hi;exact hi.symm)⟩
 · rw [lookup_put] at hy
   by_cases hyx:y=x
   · subst hyx
     rw [if_pos rfl] at hy
     injection hy with hy
     subst hy
     exact ⟨Maps.has_put_same ho.isMap (K.key hkey) _,fun z=>Maps.atKey_put_same ho.isMap (K.key hkey) _ z⟩
   · rw [if_neg hyx] at hy
     have hne:Lit.int .i64 y≠Lit.int .i64 x:=fun e=>hyx (by injection e)
     exact ⟨by rw [Maps.has_put_other hne];exact (h1 y u hy).1,fun z=>by rw [Maps.atKey_put_other hne];exact (h1 y u hy).2 z⟩
 · rw [lookup_put] at hy
   by_cases hyx:y=x
   · rw [if_pos hyx] at hy;cases hy
   · rw [if_neg hyx] at hy
     have hne:Lit.int .i64 y≠Lit.int .i64 x:=fun e=>hyx (by injection e)
     rw [Maps.has_put_other hne];exact h2 y hy
end
end Go.Proofs.YtjkmalddfoemhaaGreatDoor
namespace Go.Proofs.YtjkmalddfoemhaaGreatDoor
open Go.RowKit Go.ChangeShapes Go.WideShapes Go.Deep
open Go.Maps (Keyed)
def gDelM {κ α:Type} [DecidableEq κ] (l:List (κ×α)) (x:κ):List (κ×α):=l.filter fun p=>p.1 != x
def gPutM {κ α:Type} [DecidableEq κ] (l:List (κ×α)) (x:κ) (v:α):List (κ×α):=(x,v)::gDelM l x
theorem gLookup_none_iff {κ α:Type} [DecidableEq κ] {l:List (κ×α)} {x:κ}:l.lookup x=none↔x∉l.map Prod.fst:=by
 induction l with
 | nil=>simp
 | cons p r ih =>
   obtain ⟨a,b⟩:=p
   by_cases h:x=a
   · subst h;simp
   · rw [List.lookup_cons,beq_eq_false_iff_ne.2 h,List.map_cons,List.mem_cons,ih]
     simp [h]
theorem gLookup_del {κ α:Type} [DecidableEq κ] (l:List (κ×α)) (x y:κ):(gDelM l x).lookup y=if y=x then none else l.lookup y:=by
 unfold gDelM
 induction l with
 | nil=>simp
 | cons p r ih =>
   obtain ⟨a,b⟩:=p
   by_cases hax:a=x
   · subst hax
     rw [List.filter_cons_of_neg (by simp),ih]
     by_cases hy:y=a
     · rw [if_pos hy,if_pos hy]
     · rw [if_neg hy,if_neg hy,List.lookup_cons,beq_eq_false_iff_ne.2 hy]
   · rw [List.filter_cons_of_pos (by simp [hax]),List.lookup_cons,List.lookup_cons,ih]
     by_cases hya:y=a
     · subst hya;simp [hax]
     · rw [beq_eq_false_iff_ne.2 hya]
theorem gLookup_put {κ α:Type} [DecidableEq κ] (l:List (κ×α)) (x y:κ) (v:α):(gPutM l x v).lookup y=if y=x then some v else l.lookup y:=by
 unfold gPutM
 rw [List.lookup_cons,gLookup_del]
 by_cases h:y=x
 · subst h;simp
 · rw [beq_eq_false_iff_ne.2 h,if_neg h];simp [h]
theorem gNodup_del {κ α:Type} [DecidableEq κ] {l:List (κ×α)} (h:(l.map Prod.fst).Nodup) (x:κ):((gDelM l x).map Prod.fst).Nodup :=
 h.sublist (List.filter_sublist.map _)
theorem gNodup_put {κ α:Type} [DecidableEq κ] {l:List (κ×α)} (h:(l.map Prod.fst).Nodup) (x:κ) (v:α):((gPutM l x v).map Prod.fst).Nodup:=by
 unfold gPutM
 rw [List.map_cons,List.nodup_cons]
 refine ⟨?_,gNodup_del h x⟩
 rw [<-gLookup_none_iff,gLookup_del,if_pos rfl]
theorem gLen_del {κ α:Type} [DecidableEq κ] {l:List (κ×α)} (h:(l.map Prod.fst).Nodup) (x:κ):(gDelM l x).length+(if (l.lookup x).isSome then 1 else 0)=l.length:=by
 unfold gDelM
 induction l with
 | nil=>rfl
 | cons p r ih =>
   obtain ⟨a,b⟩:=p
   rw [List.map_cons,List.nodup_cons] at h
   have ih:=ih h.2
   by_cases hax:a=x
   · subst hax
     rw [List.filter_cons_of_neg (by simp),List.lookup_cons,beq_self_eq_true]
     rw [gLookup_none_iff.2 h.1] at ih
     simp at ih ⊢
     omega
   · rw [List.filter_cons_of_pos (by simp [hax]),List.lookup_cons,beq_eq_false_iff_ne.2 (Ne.symm hax),List.length_cons,List.length_cons]
     dsimp only
     omega
theorem gLen_put {κ α:Type} [DecidableEq κ] {l:List (κ×α)} (h:(l.map Prod.fst).Nodup) (x:κ) (v:α):(gPutM l x v).length=if (l.lookup x).isSome then l.length else l.length+1:=by
 have:=gLen_del h x
 unfold gPutM
 rw [List.length_cons]
 split at this<;>rename_i hs<;>simp [hs]<;>omega
def gLook {κ α:Type} [DecidableEq κ] (x:κ) (l:List (κ×α)):Option α:=l.lookup x
structure KeyF (P:Program) (k:TypeId) (κ:Type) where
 kv:κ->Value
 kl:κ->Lit
 ok:κ->Prop
 keyed:Keyed P k
 key:∀ {a},ok a->keyOf P k (kv a)=some (kl a)
 inj:∀ {a b},kv a=kv b->a=b
theorem KeyF.ne {P:Program} {k:TypeId} {κ:Type} (F:KeyF P k κ) {a b:κ} (ha:F.ok a) (hb:F.ok b) (h:a≠b):F.kl a≠F.kl b:=fun e=>h (F.inj (F.keyed.inj (F.key ha) (by rw [e];exact F.key hb)))
def MapG {P:Program} {k:TypeId} {κ:Type} [DecidableEq κ] (F:KeyF P k κ) (w:World) (b:Nat) (l:List (κ×Value)):Prop :=
 (l.map Prod.fst).Nodup/\∃ D:DataW Value,w.ownsMap P k RV b l.length D/\Maps.size D=l.length ∧
  (∀ x v,F.ok x->l.lookup x=some v->Maps.has D (F.kl x)=true/\∀ z,D.atKey (F.kl x) z=.held v)/\∀ x,F.ok x->l.lookup x=none->Maps.has D (F.kl x)=false
section
variable {P:Program} {k e t:TypeId} {w:World} {b:Nat} {κ:Type} [DecidableEq κ] {F:KeyF P k κ} {l:List (κ×Value)}
theorem MapG.lt (h:MapG F w b l):b<w.heap.size:=h.2.elim fun _ h=>h.1.lt
theorem MapG.upd {S:Nat->Prop} {w':World} (h:MapG F w b l) (u:Upd S w w') (hb:¬S b):MapG F w' b l:=by
 obtain ⟨hn,D,ho,r⟩:=h
 have hlt:=ho.lt
 obtain ⟨es,clock,hb',f,hs,hD⟩:=ho
 exact ⟨hn,D,⟨es,clock,(u.block b hlt hb).trans hb',f,hs,hD⟩,r⟩
theorem MapG.made (F:KeyF P k κ) (w:World):MapG F (w.alloc (.map #[] 0)) w.heap.size [] :=
 ⟨List.nodup_nil,.map [],World.ownsMap_made w P k RV,rfl,fun _ v _ h=>(nomatch (h:(none:Option Value)=some v)),fun _ _ _=>rfl⟩
theorem MapG.get (h:MapG F w b l) (ht:P.underlying t=some (.map k e)) {z:Value} (hz:(zeroValue e).run P w=.ok z w) {x:κ} (hx:F.ok x) :
 (Instr.lookup t (.map (some b)) (F.kv x) false).run P w=.ok ((l.lookup x).getD z) w:=by
 obtain ⟨_,D,ho,_,h1,h2⟩:=h
 obtain ⟨v,ps,hrun,hv⟩:=ho.lookup F.keyed ht hz (zd:=.held z) rfl (F.key hx)
 rw [hrun]
 injection hv with hv
 injection hv with hv _
 cases hl:l.lookup x with
 | none =>
   rw [Maps.atKey_of_not_has (h2 x hx hl)] at hv
   injection hv with hv
   rw [hv];rfl
 | some y =>
   rw [(h1 x y hx hl).2] at hv
   injection hv with hv
   rw [hv];rfl
theorem MapG.getOk (h:MapG F w b l) (ht:P.underlying t=some (.map k e)) {z:Value} (hz:(zeroValue e).run P w=.ok z w) {x:κ} (hx:F.ok x) :
 (Instr.lookup t (.map (some b)) (F.kv x) true).run P w=.ok (.tuple #[(l.lookup x).getD z,.bool (l.lookup x).isSome]) w:=by
 obtain ⟨_,D,ho,_,h1,h2⟩:=h
 obtain ⟨v,ps,hrun,hv⟩:=ho.look_ok F.keyed ht hz (zd:=.held z) rfl (F.key hx)
 rw [hrun]
 injection hv with hv
 injection hv with hv _
 cases hl:l.lookup x with
 | none =>
   rw [Maps.atKey_of_not_has (h2 x hx hl)] at hv
   injection hv with hv
   rw [hv,h2 x hx hl];rfl
 | some y =>
   rw [(h1 x y hx hl).2] at hv
   injection hv with hv
   rw [hv,(h1 x y hx hl).1];rfl
theorem MapG.len (h:MapG F w b l) (ht:P.underlying t=some (.map k e)) (ty:TypeId):(Builtin.len_ #[t] ty #[.map (some b)]).run P w=.ok (.int .i64 l.length) w:=by
 obtain ⟨_,D,ho,hs,_⟩:=h
 rw [ho.len ht ty,hs]
theorem MapG.put (h:MapG F w b l) (ht:P.underlying t=some (.map k e)) (hn:l.length<maxLen) {x:κ} (hx:F.ok x) (v:Value) :
 ∃ w',(Instr.mapUpdate t (.map (some b)) (F.kv x) v).run P w=.ok () w'/\MapG F w' b (gPutM l x v)/\Upd (· = b) w w':=by
 obtain ⟨hnd,D,ho,hs,h1,h2⟩:=h
 have K:=F.keyed
 have hkey:=F.key hx
 obtain ⟨w',hrun,ho',ht'⟩:=ho.store K ht hn (d:=.held v) (ps:=[]) (val:=v) hkey rfl
 have hasx:Maps.has D (F.kl x)=(l.lookup x).isSome:=by
  cases hl:l.lookup x with
  | none=>rw [h2 x hx hl];rfl
  | some y=>rw [(h1 x y hx hl).1];rfl
 have hs':Maps.size (D.put (F.kl x) (.held v))=(gPutM l x v).length:=by
  rw [Maps.size_put (ho.tidy K),gLen_put hnd,hasx,hs]
 refine ⟨w',hrun,⟨gNodup_put hnd x v,_,by rw [<-hs'];exact owns_size ho',hs',fun y u hok hy=>?_,fun y hok hy=>?_⟩,(Upd.refl (· = b) w).grown ht'.grown fun i hi=>.inl (by injection hi with hi;exact hi.symm)⟩
 · rw [gLookup_put] at hy
   by_cases hyx:y=x
   · subst hyx
     rw [if_pos rfl] at hy
     injection hy with hy
     subst hy
     exact ⟨Maps.has_put_same ho.isMap (K.key hkey) _,fun z=>Maps.atKey_put_same ho.isMap (K.key hkey) _ z⟩
   · rw [if_neg hyx] at hy
     have hne:=F.ne hok hx hyx
     exact ⟨by rw [Maps.has_put_other hne];exact (h1 y u hok hy).1,fun z=>by rw [Maps.atKey_put_other hne];exact (h1 y u hok hy).2 z⟩
 · rw [gLookup_put] at hy
   by_cases hyx:y=x
   · rw [if_pos hyx] at hy;cases hy
   · rw [if_neg hyx] at hy
     have hne:=F.ne hok hx hyx
     rw [Maps.has_put_other hne];exact h2 y hok hy
end
end Go.Proofs.YtjkmalddfoemhaaGreatDoor
namespace Go.Proofs.YtjkmalddfoemhaaGreatDoor
open Go.RowKit Go.Deep
section
variable {P:Program} {w w':World} {ops:Array Oper} {rest:List Oper} {o:Oper} {a:Act} {Q:Exit->Act->World->Prop}
theorem op_move (hg:o.guard=none) (x:Operand) (ho:o.op=.move x) {v:Value} (hx:a.eval x=v) (h:wpList P ops Q rest (a.put o.dst v) w):wpList P ops Q (o::rest) a w:=by
 refine wpList_plain hg fun K hK'=>?_
 unfold Oper.wp execOp
 simp only [ho,Sem.run_pure,hx]
 exact hK' _ _ h
theorem op_assign (hg:o.guard=none) (x:Operand) (ho:o.op=.assign x) {v:Value} (hx:a.eval x=v) (h:wpList P ops Q rest (a.put o.dst v) w):wpList P ops Q (o::rest) a w:=by
 refine wpList_plain hg fun K hK'=>?_
 unfold Oper.wp execOp
 simp only [ho,Sem.run_pure,hx]
 exact hK' _ _ h
theorem op_load (hg:o.guard=none) (t:TypeId) (x:Operand) (ho:o.op=.load t x) {v0 v:Value} (hx:a.eval x=v0) (hrun:(Instr.loadAt t v0).run P w=.ok v w') (h:wpList P ops Q rest (a.put o.dst v) w'):wpList P ops Q (o::rest) a w:=by
 refine wpList_plain hg fun K hK'=>?_
 unfold Oper.wp execOp
 simp only [ho,Sem.run_bind,Sem.run_pure,Result.andThen_ok,hx,hrun]
 exact hK' _ _ h
theorem op_index (hg:o.guard=none) (t:TypeId) (x i:Operand) (ho:o.op=.indexAddr t x i) {v0 v1 v:Value} (hx:a.eval x=v0) (hi:a.eval i=v1) (hrun:(Instr.indexAt t v0 v1).run P w=.ok v w') (h:wpList P ops Q rest (a.put o.dst v) w'):wpList P ops Q (o::rest) a w:=by
 refine wpList_plain hg fun K hK'=>?_
 unfold Oper.wp execOp
 simp only [ho,Sem.run_bind,Sem.run_pure,Result.andThen_ok,hx,hi,hrun]
 exact hK' _ _ h
theorem op_alloc (hg:o.guard=none) (t:TypeId) (ho:o.op=.alloc t) {v:Value} (hrun:(Instr.alloc t true (.tuple #[])).run P w=.ok v w') (h:wpList P ops Q rest (a.put o.dst v) w'):wpList P ops Q (o::rest) a w:=by
 refine wpList_plain hg fun K hK'=>?_
 unfold Oper.wp execOp
 simp only [ho,Sem.run_bind,Sem.run_pure,Result.andThen_ok,hrun]
 exact hK' _ _ h
theorem op_store (hg:o.guard=none) (t:TypeId) (x y:Operand) (ho:o.op=.store t x y) {v0 v1:Value} (hx:a.eval x=v0) (hy:a.eval y=v1) (hrun:(Instr.storeAt t v0 v1).run P w=.ok () w') (h:wpList P ops Q rest (a.put o.dst undef) w'):wpList P ops Q (o::rest) a w:=by
 refine wpList_plain hg fun K hK'=>?_
 unfold Oper.wp execOp
 simp only [ho,Sem.run_bind,Sem.run_pure,Result.andThen_ok,hx,hy,hrun]
 exact hK' _ _ h
theorem op_box (hg:o.guard=none) (t:TypeId) (x:Operand) (ho:o.op=.box t x) {v0 v:Value} (hx:a.eval x=v0) (hrun:(Instr.box t v0).run P w=.ok v w') (h:wpList P ops Q rest (a.put o.dst v) w'):wpList P ops Q (o::rest) a w:=by
 refine wpList_plain hg fun K hK'=>?_
 unfold Oper.wp execOp
 simp only [ho,Sem.run_bind,Sem.run_pure,Result.andThen_ok,hx,hrun]
 exact hK' _ _ h
theorem op_nilp (hg:o.guard=none) (x:Operand) (ho:o.op=.nilCheck x) {p:Addr} (hx:a.eval x=.pointer (some p)) (h:wpList P ops Q rest (a.put o.dst (.pointer (some p))) w):wpList P ops Q (o::rest) a w:=by
 refine wpList_plain hg fun K hK'=>?_
 unfold Oper.wp execOp
 simp only [ho,hx,Sem.run_pure]
 exact hK' _ _ h
theorem op_field (hg:o.guard=none) (t:TypeId) (x:Operand) (f:Nat) (ho:o.op=.fieldAddr t x f) {v0 v:Value} (hx:a.eval x=v0) (hrun:(Instr.fieldAt t v0 f).run P w=.ok v w') (h:wpList P ops Q rest (a.put o.dst v) w'):wpList P ops Q (o::rest) a w:=by
 refine wpList_plain hg fun K hK'=>?_
 unfold Oper.wp execOp
 simp only [ho,Sem.run_bind,Sem.run_pure,Result.andThen_ok,hx,hrun]
 exact hK' _ _ h
theorem op_build (hg:o.guard=none) (t:TypeId) (ps:Array (Nat×Operand)) (ho:o.op=.build t ps) {vs:List (Nat×Value)} {v:Value} (hx:(ps.toList.map fun (i,x)=>(i,a.eval x))=vs) (hrun:(Instr.build t vs.toArray).run P w=.ok v w') (h:wpList P ops Q rest (a.put o.dst v) w'):wpList P ops Q (o::rest) a w:=by
 refine wpList_plain hg fun K hK'=>?_
 unfold Oper.wp execOp
 simp only [ho,Sem.run_bind,Sem.run_pure]
 have e:(Array.map (fun x=>(x.1,a.eval x.2)) ps)=vs.toArray:=by
  rw [<-hx];exact Array.ext' (by simp)
 rw [e,hrun]
 exact hK' _ _ h
theorem op_buildSlice (hg:o.guard=none) (t:TypeId) (n:Nat) (ps:Array (Nat×Operand)) (ho:o.op=.buildSlice t n ps) {vs:List (Nat×Value)} {v:Value} (hx:(ps.toList.map fun (i,x)=>(i,a.eval x))=vs) (hrun:(Instr.buildSlice t n vs.toArray).run P w=.ok v w') (h:wpList P ops Q rest (a.put o.dst v) w'):wpList P ops Q (o::rest) a w:=by
 refine wpList_plain hg fun K hK'=>?_
 unfold Oper.wp execOp
 simp only [ho,Sem.run_bind,Sem.run_pure]
 have e:(Array.map (fun x=>(x.1,a.eval x.2)) ps)=vs.toArray:=by
  rw [<-hx];exact Array.ext' (by simp)
 rw [e,hrun]
 exact hK' _ _ h
end
end Go.Proofs.YtjkmalddfoemhaaGreatDoor
namespace Go.Proofs.YtjkmalddfoemhaaGreatDoor
open Go.RowKit Go.Deep
section
variable {P:Program} {ops:Array Oper} {S:World->Prop} {o:Oper} {a:Act}
theorem yields_move (hw:Region.wanted o (yielded ops a.tmps)=true) (x:Operand) (ho:o.op=.move x) {v:Value} (hx:a.eval x=v):YieldsIf P ops S o v a :=
 .inl ⟨hw,fun w _=>by unfold execOp;simp only [ho,Sem.run_pure,hx]⟩
theorem yields_load (hw:Region.wanted o (yielded ops a.tmps)=true) (t:TypeId) (x:Operand) (ho:o.op=.load t x) {v0 v:Value} (hx:a.eval x=v0) (hrun:∀ w,S w->(Instr.loadAt t v0).run P w=.ok v w):YieldsIf P ops S o v a :=
 .inl ⟨hw,fun w hS=>by unfold execOp;simp only [ho,Sem.run_bind,Sem.run_pure,Result.andThen_ok,hx,hrun w hS]⟩
theorem yields_index (hw:Region.wanted o (yielded ops a.tmps)=true) (t:TypeId) (x i:Operand) (ho:o.op=.indexAddr t x i) {v0 v1 v:Value} (hx:a.eval x=v0) (hi:a.eval i=v1) (hrun:∀ w,S w->(Instr.indexAt t v0 v1).run P w=.ok v w):YieldsIf P ops S o v a :=
 .inl ⟨hw,fun w hS=>by unfold execOp;simp only [ho,Sem.run_bind,Sem.run_pure,Result.andThen_ok,hx,hi,hrun w hS]⟩
theorem yields_field (hw:Region.wanted o (yielded ops a.tmps)=true) (t:TypeId) (x:Operand) (f:Nat) (ho:o.op=.fieldAddr t x f) {v0 v:Value} (hx:a.eval x=v0) (hrun:∀ w,S w->(Instr.fieldAt t v0 f).run P w=.ok v w):YieldsIf P ops S o v a :=
 .inl ⟨hw,fun w hS=>by unfold execOp;simp only [ho,Sem.run_bind,Sem.run_pure,Result.andThen_ok,hx,hrun w hS]⟩
theorem yields_nilp (hw:Region.wanted o (yielded ops a.tmps)=true) (x:Operand) (ho:o.op=.nilCheck x) {p:Addr} (hx:a.eval x=.pointer (some p)):YieldsIf P ops S o (.pointer (some p)) a :=
 .inl ⟨hw,fun w _=>by unfold execOp;simp only [ho,Sem.run_pure,hx]⟩
end
theorem then_nil {P:Program} {ops:Array Oper} {K:Act->World->Prop} {Q:Exit->Act->World->Prop} {a:Act} {w:World} (h:K a w):wpList P ops (Exit.then K Q) [] a w:=wpList_nil (show Exit.then K Q .normal a w from h)
end Go.Proofs.YtjkmalddfoemhaaGreatDoor
