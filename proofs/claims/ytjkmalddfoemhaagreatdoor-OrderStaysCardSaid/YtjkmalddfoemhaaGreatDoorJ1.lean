/- A plain model of layer 1: encodings and readers, and what they have to do with each other. No program in sight. -/
import Derived.Test.YtjkmalddfoemhaaGreatDoorRows
import Derived.Lib.ItoaLen
import Derived.Lib.AtoiAll
import Derived.Lib.Bytealg
import Derived.WalkKit
import Derived.WalkSpells
import Derived.WalkLawsBesides
import Derived.ProofKit
import Derived.OpenShut
import Derived.ChangeOld
import Derived.Deep.Slices
import Derived.BigFrame
namespace Go.Proofs.YtjkmalddfoemhaaGreatDoor
open Go
def I64 (n:Int):Prop:=-9223372036854775808<=n/\n<=9223372036854775807
def minI:Int:=-9223372036854775808
def intE (n:Int):List UInt8:=Lib.itoa n++[59]
def numE (n:Int):List UInt8:=if n<0 then [] else intE n
def textE (s:List UInt8):List UInt8:=Lib.itoa s.length++58::(s++[44])
def listE {α:Type} (f:α->List UInt8) (l:List α):List UInt8:=Lib.itoa l.length++91::((l.map f).flatten++[93])
def numsE:List Int->List UInt8:=listE intE
theorem dec_len:∀ (k u:Nat),u<10 ^ (k+1)->(Lib.decDigits u).length<=k+1
 | 0,u,h=>by rw [Lib.decDigits,dif_pos (by simpa using h)];simp
 | k+1,u,h=>by
   by_cases h10:u<10
   · rw [Lib.decDigits,dif_pos h10];simp
   · rw [Lib.decDigits,dif_neg h10,List.length_append,List.length_singleton]
     have:=dec_len k (u / 10) (by rw [Nat.pow_succ] at h;omega)
     omega
theorem itoa_len {n:Int} (h:I64 n):(Lib.itoa n).length<=20:=by
 obtain ⟨h1,h2⟩:=h
 have hp:(10:Nat) ^ (18+1)=10000000000000000000:=by decide
 unfold Lib.itoa
 split
 · rw [List.length_cons]
   have:=dec_len 18 n.natAbs (by rw [hp];omega)
   omega
 · have:=dec_len 18 n.toNat (by rw [hp];omega)
   omega
theorem atoi_i64 {l:List UInt8} {n:Int} (h:Lib.atoiAll l=.ok n):I64 n:=by
 unfold Lib.atoiAll at h
 split at h
 · cases h
 · dsimp only at h
   split at h
   · cases h
   · cases h
   · split at h
     · cases h
     · split at h
       · cases h
       · injection h with h
         unfold I64
         split at h<;>omega
structure RS where
 rest:List UInt8
 bad:Bool
def failS:RS:=⟨[],true⟩
def RS.Ok (r:RS):Prop:=r.bad=true->r.rest=[]
def numRd (e:UInt8) (least:Int) (r:List UInt8):Option (Int×List UInt8) :=
 if Lib.indexByte (r.take 21) e<0 then none
 else match Lib.atoiAll (r.take (Lib.indexByte (r.take 21) e).toNat) with
  | .ok n=>if Lib.itoa n=r.take (Lib.indexByte (r.take 21) e).toNat/\least<=n then some (n,r.drop ((Lib.indexByte (r.take 21) e).toNat+1)) else none
  | _=>none
def numberF (e:UInt8) (least:Int) (r:RS):Int×RS :=
 match numRd e least r.rest with
 | some (n,t)=>(n,⟨t,r.bad⟩)
 | none=>(0,failS)
def closeF (c:UInt8) (r:RS):RS :=
 match r.rest with
 | b::t=>if b=c then ⟨t,r.bad⟩ else failS
 | []=>failS
def textF (r:RS):List UInt8×RS :=
 if ((numberF 58 0 r).2.rest.length:Int)<(numberF 58 0 r).1 then ([],failS)
 else if (closeF 44 ⟨(numberF 58 0 r).2.rest.drop (numberF 58 0 r).1.toNat,(numberF 58 0 r).2.bad⟩).bad then ([],closeF 44 ⟨(numberF 58 0 r).2.rest.drop (numberF 58 0 r).1.toNat,(numberF 58 0 r).2.bad⟩)
 else ((numberF 58 0 r).2.rest.take (numberF 58 0 r).1.toNat,closeF 44 ⟨(numberF 58 0 r).2.rest.drop (numberF 58 0 r).1.toNat,(numberF 58 0 r).2.bad⟩)
def itemsL {α:Type} (one:RS->α×RS):Nat->RS->List α->List α×RS
 | 0,r,out=>(out,r)
 | n+1,r,out=>if r.bad then (out,r) else itemsL one n (one r).2 (out++[(one r).1])
def itemsF {α:Type} (one:RS->α×RS) (r:RS):List α×RS :=
 if (closeF 93 (itemsL one (numberF 91 0 r).1.toNat (numberF 91 0 r).2 []).2).bad then ([],closeF 93 (itemsL one (numberF 91 0 r).1.toNat (numberF 91 0 r).2 []).2)
 else ((itemsL one (numberF 91 0 r).1.toNat (numberF 91 0 r).2 []).1,closeF 93 (itemsL one (numberF 91 0 r).1.toNat (numberF 91 0 r).2 []).2)
def numF:RS->Int×RS:=numberF 59 0
def intF:RS->Int×RS:=numberF 59 minI
def numsF:RS->List Int×RS:=itemsF intF
theorem index_none {l:List UInt8} {e:UInt8} (h:e∉l):Lib.indexByte l e=-1:=by
 induction l with
 | nil=>rfl
 | cons b l ih =>
   unfold Lib.indexByte
   rw [if_neg (by simp only [beq_iff_eq];intro hb;exact h (by rw [hb];simp)),ih (fun hm=>h (List.mem_cons_of_mem _ hm))]
   rfl
theorem index_at {l:List UInt8} {e:UInt8} (t:List UInt8) (h:e∉l):Lib.indexByte (l++e::t) e=l.length:=by
 induction l with
 | nil=>unfold Lib.indexByte;simp
 | cons b l ih =>
   rw [List.cons_append]
   unfold Lib.indexByte
   rw [if_neg (by simp only [beq_iff_eq];intro hb;exact h (by rw [hb];simp)),ih (fun hm=>h (List.mem_cons_of_mem _ hm)),if_neg (by simp only [beq_iff_eq];omega),List.length_cons]
   omega
theorem index_some {l:List UInt8} {e:UInt8} (h:0<=Lib.indexByte l e):∃ p t,l=p++e::t/\e∉p/\Lib.indexByte l e=p.length:=by
 by_cases hm:e∈l
 · obtain ⟨p,t,rfl,hp⟩:=List.eq_append_cons_of_mem hm
   exact ⟨p,t,rfl,hp,index_at t hp⟩
 · rw [index_none hm] at h;omega
theorem numRd_some {e:UInt8} {least n:Int} {r t:List UInt8} (h:numRd e least r=some (n,t)):r=Lib.itoa n++e::t/\I64 n/\least<=n:=by
 unfold numRd at h
 split at h
 · cases h
 · rename_i h0
   split at h
   · rename_i m hm
     split at h
     · rename_i hc
       injection h with h
       injection h with h1 h2
       subst h1
       obtain ⟨p,q,hp,_,hi⟩:=index_some (l:=r.take 21) (e:=e) (by omega)
       rw [hi,Int.toNat_natCast] at hc h2
       obtain ⟨u,hr⟩:∃ u,r=p++e::u:=⟨q++r.drop 21,by
        have:=List.take_append_drop 21 r
        rw [hp] at this
        simpa using this.symm⟩
       subst hr
       rw [List.take_left] at hc
       refine ⟨?_,atoi_i64 hm,hc.2⟩
       rw [hc.1,<-h2,List.drop_append,List.drop_eq_nil_of_le (by omega),show p.length+1-p.length=1 by omega]
       rfl
     · cases h
   · cases h
theorem numRd_nil (e:UInt8) (least:Int):numRd e least []=none:=by
 unfold numRd
 rw [if_pos (show Lib.indexByte ([].take 21) e<0 from (show (-1:Int)<0 by decide))]
theorem numberF_cases (e:UInt8) (least:Int) (r:RS) :
 (∃ n t,numRd e least r.rest=some (n,t)/\numberF e least r=(n,⟨t,r.bad⟩)/\r.rest=Lib.itoa n++e::t/\I64 n/\least<=n)\/(numRd e least r.rest=none/\numberF e least r=(0,failS)):=by
 cases h:numRd e least r.rest with
 | none=>exact .inr ⟨rfl,by unfold numberF;rw [h]⟩
 | some x =>
   obtain ⟨n,t⟩:=x
   obtain ⟨h1,h2,h3⟩:=numRd_some h
   exact .inl ⟨n,t,rfl,by unfold numberF;rw [h],h1,h2,h3⟩
theorem numberF_ok (e:UInt8) (least:Int) {r:RS} (h:r.Ok):(numberF e least r).2.Ok:=by
 rcases numberF_cases e least r with ⟨n,t,_,h2,h3,_⟩ | ⟨_,h2⟩
 · rw [h2]
   intro hb
   have:=h hb
   rw [this] at h3
   exact absurd h3.symm (by simp)
 · rw [h2];exact fun _=>rfl
theorem numberF_i64 (e:UInt8) (least:Int) (r:RS):I64 (numberF e least r).1:=by
 rcases numberF_cases e least r with ⟨n,t,_,h2,_,h3,_⟩ | ⟨_,h2⟩
 · rw [h2];exact h3
 · rw [h2];unfold I64;omega
theorem numberF_len (e:UInt8) (least:Int) (r:RS):(numberF e least r).2.rest.length<=r.rest.length-1:=by
 rcases numberF_cases e least r with ⟨n,t,_,h2,h3,_⟩ | ⟨_,h2⟩
 · rw [h2,h3];simp
 · rw [h2];simp [failS]
theorem closeF_len (c:UInt8) (r:RS):(closeF c r).rest.length<=r.rest.length-1:=by
 unfold closeF
 split
 · rename_i h;rw [h]
   split
   · simp
   · simp [failS]
 · simp [failS]
theorem closeF_ok (c:UInt8) {r:RS} (h:r.Ok):(closeF c r).Ok:=by
 unfold closeF
 split
 · rename_i hr
   split
   · intro hb
     have:=h hb
     rw [this] at hr;cases hr
   · exact fun _=>rfl
 · exact fun _=>rfl
theorem itemsL_snoc {α:Type} (one:RS->α×RS):∀ (n:Nat) (r:RS) (out:List α),r.bad=true->itemsL one n r out=(out,r)
 | 0,r,out,_=>rfl
 | n+1,r,out,h=>by rw [itemsL,if_pos h]
theorem itemsL_ok {α:Type} {one:RS->α×RS} (h1:∀ r:RS,r.Ok->(one r).2.Ok):∀ (n:Nat) (r:RS) (out:List α),r.Ok->(itemsL one n r out).2.Ok
 | 0,_,_,h=>h
 | n+1,r,out,h=>by
   rw [itemsL]
   split
   · exact h
   · exact itemsL_ok h1 n _ _ (h1 r h)
theorem itemsF_ok {α:Type} {one:RS->α×RS} (h1:∀ r:RS,r.Ok->(one r).2.Ok) {r:RS} (h:r.Ok):(itemsF one r).2.Ok:=by
 have h2:=closeF_ok 93 (itemsL_ok h1 (numberF 91 0 r).1.toNat _ [] (numberF_ok 91 0 h))
 unfold itemsF
 split<;>exact h2
theorem intF_ok {r:RS} (h:r.Ok):(intF r).2.Ok:=numberF_ok _ _ h
theorem numF_ok {r:RS} (h:r.Ok):(numF r).2.Ok:=numberF_ok _ _ h
theorem numsF_ok {r:RS} (h:r.Ok):(numsF r).2.Ok:=itemsF_ok (fun _ h=>intF_ok h) h
theorem itemsL_bound {α:Type} {one:RS->α×RS} (hl:∀ r:RS,(one r).2.rest.length<=r.rest.length-1) (ho:∀ r:RS,r.Ok->(one r).2.Ok) (hb:∀ r:RS,r.rest=[]->(one r).2.bad=true):∀ (n:Nat) (r:RS) (out:List α),r.Ok →
 (itemsL one n r out).1.length+(itemsL one n r out).2.rest.length<=out.length+r.rest.length+1
 | 0,r,out,_=>by rw [itemsL];dsimp only;omega
 | n+1,r,out,h=>by
   rw [itemsL]
   split
   · dsimp only;omega
   · by_cases hr:r.rest=[]
     · rw [itemsL_snoc one n _ _ (hb r hr)]
       dsimp only
       have h1:=hl r
       have h2:r.rest.length=0:=by rw [hr];rfl
       rw [List.length_append,List.length_singleton]
       omega
     · have h1:=itemsL_bound hl ho hb n (one r).2 (out++[(one r).1]) (ho r h)
       have h2:=hl r
       have h3:0<r.rest.length:=List.length_pos_iff.2 hr
       rw [List.length_append,List.length_singleton] at h1
       omega
end Go.Proofs.YtjkmalddfoemhaaGreatDoor
namespace Go.Proofs.YtjkmalddfoemhaaGreatDoor
open Go.RowKit Go.ChangeShapes Go.WideShapes Go.Deep
theorem hid {p:Prop} (h:p):Hid p:=h
structure Upd (S:Nat->Prop) (w w':World):Prop where
 os:w'.os=w.os
 tape:w'.tape=w.tape
 output:w'.output=w.output
 size:w.heap.size<=w'.heap.size
 block:∀ k,k<w.heap.size->¬S k->w'.heap[k]? = w.heap[k]?
theorem Upd.refl (S:Nat->Prop) (w:World):Upd S w w:=⟨rfl,rfl,rfl,Nat.le_refl _,fun _ _ _=>rfl⟩
theorem Upd.trans {S:Nat->Prop} {a b c:World} (h:Upd S a b) (k:Upd S b c):Upd S a c :=
 ⟨k.os.trans h.os,k.tape.trans h.tape,k.output.trans h.output,Nat.le_trans h.size k.size,fun i hi hs=>(k.block i (Nat.lt_of_lt_of_le hi h.size) hs).trans (h.block i hi hs)⟩
theorem Upd.mono {S T:Nat->Prop} {a b:World} (h:Upd S a b) (hs:∀ k,S k->T k):Upd T a b :=
 ⟨h.os,h.tape,h.output,h.size,fun i hi ht=>h.block i hi fun hk=>ht (hs i hk)⟩
theorem Upd.drew {S:Nat->Prop} {a w:World} (h:Upd S a w):Upd S a w.drew:=⟨h.os,h.tape,h.output,h.size,h.block⟩
theorem Upd.drewN {S:Nat->Prop} {a w:World} (h:Upd S a w) (n:Nat):Upd S a (w.drewN n):=⟨h.os,h.tape,h.output,h.size,h.block⟩
theorem Upd.alloc {S:Nat->Prop} {a w:World} (h:Upd S a w) (o:Obj):Upd S a (w.alloc o) :=
 h.trans ⟨rfl,rfl,rfl,by simp,fun k hk _=>Below.heap_alloc _ _ _ hk⟩
theorem Upd.setCell {S:Nat->Prop} {a w:World} (h:Upd S a w) (p:Addr) (u:Value) (hp:S p.block\/a.heap.size<=p.block):Upd S a (w.setCell p u) :=
 ⟨h.os,h.tape,h.output,by simpa using h.size,fun k hk hs=>(Below.heap_setCell _ _ _ _ (by
  intro e;subst e;rcases hp with hp | hp
  · exact hs hp
  · omega)).trans (h.block k hk hs)⟩
theorem Upd.at_ {p:Nat} {a w:World} (h:Upd (· = p) a w) (o:Nat) (u:Value):Upd (· = p) a (w.setCell ⟨p,o,none⟩ u):=h.setCell _ u (.inl rfl)
theorem Upd.below {S:Nat->Prop} {B:Nat} {a b:World} (h:Upd S a b) (hB:B<=a.heap.size) (hs:∀ k,S k->B<=k):Below B a b :=
 ⟨h.os,h.tape,h.output,h.size,fun k hk=>h.block k (by omega) fun hS=>by have:=hs k hS;omega⟩
theorem Upd.of_below {B:Nat} {a b:World} {S:Nat->Prop} (h:Below B a b) (hs:∀ k,k<a.heap.size->¬S k->k<B):Upd S a b :=
 ⟨h.os,h.tape,h.output,h.size,fun k hk hS=>h.block k (hs k hk hS)⟩
theorem Upd.grown {S:Nat->Prop} {a w w':World} {row:Option Nat} (h:Upd S a w) (hg:w.grownBy w' row) (hr:∀ k,row=some k->S k\/a.heap.size<=k):Upd S a w' :=
 ⟨hg.os.trans h.os,hg.tape.trans h.tape,hg.output.trans h.output,Nat.le_trans h.size hg.size,fun k hk hS=>(hg.block k (Nat.lt_of_lt_of_le hk h.size) (fun e=>by
  rcases hr k e.symm with h1 | h1
  · exact hS h1
  · omega)).trans (h.block k hk hS)⟩
def Obj.setAt (a:Addr) (u:Value):Obj->Obj
 | .cells c e f=>.cells (if a.spot.isSome then c else c.setIfInBounds a.off u) e f
 | o=>o
theorem heap_setCell (w:World) (a:Addr) (u:Value) (k:Nat):(w.setCell a u).heap[k]? = if a.block=k then (w.heap[k]?).map (Obj.setAt a u) else w.heap[k]?:=by
 simp only [World.setCell,Array.getElem?_modify]
 split
 · rfl
 · rfl
theorem heap_setCell_same {w:World} {p:Addr} {c:Array Value} {t:TypeId} {fr:Nat×Nat} {u:Value} (hp:p.spot=none) (h:w.heap[p.block]? = some (.cells c t fr)) :
 (w.setCell p u).heap[p.block]? = some (.cells (c.setIfInBounds p.off u) t fr):=by
 simp [World.setCell,Array.getElem?_modify,h,hp]
theorem heap_alloc_old {w:World} {o:Obj} {k:Nat} (h:k<w.heap.size):(w.alloc o).heap[k]? = w.heap[k]?:=Below.heap_alloc _ _ _ h
theorem heap_alloc_new {w:World} {o:Obj}:(w.alloc o).heap[w.heap.size]? = some o:=by show (w.heap.push o)[_]? = _;simp
theorem heap_lt {w:World} {k:Nat} {o:Obj} (h:w.heap[k]? = some o):k<w.heap.size:=by
 rcases Nat.lt_or_ge k w.heap.size with g | g
 · exact g
 · simp [Array.getElem?_eq_none g] at h
theorem cell_of_block {w:World} {p o:Nat} {c:Array Value} {t:TypeId} {fr:Nat×Nat} (h:w.heap[p]? = some (.cells c t fr)):w.cell? ⟨p,o,none⟩=c[o]?:=by
 simp [World.cell?,h]
theorem frozen_of_block {w:World} {p o:Nat} {c:Array Value} {t:TypeId} (h:w.heap[p]? = some (.cells c t (0,0))):w.frozen? ⟨p,o,none⟩=false:=by
 simp [World.frozen?,h]
theorem cell_kept {w w':World} {a:Addr} {v:Value} (h:w.cell? a=some v) (e:w'.heap[a.block]? = w.heap[a.block]?):w'.cell? a=some v:=by
 rw [World.cell?_of_block (w:=w) e];exact h
theorem wpList_append_run {P:Program} {w w':World} {ops:Array Oper} {rest:List Oper} {o:Oper} {a:Act} {Q:Exit->Act->World->Prop} (hg:o.guard=none) (s x:Operand) (t t':TypeId)
 (ho:o.op=.call { callee:=.builtin .append,args:=#[s,x],argTypes:=#[t,t'] }) {v0 v1 v':Value} (hs:a.eval s=v0) (hx:a.eval x=v1)
 (hrun:(Builtin.append_ #[t,t'] o.type #[v0,v1]).run P w=.ok v' w') (h:wpList P ops Q rest (a.put o.dst v') w'):wpList P ops Q (o::rest) a w:=by
 refine wpList_plain hg fun K hK'=>?_
 unfold Oper.wp execOp
 simp only [ho,resolve,invoke,builtin,Sem.run_bind,Sem.run_pure,Result.andThen_ok,List.map_toArray,List.map_cons,List.map_nil,hs,hx,hrun]
 exact hK' _ _ h
def Same (A:Nat->Prop) (w w':World):Prop:=∀ b,A b->b<w.heap.size->w'.heap[b]? = w.heap[b]?
theorem Same.of_upd {A S:Nat->Prop} {w w':World} (u:Upd S w w') (h:∀ b,A b->¬S b):Same A w w':=fun b hb hl=>u.block b hl (h b hb)
theorem Same.of_below {A:Nat->Prop} {B:Nat} {w w':World} (u:Below B w w') (h:∀ b,A b->b<B):Same A w w':=fun b hb _=>u.block b (h b hb)
structure Knd (α:Type) where
 size:Nat
 rep:(Nat->Prop)->World->List Value->α->Prop
 len:∀ {A w cs x},rep A w cs x->cs.length=size
 keep:∀ {A w w' cs x},rep A w cs x->Same A w w'->rep A w' cs x
 mono:∀ {A A':Nat->Prop} {w cs x},rep A w cs x->(∀ b,A b->A' b)->rep A' w cs x
def kInt (k:IntKind):Knd Int where
 size:=1
 rep _ _ cs x:=cs=[.int k x]/\(Lit.int k x).wf=true
 len h:=by rw [h.1];rfl
 keep h _:=h
 mono h _:=h
def kStr:Knd ByteArray where
 size:=1
 rep _ _ cs x:=cs=[.string x]/\x.size<=maxLen
 len h:=by rw [h.1];rfl
 keep h _:=h
 mono h _:=h
def kPair {α β:Type} (K:Knd α) (L:Knd β):Knd (α×β) where
 size:=K.size+L.size
 rep A w cs x:=∃ c d,cs=c++d/\K.rep A w c x.1/\L.rep A w d x.2
 len h:=by obtain ⟨c,d,rfl,h1,h2⟩:=h;rw [List.length_append,K.len h1,L.len h2]
 keep h s:=by obtain ⟨c,d,e,h1,h2⟩:=h;exact ⟨c,d,e,K.keep h1 s,L.keep h2 s⟩
 mono h s:=by obtain ⟨c,d,e,h1,h2⟩:=h;exact ⟨c,d,e,K.mono h1 s,L.mono h2 s⟩
def kMap {α β:Type} (K:Knd α) (f:β->α):Knd β where
 size:=K.size
 rep A w cs x:=K.rep A w cs (f x)
 len h:=K.len h
 keep h s:=K.keep h s
 mono h s:=K.mono h s
def CellsAt (w:World) (b o:Nat) (cs:List Value):Prop:=∀ j,j<cs.length->w.cell? ⟨b,o+j,none⟩=cs[j]?
theorem CellsAt.keep {w w':World} {b o:Nat} {cs:List Value} (h:CellsAt w b o cs) (e:b<w.heap.size->w'.heap[b]? = w.heap[b]?):CellsAt w' b o cs:=by
 intro j hj
 have hj':=h j hj
 have hs:cs[j]? = some cs[j]:=List.getElem?_eq_getElem hj
 rw [hs] at hj' ⊢
 exact cell_kept hj' (e (World.block_lt_of_cell? _ _ hj'))
def Elems {α:Type} (K:Knd α) (A:Nat->Prop) (w:World) (b o:Nat) (l:List α):Prop :=
 ∀ i (h:i<l.length),∃ cs,K.rep A w cs l[i]/\CellsAt w b (o+i*K.size) cs
theorem Elems.keep {α:Type} {K:Knd α} {A:Nat->Prop} {w w':World} {b o:Nat} {l:List α} (h:Elems K A w b o l) (s:Same A w w') (hb:A b):Elems K A w' b o l:=fun i hi =>
 let ⟨cs,h1,h2⟩:=h i hi
 ⟨cs,K.keep h1 s,h2.keep fun hl=>s b hb hl⟩
theorem Elems.mono {α:Type} {K:Knd α} {A A':Nat->Prop} {w:World} {b o:Nat} {l:List α} (h:Elems K A w b o l) (s:∀ b,A b->A' b):Elems K A' w b o l:=fun i hi =>
 let ⟨cs,h1,h2⟩:=h i hi
 ⟨cs,K.mono h1 s,h2⟩
def kSlice {α:Type} (K:Knd α):Knd (List α) where
 size:=1
 rep A w cs l:=(∃ a cap,cs=[.slice a 0 cap]/\cap<=maxLen/\l=[]) ∨
  ∃ b o cap,cs=[.slice (some ⟨b,o,none⟩) l.length cap]/\l.length<=cap/\cap<=maxLen/\A b/\Elems K A w b o l
 len h:=by rcases h with ⟨_,_,rfl,_⟩ | ⟨_,_,_,rfl,_⟩<;>rfl
 keep h s:=by
  rcases h with h | ⟨b,o,cap,h1,h2,h3,h4,h5⟩
  · exact .inl h
  · exact .inr ⟨b,o,cap,h1,h2,h3,h4,h5.keep s h4⟩
 mono h s:=by
  rcases h with h | ⟨b,o,cap,h1,h2,h3,h4,h5⟩
  · exact .inl h
  · exact .inr ⟨b,o,cap,h1,h2,h3,s b h4,h5.mono s⟩
theorem slice_open {α:Type} {K:Knd α} {A:Nat->Prop} {w:World} {v:Value} {l:List α} (h:(kSlice K).rep A w [v] l) :
 ∃ a cap,v=.slice a l.length cap/\l.length<=cap/\cap<=maxLen/\(0<l.length->∃ b o,a=some ⟨b,o,none⟩/\A b/\Elems K A w b o l):=by
 rcases h with ⟨a,cap,hv,h1,rfl⟩ | ⟨b,o,cap,hv,h1,h2,h3,h4⟩
 · injection hv with hv _
   exact ⟨a,cap,hv,Nat.zero_le _,h1,fun h=>absurd h (Nat.lt_irrefl 0)⟩
 · injection hv with hv _
   exact ⟨_,cap,hv,h1,h2,fun _=>⟨b,o,rfl,h3,h4⟩⟩
theorem Elems.cell {α:Type} {K:Knd α} {A:Nat->Prop} {w:World} {b o:Nat} {l:List α} (h:Elems K A w b o l) {i:Nat} (hi:i<l.length) :
 ∃ cs,K.rep A w cs l[i]/\∀ j,j<K.size->w.cell? ⟨b,o+i*K.size+j,none⟩=cs[j]?:=by
 obtain ⟨cs,h1,h2⟩:=h i hi
 exact ⟨cs,h1,fun j hj=>h2 j (by rw [K.len h1];exact hj)⟩
section
variable {H:Type} {enc:TypeId×Value->H} {P:Program} {w:World} {spare:Nat->Bool} {held:Bool}
def Reads (P:Program) (t:TypeId) {α:Type} (K:Knd α):Prop :=
 P.cellsOf t=K.size/\∀ (H:Type) (enc:TypeId×Value->H) (w:World) (spare:Nat->Bool) (held:Bool) (n:Nat) (cs:List Value) (y:DataW H×List MemPlace),
  DataW.trod enc P w 0 spare held n t cs=some y->∃ x,K.rep (· < w.heap.size) w cs x
theorem reads_int {t:TypeId} {k:IntKind} (ht:P.underlying t=some (.int k)) (hc:P.cellsOf t=1):Reads P t (kInt k) :=
 ⟨hc,fun H enc w spare held n cs y h=>by
  obtain ⟨x,h1,_,h3⟩:=DataW.trod_int ht h
  exact ⟨x,h1,h3⟩⟩
theorem reads_str {t:TypeId} (ht:P.underlying t=some .string) (hc:P.cellsOf t=1):Reads P t kStr :=
 ⟨hc,fun H enc w spare held n cs y h=>by
  obtain ⟨x,h1,_,h3⟩:=DataW.trod_string ht h
  exact ⟨x,h1,h3⟩⟩
theorem cells?_cellsAt {w:World} {a:Addr} {n:Nat} {cs:List Value} (h:w.cells? 0 a n=some cs):cs.length=n/\∀ j,j<n->w.cell? (a.add j)=cs[j]?:=by
 obtain ⟨_,h1,h2⟩:=World.cells?_some h
 exact ⟨h1,h2⟩
theorem reads_slice {t e:TypeId} {α:Type} {K:Knd α} (ht:P.underlying t=some (.slice e)) (hc:P.cellsOf t=1) (hK:Reads P e K) (hpos:0<K.size):Reads P t (kSlice K) :=
 ⟨hc,fun H enc w spare held n cs y h=>by
  obtain ⟨hsz,hr⟩:=hK
  rcases open_slice ht h with ⟨h0,_⟩ | ⟨a,len,cap,m,n,D,Pl,hcs,_,hl,hm,hmm,_,hi⟩
  · exact ⟨[],.inl ⟨none,0,h0,Nat.zero_le _,rfl⟩⟩
  · have hml:len<=m:=by rw [hmm];split<;>omega
    by_cases hne:len=0
    · subst hne
      exact ⟨[],.inl ⟨some a,cap,hcs,hm,rfl⟩⟩
    · have hel:∀ i,i<len->∃ x cs',K.rep (· < w.heap.size) w cs' x/\∀ j,j<K.size->w.cell? (a.add (i*K.size+j))=cs'[j]?:=by
       intro i hil
       obtain ⟨cs',h1,h2⟩:=hi i (by omega)
       rw [hsz] at h1
       obtain ⟨x,hx⟩:=hr _ _ _ _ _ _ _ _ h2
       obtain ⟨_,g2⟩:=cells?_cellsAt h1
       exact ⟨x,cs',hx,fun j hj=>by rw [<-Go.Deep.add_add];exact g2 j hj⟩
      obtain ⟨x0,cs0,r0,c0⟩:=hel 0 (by omega)
      have hl0:0<cs0.length:=by rw [K.len r0];exact hpos
      have hc0:=c0 0 hpos
      rw [List.getElem?_eq_getElem hl0] at hc0
      have hsp:=World.cell?_spot hc0
      have hbl:=World.block_lt_of_cell? _ _ hc0
      obtain ⟨b,o,sp⟩:=a
      have hsp:sp=none:=by simpa [Addr.add] using hsp
      subst hsp
      have hb:b<w.heap.size:=by simpa [Addr.add] using hbl
      have hch:∃ f:Nat->α,∀ i,i<len->∃ cs',K.rep (· < w.heap.size) w cs' (f i)/\∀ j,j<K.size->w.cell? (Addr.add ⟨b,o,none⟩ (i*K.size+j))=cs'[j]? :=
       ⟨fun i=>if hil:i<len then (hel i hil).choose else x0,fun i hil=>by
        show ∃ cs',K.rep _ w cs' (if hil:i<len then (hel i hil).choose else x0)/\_
        rw [dif_pos hil];exact (hel i hil).choose_spec⟩
      obtain ⟨f,hf⟩:=hch
      refine ⟨(List.range len).map f,.inr ⟨b,o,cap,by simpa using hcs,by simpa using hl,hm,hb,fun i hi'=>?_⟩⟩
      have hil:i<len:=by simpa using hi'
      obtain ⟨cs',h1,h2⟩:=hf i hil
      refine ⟨cs',by simpa using h1,fun j hj=>?_⟩
      rw [<-h2 j (by rw [<-K.len h1];exact hj)]
      simp only [Addr.add,Nat.add_assoc]
      split
      · rename_i h0
        rw [show i*K.size+j=0 by simpa using h0];rfl
      · rfl⟩
def TailReads (P:Program) (fs:Array Field) (_i off total:Nat) {α:Type} (K:Knd α):Prop :=
 off+K.size=total/\∀ (H:Type) (enc:TypeId×Value->H) (w:World) (spare:Nat->Bool) (held:Bool) (n:Nat) (cs:List Value) (xs:List (DataW H×List MemPlace)),
  cs.length=total->xs.length=fs.size->(∀ (j:Nat) (f:Field),fs[j]? = some f->DataW.trod enc P w 0 spare held n f.type ((cs.drop f.offset).take (P.cellsOf f.type))=xs[j]?) →
  ∃ x,K.rep (· < w.heap.size) w (cs.drop off) x
theorem tail_last {fs:Array Field} {i off total:Nat} {α:Type} {K:Knd α} {f:Field} (hf:fs[i]? = some f) (ho:f.offset=off) (hK:Reads P f.type K) (ht:off+K.size=total):TailReads P fs i off total K :=
 ⟨ht,fun H enc w spare held n cs xs hl hx h=>by
  have h1:=h i f hf
  have hi:i<xs.length:=by
   rw [hx]
   rcases Nat.lt_or_ge i fs.size with g | g
   · exact g
   · rw [Array.getElem?_eq_none g] at hf;cases hf
  rw [List.getElem?_eq_getElem hi,ho,hK.1,List.take_of_length_le (by simp;omega)] at h1
  exact hK.2 _ _ _ _ _ _ _ _ h1⟩
theorem tail_cons {fs:Array Field} {i off total:Nat} {α β:Type} {K:Knd α} {L:Knd β} {f:Field} (hf:fs[i]? = some f) (ho:f.offset=off) (hK:Reads P f.type K)
 (hL:TailReads P fs (i+1) (off+K.size) total L):TailReads P fs i off total (kPair K L) :=
 ⟨by show off+(K.size+L.size)=total;rw [<-hL.1];omega,fun H enc w spare held n cs xs hl hx h=>by
  have h1:=h i f hf
  have hi:i<xs.length:=by
   rw [hx]
   rcases Nat.lt_or_ge i fs.size with g | g
   · exact g
   · rw [Array.getElem?_eq_none g] at hf;cases hf
  rw [List.getElem?_eq_getElem hi,ho,hK.1] at h1
  obtain ⟨x,hx1⟩:=hK.2 _ _ _ _ _ _ _ _ h1
  obtain ⟨y,hy1⟩:=hL.2 H enc w spare held n cs xs hl hx h
  refine ⟨(x,y),_,_,?_,hx1,hy1⟩
  rw [<-List.drop_drop,List.take_append_drop]⟩
theorem reads_struct {t:TypeId} {fs:Array Field} {α:Type} {K:Knd α} (ht:P.underlying t=some (.struct fs)) (h:TailReads P fs 0 0 (P.cellsOf t) K):Reads P t K :=
 ⟨by have:=h.1;omega,fun H enc w spare held n cs y hy=>by
  obtain ⟨xs,n',_,_,hl,hxl,hf⟩:=DataW.trod_struct ht hy
  have:=h.2 H enc w spare held n' cs xs hl hxl hf
  rwa [List.drop_zero] at this⟩
theorem reads_map {t:TypeId} {α β:Type} {K:Knd α} {f:β->α} (g:α->β) (hg:∀ x,f (g x)=x) (h:Reads P t K):Reads P t (kMap K f) :=
 ⟨h.1,fun H enc w spare held n cs y hy=>by
  obtain ⟨x,hx⟩:=h.2 H enc w spare held n cs y hy
  exact ⟨g x,by show K.rep _ _ _ (f (g x));rw [hg];exact hx⟩⟩
theorem Reads.arg {H:Type} {enc:TypeId×Value->H} {w:World} {spare:Nat->Bool} {held:Bool} {t:TypeId} {α:Type} {K:Knd α} (hK:Reads P t K) {v:Value} {d:DataW H} {p:List MemPlace}
 (h:DataW.Trod enc P w 0 spare held t v d p):∃ x,K.rep (· < w.heap.size) w v.cells.toList x:=by
 obtain ⟨n,hn⟩:=h
 exact hK.2 _ _ _ _ _ _ _ _ hn
theorem law_args {H:Type} {enc:TypeId×Value->H} (hl:laidOutB P=true) {W W':World} (hb:Below W.heap.size W W'):∀ (ts:List TypeId) (vs:List Value) (ds:List (DataW H)) (ps:List MemPlace),
 (∀ t∈ts,P.readableRec t=true/\t<P.types.size)->DataW.TrodAll enc P W 0 (fun _=>true) true ts vs ds ps->DataW.TrodAll enc P W' 0 (fun b=>decide (b<W.heap.size)) true ts vs ds ps
 | [],vs,ds,ps,_,h=>by
   obtain ⟨rfl,rfl,rfl⟩:=trodAll_nil h
   exact trodAll_mk0
 | t::ts,vs,ds,ps,hok,h=>by
   obtain ⟨v,vs',d,ds',p,q,rfl,rfl,rfl,h1,h2⟩:=trodAll_cons h
   have hlt:∀ x∈p,x.block<W.heap.size:=by obtain ⟨m,hm⟩:=h1;exact DataW.trod_lt m _ _ _ hm
   exact trodAll_cons_mk (Below.trod hl (hok t (by simp)).1 (hok t (by simp)).2 h1 hb hlt) (law_args hl hb ts vs' ds' q (fun u hu=>hok u (by simp [hu])) h2)
end
end Go.Proofs.YtjkmalddfoemhaaGreatDoor
namespace Go.Proofs.YtjkmalddfoemhaaGreatDoor
open Go
structure Sp where
 mark:Int
 fr:Int
 to:Int
deriving DecidableEq
def Sp.Ok (s:Sp):Prop:=0<=s.mark/\s.mark<=1073741824/\0<=s.fr/\s.fr<s.to/\s.to<=1048576
instance (s:Sp):Decidable s.Ok:=by unfold Sp.Ok;exact inferInstance
def Sp.lo (s:Sp):Int:=s.mark*2097152+s.fr
def Sp.hi (s:Sp):Int:=s.mark*2097152+s.to
def HasZ (l:List Sp) (z:Int):Prop:=∃ s∈l,s.Ok/\s.lo<=z/\z<s.hi
theorem hasZ_cons (s:Sp) (l:List Sp) (z:Int):HasZ (s::l) z↔(s.Ok/\s.lo<=z/\z<s.hi)\/HasZ l z:=by
 unfold HasZ;simp
theorem Sp.lohi {s:Sp} (h:s.Ok):s.lo<s.hi:=by unfold Sp.Ok at h;unfold Sp.lo Sp.hi;omega
structure Nrm (l:List Sp):Prop where
 ok:∀ s∈l,s.Ok
 gap:l.Pairwise fun a b=>a.hi<b.lo
theorem Nrm.nil:Nrm []:=⟨fun _ h=>(nomatch h),List.Pairwise.nil⟩
theorem Nrm.tail {s:Sp} {l:List Sp} (h:Nrm (s::l)):Nrm l:=⟨fun t ht=>h.ok t (List.mem_cons_of_mem _ ht),(List.pairwise_cons.1 h.gap).2⟩
theorem Nrm.low {s:Sp} {l:List Sp} (h:Nrm (s::l)) {z:Int} (hz:HasZ l z):s.hi<z:=by
 obtain ⟨t,ht,_,h1,_⟩:=hz
 have:=(List.pairwise_cons.1 h.gap).1 t ht
 omega
theorem Nrm.least {s:Sp} {l:List Sp} (h:Nrm (s::l)) {z:Int} (hz:HasZ (s::l) z):s.lo<=z:=by
 rcases (hasZ_cons s l z).1 hz with ⟨_,h1,_⟩ | h1
 · exact h1
 · have:=h.low h1;have:=Sp.lohi (h.ok s List.mem_cons_self);omega
theorem Nrm.first {s:Sp} {l:List Sp} (h:Nrm (s::l)):HasZ (s::l) s.lo:=⟨s,List.mem_cons_self,h.ok s List.mem_cons_self,Int.le_refl _,Sp.lohi (h.ok s List.mem_cons_self)⟩
end Go.Proofs.YtjkmalddfoemhaaGreatDoor
namespace Go.Proofs.YtjkmalddfoemhaaGreatDoor
open Go
instance (l:List Sp) (z:Int):Decidable (HasZ l z):=by unfold HasZ;exact inferInstance
def spanSum:List Sp->Int
 | []=>0
 | s::r=>(s.to-s.fr)+spanSum r
end Go.Proofs.YtjkmalddfoemhaaGreatDoor
namespace Go.Proofs.YtjkmalddfoemhaaGreatDoor
open Go
end Go.Proofs.YtjkmalddfoemhaaGreatDoor
namespace Go.Proofs.YtjkmalddfoemhaaGreatDoor
theorem sum_append:∀ (a b:List Sp),spanSum (a++b)=spanSum a+spanSum b
 | [],b=>by simp [spanSum]
 | s::a,b=>by rw [List.cons_append,spanSum,spanSum,sum_append a b];omega
end Go.Proofs.YtjkmalddfoemhaaGreatDoor
namespace Go.Proofs.YtjkmalddfoemhaaGreatDoor
open Go
structure En where
 author:Int
 seq:Int
 day:Int
 knows:List Int
 kind:Int
 circle:Int
 who:Int
 n:Int
 m:Int
 ref:Int
 keys:List Int
 spans:List Sp
 text:List UInt8
deriving DecidableEq
def En.none:En:=⟨0,0,0,[],0,0,0,0,0,0,[],[],[]⟩
def useTab:List (List UInt8):=[[107,116],[99],[99],[99,119,110,109],[110,114],[119,115],[119,109,115],[99,119,109,114,115],[99,110,109,114],[110,114],[99,110,109,116],[114,116],[110,114],[114],[99,116],[119,110],[99,109],[99,107],[110,109,114],[110,109,114],[110,109,114]]
def useF (kind:Int):List UInt8:=useTab.getD kind.toNat []
def markP (n:Int):Prop:=0<=n/\n<=1073741824
def keyP (n:Int):Prop:=0<=n/\n<200
def dayP (n:Int):Prop:=0<=n/\n<=1048576
instance (n:Int):Decidable (markP n):=by unfold markP;exact inferInstance
instance (n:Int):Decidable (keyP n):=by unfold keyP;exact inferInstance
instance (n:Int):Decidable (dayP n):=by unfold dayP;exact inferInstance
def ascP:List Int->Prop
 | []=>True
 | [_]=>True
 | a::b::r=>a<b/\ascP (b::r)
def ascDec:(l:List Int)->Decidable (ascP l)
 | []=>.isTrue trivial
 | [_]=>.isTrue trivial
 | a::b::r=>by
   have:=ascDec (b::r)
   unfold ascP
   exact inferInstance
instance (l:List Int):Decidable (ascP l):=ascDec l
def keysP (l:List Int):Prop:=l≠[]/\l.length<=60/\ascP l/\keyP (l.headD 0)/\keyP (l.getLastD 0)
instance (l:List Int):Decidable (keysP l):=by unfold keysP;exact inferInstance
def plainP (e:En):Prop:=(99∉useF e.kind->e.circle=0)/\(119∉useF e.kind->e.who=0)/\(110∉useF e.kind->e.n=0)/\(109∉useF e.kind->e.m=0)/\(114∉useF e.kind->e.ref=-1)/\(107∉useF e.kind->e.keys=[])/\(115∉useF e.kind->e.spans=[])/\(116∉useF e.kind->e.text=[])
instance (e:En):Decidable (plainP e):=by unfold plainP;exact inferInstance
def nrmP:List Sp->Prop
 | []=>True
 | [a]=>a.Ok
 | a::b::r=>a.Ok/\(a.mark<b.mark\/(a.mark=b.mark/\a.to<b.fr))/\nrmP (b::r)
def nrmDec:(l:List Sp)->Decidable (nrmP l)
 | []=>.isTrue trivial
 | [a]=>by unfold nrmP;exact inferInstance
 | a::b::r=>by
   have:=nrmDec (b::r)
   unfold nrmP
   exact inferInstance
instance (l:List Sp):Decidable (nrmP l):=nrmDec l
theorem nrmP_ok:∀ {l:List Sp},nrmP l->∀ s∈l,s.Ok
 | [],_,s,h=>nomatch h
 | [a],h,s,hs=>by rw [List.mem_singleton.1 hs];exact h
 | a::b::r,h,s,hs=>by
   rcases List.mem_cons.1 hs with rfl | hs
   · exact h.1
   · exact nrmP_ok h.2.2 s hs
def coinsP (n:Int):Prop:=0<=n/\n<=1099511627776
instance (n:Int):Decidable (coinsP n):=by unfold coinsP;exact inferInstance
def numbersP (e:En):Prop :=
 if e.kind=3 then 1<=e.n/\e.n<=1048576/\dayP e.m
 else if e.kind=4 then markP e.ref/\1<=e.n/\e.n<=1048576
 else if e.kind=6 then dayP e.m
 else if e.kind=7 then dayP e.m/\(e.ref=-1\/markP e.ref)
 else if e.kind=8 then dayP e.m/\((coinsP e.n/\e.ref=-1)\/(e.n=-1/\markP e.ref))
 else if e.kind=9 then markP e.ref/\coinsP e.n
 else if e.kind=10 then coinsP e.n/\0<e.n/\dayP e.m
 else if e.kind=11\/e.kind=13 then markP e.ref
 else if e.kind=12 then markP e.ref/\(e.n=0\/e.n=1)
 else if e.kind=15 then keyP e.n/\e.n≠e.who
 else if e.kind=16 then markP e.m/\e.m≠e.circle
 else if e.kind=18\/e.kind=19 then dayP e.m/\dayP e.n/\(e.ref=-1\/markP e.ref)
 else if e.kind=20 then dayP e.m/\dayP e.n/\markP e.ref
 else True
instance (e:En):Decidable (numbersP e):=by
 unfold numbersP
 repeat (first | exact inferInstance | split)
structure RightE (e:En):Prop where
 author:keyP e.author
 seq:0<=e.seq/\e.seq<1048576
 day:dayP e.day
 kind:0<=e.kind/\e.kind<21
 plain:plainP e
 knows:e.knows.length<=40/\ascP e.knows/\(e.knows≠[]->markP (e.knows.headD 0)/\markP (e.knows.getLastD 0))
 spans:(e.kind=5\/e.kind=6\/e.kind=7)->e.spans≠[]/\e.spans.length<=40/\nrmP e.spans
 keys:(e.kind=0\/e.kind=17)->keysP e.keys
 text:e.text.length<=2000
 circle:markP e.circle
 who:keyP e.who
 numbers:numbersP e
theorem RightE.sp {e:En} (h:RightE e):e.spans.length<=40/\∀ s∈e.spans,s.Ok:=by
 by_cases hk:e.kind=5\/e.kind=6\/e.kind=7
 · obtain ⟨_,h2,h3⟩:=h.spans hk
   exact ⟨h2,nrmP_ok h3⟩
 · have hnot:(115:UInt8)∉useF e.kind:=by
    have hb:=h.kind
    have:e.kind=0\/e.kind=1\/e.kind=2\/e.kind=3\/e.kind=4\/e.kind=8\/e.kind=9\/e.kind=10\/e.kind=11\/e.kind=12\/e.kind=13\/e.kind=14\/e.kind=15\/e.kind=16\/e.kind=17\/e.kind=18\/e.kind=19\/e.kind=20:=by omega
    rcases this with h | h | h | h | h | h | h | h | h | h | h | h | h | h | h | h | h | h<;>(rw [h];decide)
   have:=h.plain.2.2.2.2.2.2.1 hnot
   rw [this]
   exact ⟨Nat.zero_le _,fun s hs=>nomatch hs⟩
def spanE (s:Sp):List UInt8:=numE s.mark++(numE s.fr++numE s.to)
def encE (e:En):List UInt8 :=
 numE e.author++(numE e.seq++(numE e.day++(numsE e.knows++(numE e.kind++(numE e.circle++(numE e.who++(intE e.n++(intE e.m++(intE e.ref++(numsE e.keys++(numE e.spans.length++((e.spans.map spanE).flatten++textE e.text))))))))))))
def spansF:Nat->Int->RS->List Sp->List Sp×RS
 | 0,_,r,acc=>(acc,r)
 | f+1,n,r,acc =>
   if 0<n/\r.rest≠[]/\acc.length<=40 then
    spansF f (n-1) (numF (numF (numF r).2).2).2 (acc++[⟨(numF r).1,(numF (numF r).2).1,(numF (numF (numF r).2).2).1⟩])
   else (acc,r)
def readE (s:List UInt8):En×RS :=
 let a:=numF ⟨s,false⟩
 let b:=numF a.2
 let c:=numF b.2
 let d:=numsF c.2
 let k:=numF d.2
 let ci:=numF k.2
 let w:=numF ci.2
 let n:=intF w.2
 let m:=intF n.2
 let rf:=intF m.2
 let ks:=numsF rf.2
 let sn:=numF ks.2
 let sp:=spansF 42 sn.1 sn.2 []
 let t:=WrText sp.2
 (⟨a.1,b.1,c.1,d.1,k.1,ci.1,w.1,n.1,m.1,rf.1,ks.1,sp.1,t.1⟩,t.2)
where WrText (r:RS):List UInt8×RS:=Go.Proofs.YtjkmalddfoemhaaGreatDoor.textF r
structure EnWf (e:En):Prop where
 knows:e.knows.length<=100000000/\∀ x∈e.knows,I64 x
 keys:e.keys.length<=100000000/\∀ x∈e.keys,I64 x
 n:I64 e.n
 m:I64 e.m
 ref:I64 e.ref
end Go.Proofs.YtjkmalddfoemhaaGreatDoor
namespace Go.Proofs.YtjkmalddfoemhaaGreatDoor
open Go
theorem rightE_iff (e:En):RightE e↔(keyP e.author/\(0<=e.seq/\e.seq<1048576)/\dayP e.day/\(0<=e.kind/\e.kind<21)/\plainP e/\(e.knows.length<=40/\ascP e.knows/\(e.knows≠[]->markP (e.knows.headD 0)/\markP (e.knows.getLastD 0)))/\((e.kind=5\/e.kind=6\/e.kind=7)->e.spans≠[]/\e.spans.length<=40/\nrmP e.spans)/\((e.kind=0\/e.kind=17)->keysP e.keys)/\e.text.length<=2000/\markP e.circle/\keyP e.who/\numbersP e) :=
 ⟨fun h=>⟨h.author,h.seq,h.day,h.kind,h.plain,h.knows,h.spans,h.keys,h.text,h.circle,h.who,h.numbers⟩,fun ⟨a,b,c,d,e,f,g,h,i,j,k,l⟩=>⟨a,b,c,d,e,f,g,h,i,j,k,l⟩⟩
instance (e:En):Decidable (RightE e):=decidable_of_iff _ (rightE_iff e).symm
def txtF (e:En):List UInt8:=if RightE e then encE e else []
def rdF (s:List UInt8):En×Int:=if (readE s).2.bad=false/\(readE s).2.rest=[]/\RightE (readE s).1/\txtF (readE s).1=s then ((readE s).1,0) else (En.none,2)
theorem enum_len {n:Int} {k:Nat} (h0:0<=n) (h:n<10 ^ (k+1)):(numE n).length<=k+2:=by
 unfold numE intE
 rw [if_neg (by omega),List.length_append,List.length_singleton]
 unfold Lib.itoa
 rw [if_neg (by omega)]
 have:=dec_len k n.toNat (by
  have:((10 ^ (k+1):Nat):Int)=10 ^ (k+1):=by simp
  omega)
 omega
theorem flat_len {α:Type} (f:α->List UInt8) (c:Nat):∀ l:List α,(∀ x∈l,(f x).length<=c)->((l.map f).flatten).length<=l.length*c
 | [],_=>by simp
 | a::r,h=>by
   have h1:=h a List.mem_cons_self
   have h2:=flat_len f c r fun x hx=>h x (List.mem_cons_of_mem _ hx)
   rw [List.map_cons,List.flatten_cons,List.length_append,List.length_cons,Nat.add_mul,Nat.one_mul]
   omega
theorem int_len {n:Int} (h:I64 n):(intE n).length<=21:=by
 have:=itoa_len h
 unfold intE
 rw [List.length_append,List.length_singleton]
 omega
theorem asc_between:∀ {l:List Int},ascP l->∀ x∈l,l.headD 0<=x/\x<=l.getLastD 0
 | [],_,x,h=>nomatch h
 | [a],_,x,h=>by rw [List.mem_singleton.1 h];simp
 | a::b::r,ha,x,h=>by
   obtain ⟨h1,h2⟩:=ha
   have e1:(a::b::r).getLastD 0=(b::r).getLastD 0:=by simp
   have ih:=asc_between h2
   rw [e1]
   rcases List.mem_cons.1 h with rfl | h
   · have:=ih b List.mem_cons_self
     exact ⟨Int.le_refl _,by omega⟩
   · have:=ih x h
     have e2:(b::r).headD 0=b:=rfl
     have e3:(a::b::r).headD 0=a:=rfl
     rw [e2] at this
     rw [e3]
     omega
theorem nums_bound (l:List Int) (c d:Nat) (hd:(Lib.itoa l.length).length<=d) (h:∀ x∈l,(intE x).length<=c):(numsE l).length<=d+2+l.length*c:=by
 have:=flat_len intE c l h
 unfold numsE listE
 rw [List.length_append,List.length_cons,List.length_append,List.length_singleton]
 omega
theorem small_itoa {n k:Nat} (h:n<10 ^ (k+1)):(Lib.itoa n).length<=k+1:=by
 unfold Lib.itoa
 rw [if_neg (by omega)]
 have:=dec_len k n h
 simpa using this
theorem int_small {n:Int} {k:Nat} (h0:0<=n) (h:n<10 ^ (k+1)):(intE n).length<=k+2:=by
 have:=enum_len h0 h
 unfold numE at this
 rwa [if_neg (by omega)] at this
theorem keys_of {e:En} (h:RightE e):e.keys=[]\/keysP e.keys:=by
 by_cases hk:e.kind=0\/e.kind=17
 · exact .inr (h.keys hk)
 · have hnot:(107:UInt8)∉useF e.kind:=by
    have hb:=h.kind
    have:e.kind=1\/e.kind=2\/e.kind=3\/e.kind=4\/e.kind=5\/e.kind=6\/e.kind=7\/e.kind=8\/e.kind=9\/e.kind=10\/e.kind=11\/e.kind=12\/e.kind=13\/e.kind=14\/e.kind=15\/e.kind=16\/e.kind=18\/e.kind=19\/e.kind=20:=by omega
    rcases this with h | h | h | h | h | h | h | h | h | h | h | h | h | h | h | h | h | h | h<;>(rw [h];decide)
   exact .inl (h.plain.2.2.2.2.2.1 hnot)
theorem enc_len {e:En} (h:RightE e) (hw:EnWf e):(encE e).length<=4000:=by
 obtain ⟨hs1,hs2⟩:=h.sp
 have h1:=h.author;have h2:=h.seq;have h3:=h.day;have h4:=h.kind;have h5:=h.circle;have h6:=h.who
 unfold keyP at h1 h6
 unfold dayP at h3
 unfold markP at h5
 have ht:=h.text
 have a1:=enum_len (k:=2) h1.1 (by omega)
 have a2:=enum_len (k:=6) h2.1 (by omega)
 have a3:=enum_len (k:=6) h3.1 (by omega)
 have a4:=enum_len (k:=1) h4.1 (by omega)
 have a5:=enum_len (k:=9) h5.1 (by omega)
 have a6:=enum_len (k:=2) h6.1 (by omega)
 have a7:=int_len hw.n
 have a8:=int_len hw.m
 have a9:=int_len hw.ref
 obtain ⟨k1,k2,k3⟩:=h.knows
 have b1:(numsE e.knows).length<=2+2+e.knows.length*11:=nums_bound _ _ _ (small_itoa (k:=1) (by omega)) fun x hx=>by
  have hne:e.knows≠[]:=fun e'=>by rw [e'] at hx;cases hx
  have h7:=asc_between k2 x hx
  obtain ⟨h8,h9⟩:=k3 hne
  unfold markP at h8 h9
  exact int_small (k:=9) (by omega) (by omega)
 have b2:(numsE e.keys).length<=2+2+e.keys.length*4/\e.keys.length<=60:=by
  rcases keys_of h with hk | ⟨_,hk2,hk3,hk4,hk5⟩
  · rw [hk];exact ⟨nums_bound [] 4 2 (small_itoa (k:=1) (by decide)) fun x h=>(nomatch h),by decide⟩
  · refine ⟨nums_bound _ _ _ (small_itoa (k:=1) (by omega)) fun x hx=>?_,hk2⟩
    have h7:=asc_between hk3 x hx
    unfold keyP at hk4 hk5
    exact int_small (k:=2) (by omega) (by omega)
 have b3:=enum_len (n:=(e.spans.length:Int)) (k:=1) (by omega) (by omega)
 have b4:=flat_len spanE 27 e.spans fun s hs=>by
  have ho:=hs2 s hs
  unfold Sp.Ok at ho
  have c1:=enum_len (n:=s.mark) (k:=9) (by omega) (by omega)
  have c2:=enum_len (n:=s.fr) (k:=6) (by omega) (by omega)
  have c3:=enum_len (n:=s.to) (k:=6) (by omega) (by omega)
  unfold spanE
  rw [List.length_append,List.length_append]
  omega
 have b5:(textE e.text).length<=4+2+e.text.length:=by
  have:=small_itoa (n:=e.text.length) (k:=3) (by omega)
  unfold textE
  rw [List.length_append,List.length_cons,List.length_append,List.length_singleton]
  omega
 have b6:e.spans.length*27<=40*27:=Nat.mul_le_mul_right _ hs1
 have b7:e.knows.length*11<=40*11:=Nat.mul_le_mul_right _ k1
 have b8:e.keys.length*4<=60*4:=Nat.mul_le_mul_right _ b2.2
 unfold encE
 simp only [List.length_append]
 omega
theorem txt_len {e:En} (hw:EnWf e):(txtF e).length<=4000:=by
 unfold txtF
 split
 · rename_i h;exact enc_len h hw
 · exact Nat.zero_le _
theorem rd_cases (s:List UInt8):((rdF s).2=0/\RightE (rdF s).1/\txtF (rdF s).1=s)\/(rdF s=(En.none,2)):=by
 unfold rdF
 split
 · rename_i h;exact .inl ⟨rfl,h.2.2.1,h.2.2.2⟩
 · exact .inr rfl
end Go.Proofs.YtjkmalddfoemhaaGreatDoor
namespace Go.Proofs.YtjkmalddfoemhaaGreatDoor
open Go
def letters:List UInt8:=[99,119,110,109,114,107,115,116]
end Go.Proofs.YtjkmalddfoemhaaGreatDoor
namespace Go.Proofs.YtjkmalddfoemhaaGreatDoor
open Go
theorem numF_len0 {r:RS} (_:r.Ok):(numF r).2.rest.length<=r.rest.length:=Nat.le_trans (numberF_len _ _ _) (Nat.sub_le _ _)
theorem intF_len0 {r:RS} (_:r.Ok):(intF r).2.rest.length<=r.rest.length:=Nat.le_trans (numberF_len _ _ _) (Nat.sub_le _ _)
theorem itemsL_rest {α:Type} {one:RS->α×RS} (hl:∀ r:RS,(one r).2.rest.length<=r.rest.length):∀ (n:Nat) (r:RS) (out:List α),(itemsL one n r out).2.rest.length<=r.rest.length
 | 0,_,_=>Nat.le_refl _
 | n+1,r,out=>by
   rw [itemsL]
   split
   · exact Nat.le_refl _
   · exact Nat.le_trans (itemsL_rest hl n _ _) (hl r)
theorem numsF_len0 {r:RS} (_:r.Ok):(numsF r).2.rest.length<=r.rest.length:=by
 have h1:=numberF_len 91 0 r
 have h2:=itemsL_rest (one:=intF) (fun r=>Nat.le_trans (numberF_len _ _ r) (Nat.sub_le _ _)) (numberF 91 0 r).1.toNat (numberF 91 0 r).2 []
 have h3:=closeF_len 93 (itemsL intF (numberF 91 0 r).1.toNat (numberF 91 0 r).2 []).2
 unfold numsF itemsF
 split<;>(dsimp only;omega)
theorem itemsL_each {α:Type} {one:RS->α×RS} {P:α->Prop} (hp:∀ r:RS,P (one r).1):∀ (n:Nat) (r:RS) (out:List α),(∀ x∈out,P x)->∀ x∈(itemsL one n r out).1,P x
 | 0,_,_,ho=>ho
 | n+1,r,out,ho=>by
   rw [itemsL]
   split
   · exact ho
   · refine itemsL_each hp n _ _ fun x hx=>?_
     rcases List.mem_append.1 hx with h | h
     · exact ho x h
     · rw [List.mem_singleton.1 h];exact hp r
theorem nums_i64 {r:RS}:∀ x∈(numsF r).1,I64 x:=by
 have h:=itemsL_each (one:=intF) (P:=fun x=>I64 x) (fun r'=>numberF_i64 _ _ _) (numberF 91 0 r).1.toNat (numberF 91 0 r).2 [] (fun x hx=>(List.not_mem_nil hx).elim)
 unfold numsF itemsF
 split
 · exact fun x hx=>(List.not_mem_nil hx).elim
 · exact h
theorem nums_count {r:RS} (h:r.Ok):(numsF r).1.length<=r.rest.length+1:=by
 have h1:=itemsL_bound (one:=intF) (fun r=>numberF_len _ _ r) (fun _ h=>intF_ok h) (fun r h=>by unfold intF numberF;rw [h,numRd_nil];rfl) (numberF 91 0 r).1.toNat (numberF 91 0 r).2 [] (numberF_ok 91 0 h)
 have h2:=numberF_len 91 0 r
 rw [List.length_nil] at h1
 unfold numsF itemsF
 split<;>dsimp only
 · simp
 · omega
def readG (r:RS):En×RS :=
 let a:=numF r
 let b:=numF a.2
 let c:=numF b.2
 let d:=numsF c.2
 let k:=numF d.2
 let ci:=numF k.2
 let w:=numF ci.2
 let n:=intF w.2
 let m:=intF n.2
 let rf:=intF m.2
 let ks:=numsF rf.2
 let sn:=numF ks.2
 let sp:=spansF 42 sn.1 sn.2 []
 let t:=textF sp.2
 (⟨a.1,b.1,c.1,d.1,k.1,ci.1,w.1,n.1,m.1,rf.1,ks.1,sp.1,t.1⟩,t.2)
theorem read_g (s:List UInt8):readG ⟨s,false⟩=readE s:=by
 unfold readG readE readE.WrText
 rfl
theorem readG_eq {r:RS} {q1:Int×RS} {q2:Int×RS} {q3:Int×RS} {q4:List Int×RS} {q5:Int×RS} {q6:Int×RS} {q7:Int×RS} {q8:Int×RS} {q9:Int×RS} {q10:Int×RS} {q11:List Int×RS} {q12:Int×RS} {sp:List Sp×RS} {t:List UInt8×RS} (h1:numF r=q1) (h2:numF q1.2=q2) (h3:numF q2.2=q3) (h4:numsF q3.2=q4) (h5:numF q4.2=q5) (h6:numF q5.2=q6) (h7:numF q6.2=q7) (h8:intF q7.2=q8) (h9:intF q8.2=q9) (h10:intF q9.2=q10) (h11:numsF q10.2=q11) (h12:numF q11.2=q12) (hs:spansF 42 q12.1 q12.2 []=sp) (ht:textF sp.2=t) :
 readG r=(⟨q1.1,q2.1,q3.1,q4.1,q5.1,q6.1,q7.1,q8.1,q9.1,q10.1,q11.1,sp.1,t.1⟩,t.2):=by
 subst h1 h2 h3 h4 h5 h6 h7 h8 h9 h10 h11 h12 hs ht
 unfold readG
 rfl
theorem readG_wf {r:RS} (hk:r.Ok) (hl:r.rest.length<=10000000):EnWf (readG r).1:=by
 obtain ⟨q1,e1⟩:∃ q,numF r=q:=⟨_,rfl⟩
 have k1:q1.2.Ok:=by rw [<-e1];exact numF_ok hk
 have l1:q1.2.rest.length<=(r).rest.length:=by rw [<-e1];exact numF_len0 hk
 have w1:I64 q1.1:=by rw [<-e1];exact numberF_i64 _ _ _
 obtain ⟨q2,e2⟩:∃ q,numF q1.2=q:=⟨_,rfl⟩
 have k2:q2.2.Ok:=by rw [<-e2];exact numF_ok k1
 have l2:q2.2.rest.length<=(q1.2).rest.length:=by rw [<-e2];exact numF_len0 k1
 have w2:I64 q2.1:=by rw [<-e2];exact numberF_i64 _ _ _
 obtain ⟨q3,e3⟩:∃ q,numF q2.2=q:=⟨_,rfl⟩
 have k3:q3.2.Ok:=by rw [<-e3];exact numF_ok k2
 have l3:q3.2.rest.length<=(q2.2).rest.length:=by rw [<-e3];exact numF_len0 k2
 have w3:I64 q3.1:=by rw [<-e3];exact numberF_i64 _ _ _
 obtain ⟨q4,e4⟩:∃ q,numsF q3.2=q:=⟨_,rfl⟩
 have k4:q4.2.Ok:=by rw [<-e4];exact numsF_ok k3
 have l4:q4.2.rest.length<=(q3.2).rest.length:=by rw [<-e4];exact numsF_len0 k3
 have c4:q4.1.length<=(q3.2).rest.length+1:=by rw [<-e4];exact nums_count k3
 have w4:∀ x∈q4.1,I64 x:=by rw [<-e4];exact nums_i64
 obtain ⟨q5,e5⟩:∃ q,numF q4.2=q:=⟨_,rfl⟩
 have k5:q5.2.Ok:=by rw [<-e5];exact numF_ok k4
 have l5:q5.2.rest.length<=(q4.2).rest.length:=by rw [<-e5];exact numF_len0 k4
 have w5:I64 q5.1:=by rw [<-e5];exact numberF_i64 _ _ _
 obtain ⟨q6,e6⟩:∃ q,numF q5.2=q:=⟨_,rfl⟩
 have k6:q6.2.Ok:=by rw [<-e6];exact numF_ok k5
 have l6:q6.2.rest.length<=(q5.2).rest.length:=by rw [<-e6];exact numF_len0 k5
 have w6:I64 q6.1:=by rw [<-e6];exact numberF_i64 _ _ _
 obtain ⟨q7,e7⟩:∃ q,numF q6.2=q:=⟨_,rfl⟩
 have k7:q7.2.Ok:=by rw [<-e7];exact numF_ok k6
 have l7:q7.2.rest.length<=(q6.2).rest.length:=by rw [<-e7];exact numF_len0 k6
 have w7:I64 q7.1:=by rw [<-e7];exact numberF_i64 _ _ _
 obtain ⟨q8,e8⟩:∃ q,intF q7.2=q:=⟨_,rfl⟩
 have k8:q8.2.Ok:=by rw [<-e8];exact intF_ok k7
 have l8:q8.2.rest.length<=(q7.2).rest.length:=by rw [<-e8];exact intF_len0 k7
 have w8:I64 q8.1:=by rw [<-e8];exact numberF_i64 _ _ _
 obtain ⟨q9,e9⟩:∃ q,intF q8.2=q:=⟨_,rfl⟩
 have k9:q9.2.Ok:=by rw [<-e9];exact intF_ok k8
 have l9:q9.2.rest.length<=(q8.2).rest.length:=by rw [<-e9];exact intF_len0 k8
 have w9:I64 q9.1:=by rw [<-e9];exact numberF_i64 _ _ _
 obtain ⟨q10,e10⟩:∃ q,intF q9.2=q:=⟨_,rfl⟩
 have k10:q10.2.Ok:=by rw [<-e10];exact intF_ok k9
 have l10:q10.2.rest.length<=(q9.2).rest.length:=by rw [<-e10];exact intF_len0 k9
 have w10:I64 q10.1:=by rw [<-e10];exact numberF_i64 _ _ _
 obtain ⟨q11,e11⟩:∃ q,numsF q10.2=q:=⟨_,rfl⟩
 have k11:q11.2.Ok:=by rw [<-e11];exact numsF_ok k10
 have l11:q11.2.rest.length<=(q10.2).rest.length:=by rw [<-e11];exact numsF_len0 k10
 have c11:q11.1.length<=(q10.2).rest.length+1:=by rw [<-e11];exact nums_count k10
 have w11:∀ x∈q11.1,I64 x:=by rw [<-e11];exact nums_i64
 obtain ⟨q12,e12⟩:∃ q,numF q11.2=q:=⟨_,rfl⟩
 have k12:q12.2.Ok:=by rw [<-e12];exact numF_ok k11
 have l12:q12.2.rest.length<=(q11.2).rest.length:=by rw [<-e12];exact numF_len0 k11
 have w12:I64 q12.1:=by rw [<-e12];exact numberF_i64 _ _ _
 rw [readG_eq e1 e2 e3 e4 e5 e6 e7 e8 e9 e10 e11 e12 rfl rfl]
 exact ⟨⟨by dsimp only;omega,w4⟩,⟨by dsimp only;omega,w11⟩,w8,w9,w10⟩
theorem none_wf:EnWf En.none:=⟨⟨by decide,fun x h=>nomatch h⟩,⟨by decide,fun x h=>nomatch h⟩,by unfold I64 En.none;simp,by unfold I64 En.none;simp,by unfold I64 En.none;simp⟩
theorem rd_wf {s:List UInt8} (hl:s.length<=10000000):EnWf (rdF s).1:=by
 unfold rdF
 split
 · exact readG_wf (r:=⟨s,false⟩) (fun h=>nomatch h) hl
 · exact none_wf
theorem rdF_bad {s:List UInt8} {e:En} {r:RS} (h:readE s=(e,r)) (hn:¬(r.bad=false/\r.rest=[]/\RightE e/\txtF e=s)):rdF s=(En.none,2):=by
 unfold rdF
 rw [h,if_neg hn]
theorem rdF_good {s:List UInt8} {e:En} {r:RS} (h:readE s=(e,r)) (hn:r.bad=false/\r.rest=[]/\RightE e/\txtF e=s):rdF s=(e,0):=by
 unfold rdF
 rw [h,if_pos hn]
theorem spansF_stop {f:Nat} {n:Int} {r:RS} {acc:List Sp} (h:¬(0<n/\r.rest≠[]/\acc.length<=40)):spansF (f+1) n r acc=(acc,r):=by
 unfold spansF;rw [if_neg h]
theorem spansF_go {f:Nat} {n:Int} {r:RS} {acc:List Sp} (h:0<n/\r.rest≠[]/\acc.length<=40) :
 spansF (f+1) n r acc=spansF f (n-1) (numF (numF (numF r).2).2).2 (acc++[⟨(numF r).1,(numF (numF r).2).1,(numF (numF (numF r).2).2).1⟩]):=by
 conv=>lhs;unfold spansF
 rw [if_pos h]
end Go.Proofs.YtjkmalddfoemhaaGreatDoor
namespace Go.Proofs.YtjkmalddfoemhaaGreatDoor
open Go
def HasM (l:List Sp) (m n:Int):Prop:=∃ s∈l,s.Ok/\s.mark=m/\s.fr<=n/\n<s.to
instance (l:List Sp) (m n:Int):Decidable (HasM l m n):=by unfold HasM;exact inferInstance
end Go.Proofs.YtjkmalddfoemhaaGreatDoor
namespace Go.Proofs.YtjkmalddfoemhaaGreatDoor
open Go
end Go.Proofs.YtjkmalddfoemhaaGreatDoor
