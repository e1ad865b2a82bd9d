/- Rings and histories in memory. -/
import Derived.Test.YtjkmalddfoemhaaGreatDoorJ4
import Derived.Test.YtjkmalddfoemhaaGreatDoorJ8
import Derived.Test.YtjkmalddfoemhaaGreatDoorCEnRead
import Derived.Test.YtjkmalddfoemhaaGreatDoorJ2
import Derived.DeepKeys4
import Derived.Laws.ShiftsVarLaws
set_option maxRecDepth 100000
set_option maxHeartbeats 1000000
namespace Go.Proofs.YtjkmalddfoemhaaGreatDoor
open Go.RowKit Go.Deep
open Go.Maps (Keyed)
abbrev SK:=Int×List UInt8
def skV (x:SK):Value:=.agg #[.int .i64 x.1,.string ⟨x.2.toArray⟩]
def skOk (x:SK):Prop:=(Lit.int .i64 x.1).wf=true/\x.2.length<=maxLen
theorem skInj {a b:SK} (h:skV a=skV b):a=b:=by
 obtain ⟨a1,a2⟩:=a
 obtain ⟨b1,b2⟩:=b
 have h':=congrArg (fun v:Value=>match v with | .agg a=>a.toList | _=>[]) h
 unfold skV at h'
 dsimp only at h'
 injection h' with h1 h2
 injection h1 with _ h1
 injection h2 with h2 _
 injection h2 with h2
 injection h2 with h2
 have h2:a2=b2:=by simpa using congrArg Array.toList h2
 rw [h1,h2]
theorem rowSealed:150<Tryz.prog.types.size:=of_decide_eq_true (by kernel_rfl)
theorem laidOutA:laidOutB Tryz.prog=true:=by kernel_rfl
theorem keySealed:Tryz.prog.keyType 150=true:=by kernel_rfl
theorem fuelSealed:∃ n,Tryz.prog.types.size=n+1:=⟨Tryz.prog.types.size-1,by have:=rowSealed;omega⟩
theorem sk_key {x:SK} (h:skOk x):keyOf Tryz.prog 150 (skV x)=some (.string (keyBytes [.int .i64 x.1,.string x.2])):=by
 obtain ⟨n,hn⟩:=fuelSealed
 obtain ⟨h1,h2⟩:=h
 have hi:Tryz.prog.cellsOf 3=1:=by kernel_rfl
 have hs:Tryz.prog.cellsOf 9=1:=by kernel_rfl
 have ha:Tryz.prog.cellsOf 150=2:=by kernel_rfl
 have h2':(⟨x.2.toArray⟩:ByteArray).size<=maxLen:=by simpa [ByteArray.size] using h2
 have hf:(skV x).formed Tryz.prog 150=true:=by
  unfold skV
  simp [Value.formed,Tryz.underlying150,ha]
 have hl:Tryz.prog.keyLits (Tryz.prog.types.size+1) 150 (skV x).cells.toList=some [.int .i64 x.1,.string x.2]:=by
  rw [hn]
  unfold skV
  simp [Program.keyLits,Value.cells,Tryz.underlying150,Tryz.underlying3,Tryz.underlying9,hi,hs,ha,h1,h2']
 unfold keyOf
 rw [Tryz.underlying150]
 dsimp only
 rw [keySealed,hf,hl]
 rfl
def sealedKey:KeyF Tryz.prog 150 SK where
 kv:=skV
 kl x:=.string (keyBytes [.int .i64 x.1,.string x.2])
 ok:=skOk
 keyed:=Keyed.of_law (deep_law_laid laidOutA (m:=2) (by omega) rowSealed (by kernel_rfl) (by rw [Tryz.underlying150]))
 key:=sk_key
 inj:=skInj
theorem zeroI (w:World):(zeroValue 3).run Tryz.prog w=.ok (.int .i64 0) w:=by kernel_rfl
theorem cells3 {w:World} {p:Nat} {a b c:Value} {t:TypeId} (h:w.heap[p]? = some (.cells #[a,b,c] t (0,0))):w.cell? ⟨p,0,none⟩=some a/\w.cell? ⟨p,1,none⟩=some b/\w.cell? ⟨p,2,none⟩=some c/\∀ o,w.frozen? ⟨p,o,none⟩=false :=
 ⟨by rw [cell_of_block h];rfl,by rw [cell_of_block h];rfl,by rw [cell_of_block h];rfl,fun _=>frozen_of_block h⟩
def skCells (x:SK):List Value:=[.int .i64 x.1,.string ⟨x.2.toArray⟩]
def skFlat (R:Rg):List Value:=(R.map skCells).flatten
structure RingAt (w:World) (O:Nat->Prop) (r:Nat) (R:Rg) (v:Value) (mb:Nat) (l:List (SK×Value)):Prop where
 ok:RgOk R
 head:w.heap[r]? = some (.cells #[v,.map (some mb)] 148 (0,0))
 row:w.ownsRow 0 150 2 v R.length (skFlat R)
 map:MapG sealedKey w mb l
 look:∀ x,skOk x->gLook x l=(ringF R x).map fun i:Nat=>.int .i64 i
 len:l.length<=R.length
 own:O r/\O mb/\∀ g,v.ownBlock=some g->O g
 apart:∀ g,v.ownBlock=some g->g≠r/\g≠mb
 lt:∀ k,O k->6<=k/\k<w.heap.size
def IsRing (w:World) (O:Nat->Prop) (r:Nat) (R:Rg):Prop:=∃ v mb l,RingAt w O r R v mb l
theorem RingAt.upd {S O:Nat->Prop} {w w':World} {r:Nat} {R:Rg} {v:Value} {mb:Nat} {l:List (SK×Value)} (h:RingAt w O r R v mb l) (u:Upd S w w') (hS:∀ k,O k->¬S k):RingAt w' O r R v mb l :=
 ⟨h.ok,(u.block r (heap_lt h.head) (hS _ h.own.1)).trans h.head,ownsRow_upd h.row u fun g hg=>hS _ (h.own.2.2 g hg),h.map.upd u (hS _ h.own.2.1),h.look,h.len,h.own,h.apart,fun k hk=>⟨(h.lt k hk).1,Nat.lt_of_lt_of_le (h.lt k hk).2 u.size⟩⟩
theorem IsRing.upd {S O:Nat->Prop} {w w':World} {r:Nat} {R:Rg} (h:IsRing w O r R) (u:Upd S w w') (hS:∀ k,O k->¬S k):IsRing w' O r R :=
 let ⟨v,mb,l,h1⟩:=h;⟨v,mb,l,h1.upd u hS⟩
theorem IsRing.keep {O:Nat->Prop} {w w':World} {r:Nat} {R:Rg} (h:IsRing w O r R) (u:Upd (fun _=>False) w w'):IsRing w' O r R:=h.upd u fun _ _=>id
theorem IsRing.lt {O:Nat->Prop} {w:World} {r:Nat} {R:Rg} (h:IsRing w O r R):∀ k,O k->6<=k/\k<w.heap.size:=let ⟨_,_,_,h1⟩:=h;h1.lt
theorem IsRing.ok {O:Nat->Prop} {w:World} {r:Nat} {R:Rg} (h:IsRing w O r R):RgOk R:=let ⟨_,_,_,h1⟩:=h;h1.ok
def BitsAt (w:World) (v:Value) (x:Nat):Prop:=x<18446744073709551616/\((v=.slice none 0 0/\x=0)\/∃ g cap,v=.slice (some ⟨g,0,none⟩) 1 cap/\w.ownsRow 0 213 1 v 1 [.int .u64 x])
theorem BitsAt.upd {S:Nat->Prop} {w w':World} {v:Value} {x:Nat} (h:BitsAt w v x) (u:Upd S w w') (hS:∀ g,v.ownBlock=some g->¬S g):BitsAt w' v x:=by
 obtain ⟨h1,h2 | ⟨g,cap,rfl,h3⟩⟩:=h
 · exact ⟨h1,.inl h2⟩
 · exact ⟨h1,.inr ⟨g,cap,rfl,ownsRow_upd h3 u hS⟩⟩
theorem BitsAt.nil {w:World}:BitsAt w (.slice none 0 0) 0:=⟨by decide,.inl ⟨rfl,rfl⟩⟩
structure NdC where
 n:Nd
 a1:Option Addr
 a2:Option Addr
 a3:Option Addr
 c1:Nat
 c2:Nat
 c3:Nat
 pa:Option Addr
 pn:Nat
 pc:Nat
 x:Nat
instance:Inhabited NdC:=⟨⟨⟨⟨0,[],0⟩,En.none,0,fun _=>false⟩,none,none,none,0,0,0,none,0,0,0⟩⟩
abbrev NdC.pv (c:NdC):Value:=.slice c.pa c.pn c.pc
def NdC.cells (c:NdC):List Value:=.int .i64 c.n.sg.key::.string ⟨c.n.sg.text.toArray⟩::.int .i64 c.n.sg.mark::((en13 c.n.en c.a1 c.a2 c.a3 c.c1 c.c2 c.c3).toList++[.int .i64 c.n.level,.slice c.pa c.pn c.pc])
theorem NdC.len (c:NdC):c.cells.length=18:=rfl
def ndFlat (L:List NdC):List Value:=(L.map NdC.cells).flatten
structure NdOk (w:World) (D:Nat->Prop) (c:NdC):Prop where
 rep:EnRep D w c.n.en c.a1 c.a2 c.a3 c.c1 c.c2 c.c3
 bits:BitsAt w c.pv c.x
 past:∀ j,c.n.past j=c.x.testBit j
 own:∀ g,c.pv.ownBlock=some g->D g
 key:0<=c.n.sg.key/\c.n.sg.key<200
 mark:0<=c.n.sg.mark/\c.n.sg.mark<=1000000
 text:c.n.sg.text.length<=1000000
 en:EnOk c.n.en
 wf:EnWf c.n.en
 level:c.n.level<=100
theorem NdOk.upd {S D:Nat->Prop} {w w':World} {c:NdC} (h:NdOk w D c) (u:Upd S w w') (hS:∀ k,D k->¬S k):NdOk w' D c :=
 ⟨h.rep.keep1 u hS,h.bits.upd u fun g hg=>hS g (h.own g hg),h.past,h.own,h.key,h.mark,h.text,h.en,h.wf,h.level⟩
theorem NdOk.wide {D E:Nat->Prop} {w:World} {c:NdC} (h:NdOk w D c) (hs:∀ k,D k->E k):NdOk w E c :=
 ⟨h.rep.wide hs,h.bits,h.past,fun g hg=>hs g (h.own g hg),h.key,h.mark,h.text,h.en,h.wf,h.level⟩
structure HisAt (w:World) (O D:Nat->Prop) (b r:Nat) (v:Value) (mb:Nat) (l:List (Int×Value)) (L:List NdC):Prop where
 head:w.heap[b]? = some (.cells #[.pointer (some ⟨r,0,none⟩),v,.map (some mb)] 131 (0,0))
 row:w.ownsRow 0 136 18 v L.length (ndFlat L)
 map:MapIs Tryz.prog 3 w mb l
 look:∀ m,l.lookup m=(idxF (L.map NdC.n) m).map fun i:Nat=>.int .i64 i
 nodes:∀ c∈L,NdOk w D c
 few:L.length<=64
 own:O b/\O mb/\(∀ g,v.ownBlock=some g->O g)/\∀ k,D k->O k
 apart:(∀ g,v.ownBlock=some g->g≠b/\g≠mb/\¬D g)/\¬D b/\¬D mb
 lt:∀ k,O k->6<=k/\k<w.heap.size
def IsHis (w:World) (O:Nat->Prop) (b r:Nat) (hs:Hs):Prop:=∃ D v mb l L,HisAt w O D b r v mb l L/\L.map NdC.n=hs
theorem HisAt.upd {S O D:Nat->Prop} {w w':World} {b r:Nat} {v:Value} {mb:Nat} {l:List (Int×Value)} {L:List NdC} (h:HisAt w O D b r v mb l L) (u:Upd S w w') (hS:∀ k,O k->¬S k):HisAt w' O D b r v mb l L :=
 ⟨(u.block b (heap_lt h.head) (hS _ h.own.1)).trans h.head,ownsRow_upd h.row u fun g hg=>hS _ (h.own.2.2.1 g hg),h.map.upd u (hS _ h.own.2.1),h.look,fun c hc=>(h.nodes c hc).upd u fun k hk=>hS _ (h.own.2.2.2 k hk),h.few,h.own,h.apart,fun k hk=>⟨(h.lt k hk).1,Nat.lt_of_lt_of_le (h.lt k hk).2 u.size⟩⟩
theorem IsHis.upd {S O:Nat->Prop} {w w':World} {b r:Nat} {hs:Hs} (h:IsHis w O b r hs) (u:Upd S w w') (hS:∀ k,O k->¬S k):IsHis w' O b r hs :=
 let ⟨D,v,mb,l,L,h1,h2⟩:=h;⟨D,v,mb,l,L,h1.upd u hS,h2⟩
theorem IsHis.keep {O:Nat->Prop} {w w':World} {b r:Nat} {hs:Hs} (h:IsHis w O b r hs) (u:Upd (fun _=>False) w w'):IsHis w' O b r hs:=h.upd u fun _ _=>id
theorem IsHis.lt {O:Nat->Prop} {w:World} {b r:Nat} {hs:Hs} (h:IsHis w O b r hs):∀ k,O k->6<=k/\k<w.heap.size:=let ⟨_,_,_,_,_,h1,_⟩:=h;h1.lt
theorem IsHis.few {O:Nat->Prop} {w:World} {b r:Nat} {hs:Hs} (h:IsHis w O b r hs):hs.length<=64:=by
 obtain ⟨_,_,_,_,L,h1,rfl⟩:=h
 rw [List.length_map];exact h1.few
theorem ndFlat_len:∀ L:List NdC,(ndFlat L).length=L.length*18
 | []=>rfl
 | c::L=>by
   have:=ndFlat_len L
   unfold ndFlat at *
   rw [List.map_cons,List.flatten_cons,List.length_append,this,NdC.len,List.length_cons];omega
theorem ndFlat_get:∀ (L:List NdC) (i:Nat) (h:i<L.length) (j:Nat),j<18->(ndFlat L)[i*18+j]? = L[i].cells[j]?
 | [],i,h,_,_=>absurd h (Nat.not_lt_zero _)
 | c::L,0,_,j,hj=>by
   unfold ndFlat
   rw [List.map_cons,List.flatten_cons,Nat.zero_mul,Nat.zero_add,List.getElem?_append_left (by rw [NdC.len];exact hj)];rfl
 | c::L,i+1,h,j,hj=>by
   have ih:=ndFlat_get L i (by simpa using h) j hj
   unfold ndFlat at *
   rw [List.map_cons,List.flatten_cons,List.getElem?_append_right (by rw [NdC.len];omega),NdC.len,show (i+1)*18+j-18=i*18+j by omega,ih]
   rfl
theorem HisAt.at_ {O D:Nat->Prop} {w:World} {b r:Nat} {v:Value} {mb:Nat} {l:List (Int×Value)} {L:List NdC} (h:HisAt w O D b r v mb l L) :
 (v=.slice none 0 0/\L=[])\/∃ g cap,v=.slice (some ⟨g,0,none⟩) L.length cap/\L.length<=cap/\cap<=maxLen/\g<w.heap.size/\(∀ i (hi:i<L.length) j,j<18->w.cell? ⟨g,i*18+j,none⟩=L[i].cells[j]?):=by
 obtain ⟨h1,⟨h2,h3⟩ | ⟨g,cap,cur,hv,hb,hg,hn,hc,hs,ht⟩⟩:=h.row
 · exact .inl ⟨h2,List.length_eq_zero_iff.1 h3⟩
 · refine .inr ⟨g,cap,hv,hn,hc,heap_lt hg,fun i hi j hj=>?_⟩
   rw [cell_of_block hg,<-ndFlat_get L i hi j hj,<-ht,List.getElem?_take,if_pos,Array.getElem?_toList]
   calc i*18+j<i*18+18:=by omega
    _=(i+1)*18:=by omega
    _<=L.length*18:=Nat.mul_le_mul_right _ hi
end Go.Proofs.YtjkmalddfoemhaaGreatDoor
namespace Go.Proofs.YtjkmalddfoemhaaGreatDoor
open Go.RowKit Go.Deep
theorem elemU:ElemTy Tryz.prog 132 213 1 8:=ElemTy.mk' (z:=.int .u64 0) Tryz.underlying132 (by kernel_rfl) (by rfl) (by decide)
theorem bit_cell {w:World} {v:Value} {g cap x:Nat} (h:w.ownsRow 0 213 1 v 1 [.int .u64 x]) (hv:v=.slice (some ⟨g,0,none⟩) 1 cap):1<=cap/\cap<=maxLen/\∃ cur:Array Value,w.heap[g]? = some (.cells cur 213 (0,0))/\cur[0]? = some (.int .u64 x)/\cur.size=cap:=by
 subst hv
 obtain ⟨_,⟨h2,_⟩ | ⟨g',cap',cur,hv,_,hg,hn,hc,hs,ht⟩⟩:=h
 · cases h2
 · cases hv
   refine ⟨hn,hc,cur,hg,?_,by simpa using hs⟩
   have:=congrArg (fun l:List Value=>l[0]?) ht
   simpa [List.getElem?_take] using this
theorem i64q (i:Nat) (hi:i<64):(i:Int) / 64=0/\(i:Int)%64=i/\Int.tdiv (i:Int) 64=0/\Int.tmod (i:Int) 64=i:=by
 refine ⟨by omega,by omega,?_,?_⟩
 · rw [Int.tdiv_eq_ediv_of_nonneg (by omega)];omega
 · rw [Int.tmod_eq_emod_of_nonneg (by omega)];omega
theorem test_val (x i:Nat) (hx:x<18446744073709551616):(bits BinOp.and IntKind.u64 ((x:Int) / 2 ^ i) 1==1)=x.testBit i:=by
 have e:((x:Int) / 2 ^ i)=((x / 2 ^ i:Nat):Int):=by simp
 have hl:x / 2 ^ i<18446744073709551616:=Nat.lt_of_le_of_lt (Nat.div_le_self _ _) hx
 have h:bits BinOp.and IntKind.u64 ((x:Int) / 2 ^ i) 1=((x / 2 ^ i%2:Nat):Int):=by
  rw [e]
  have:=u64_and_nat (x / 2 ^ i) 1 hl (by decide)
  rw [show ((1:Nat):Int)=1 from rfl] at this
  rw [this,Nat.and_one_is_mod]
 rw [h,Nat.testBit_eq_decide_div_mod_eq]
 have:x / 2 ^ i%2=0\/x / 2 ^ i%2=1:=by omega
 rcases this with h | h<;>rw [h]<;>rfl
theorem test_any (v:Value) (x i:Nat) (w:World) (h:BitsAt w v x) (hi:i<64):Calls Tryz.prog 94 #[v,.int .i64 i] w fun e w'=>e=.returned (.bool (x.testBit i))/\w=w':=by
 obtain ⟨d0,d1,d2,d3⟩:=i64q i hi
 obtain ⟨hx,⟨rfl,rfl⟩ | ⟨g,cap,rfl,hr⟩⟩:=h
 · go_enter Tryz.func94,Tryz.ntmps94
   go_wp2_with fail
   go_ret
   exact ⟨by simp,rfl⟩
 · obtain ⟨h1,h2,cur,hg,hc,hs⟩:=bit_cell hr rfl
   have h2:cap<=9223372036854775807:=h2
   have m0:w.cell? ⟨g,0,none⟩=some (.int .u64 x):=by rw [cell_of_block hg];exact hc
   have HB:=hid (test_val x i hx)
   clear hr hg hc
   go_enter Tryz.func94,Tryz.ntmps94
   go_wp2_with fail
   go_ret
   exact ⟨by rw [<-HB.out];rfl,rfl⟩
def BitPost (v:Value) (x:Nat) (w:World) (e:Ending) (w':World):Prop :=
 ∃ v',e=.returned v'/\BitsAt w' v' x/\Upd (fun g=>v.ownBlock=some g) w w'/\(v'.ownBlock=v.ownBlock\/∃ g,v'.ownBlock=some g/\w.heap.size<=g)
theorem bits_grow {w:World} (v:Value):v=.slice none 0 0->∃ g cap w4,(Builtin.append_ #[132,132] 132 #[.slice none 0 0,.slice (some ⟨w.heap.size,0,none⟩) 1 1]).run Tryz.prog (w.alloc (.cells #[.int .u64 0] 213 (0,0)))=.ok (.slice (some ⟨g,0,none⟩) 1 cap) w4 ∧
 w4.ownsRow 0 213 1 (.slice (some ⟨g,0,none⟩) 1 cap) 1 [.int .u64 0]/\w.heap.size<=g/\Upd (fun _=>False) w w4:=by
 rintro rfl
 obtain ⟨v',w4,r4,o4,u4,n4⟩:=append_one elemU (World.ownsRow_nil w 0 213 1) #[.int .u64 0] rfl (by simp [Value.oneCell']) (by unfold maxLen;decide) (by decide) (Nat.zero_le _) 132 (0,0)
 rcases ownsRow_fits o4 with ⟨_,h⟩ | ⟨g,cap,rfl,_,_,_⟩
 · cases h
 · rcases n4 with h | ⟨g',h,hg⟩
   · cases h
   · cases h
     exact ⟨g,cap,w4,r4,by simpa using o4,Nat.le_of_lt hg,u4.mono fun k hk=>by cases hk⟩
theorem bits_set {w:World} {g cap x:Nat} (h:w.ownsRow 0 213 1 (.slice (some ⟨g,0,none⟩) 1 cap) 1 [.int .u64 x]) (y:Nat) :
 (w.setCell ⟨g,0,none⟩ (.int .u64 y)).ownsRow 0 213 1 (.slice (some ⟨g,0,none⟩) 1 cap) 1 [.int .u64 y]/\Upd (· = g) w (w.setCell ⟨g,0,none⟩ (.int .u64 y)):=by
 obtain ⟨_,⟨h2,_⟩ | ⟨g',cap',cur,hv,hb,hg,hn,hc,hs,ht⟩⟩:=h
 · cases h2
 · cases hv
   refine ⟨⟨rfl,.inr ⟨g,cap,cur.setIfInBounds 0 (.int .u64 y),rfl,hb,heap_setCell_same (p:=⟨g,0,none⟩) rfl hg,hn,hc,by simpa using hs,?_⟩⟩,(Upd.refl _ _).setCell _ _ (.inl rfl)⟩
   rw [Nat.mul_one] at ht ⊢
   obtain ⟨l⟩:=cur
   cases l with
   | nil=>simp at ht
   | cons a l=>simp
theorem set_val (x i:Nat) (hx:x<18446744073709551616) (hi:i<64):bits BinOp.or IntKind.u64 (x:Int) (IntKind.u64.wrap ((2:Int) ^ i))=((x ||| 2 ^ i:Nat):Int)/\(x ||| 2 ^ i)<18446744073709551616:=by
 have h2:(2:Nat) ^ i<18446744073709551616:=(Nat.pow_lt_pow_iff_right (by decide)).2 hi
 have:=u64_or_nat x (2 ^ i) hx h2
 refine ⟨?_,Nat.or_lt_two_pow (n:=64) hx h2⟩
 rw [<-this]
 have e:IntKind.u64.wrap ((2:Int) ^ i)=((2 ^ i:Nat):Int):=by
  rw [IntKind.wrap_u64,show ((2:Int) ^ i)=((2 ^ i:Nat):Int) by simp]
  clear this
  generalize (2:Nat) ^ i=z at h2
  omega
 rw [e]
theorem upd_own {w wr w':World} {v v0:Value} {g:Nat} (u:Upd (fun _=>False) w wr) (u1:Upd (· = g) wr w') (hg:v0.ownBlock=some g) (ho:v0.ownBlock=v.ownBlock\/∃ g,v0.ownBlock=some g/\w.heap.size<=g):Upd (fun k=>v.ownBlock=some k) w w' :=
 (u.mono fun _ h=>h.elim).comp u1 fun i hi e=>by
  subst e
  rcases ho with ho | ⟨g',h,hg'⟩
  · rw [<-ho];exact hg
  · rw [hg] at h;cases h;omega
theorem or_val (x y:Nat) (hx:x<18446744073709551616) (hy:y<18446744073709551616):bits BinOp.or IntKind.u64 (x:Int) (y:Int)=((x ||| y:Nat):Int)/\(x ||| y)<18446744073709551616 :=
 ⟨u64_or_nat x y hx hy,Nat.or_lt_two_pow (n:=64) hx hy⟩
theorem set_any (v:Value) (x i:Nat) (w:World) (h:BitsAt w v x) (hi:i<64):Calls Tryz.prog 165 #[v,.int .i64 i] w (BitPost v (x ||| 2 ^ i) w):=by
 obtain ⟨d0,d1,d2,d3⟩:=i64q i hi
 obtain ⟨hsv,hsl⟩:=set_val x i h.1 hi
 have HX:=hid h.1
 have HB:=hid h
 clear h
 go_enter Tryz.func165,Tryz.ntmps165
 go_wp2_with fail
 go_loopg [0] 1 (fun gg s0 wr=>BitsAt wr s0 x/\(s0=.slice none 0 0->gg=1)/\Upd (fun _=>False) w wr/\(s0.ownBlock=v.ownBlock\/∃ g,s0.ownBlock=some g/\w.heap.size<=g))
 case atStart=>exact ⟨HB.out,fun _=>rfl,Upd.refl _ _,.inl rfl⟩
 case round =>
  obtain ⟨hb,hg,u,ho⟩:=hrel
  have U:=hid u;have HO:=hid ho;have HG:=hid hg
  clear u ho hg
  obtain ⟨hx,⟨rfl,rfl⟩ | ⟨g,cap,rfl,hr⟩⟩:=hb
  · obtain ⟨g,cap,w4,r4,o4,hg4,u4⟩:=bits_grow (w:=wr) _ rfl
    have O4:=hid o4;have U4:=hid u4;have G4:=hid hg4
    clear o4 u4 hg4
    go_wp2_with (at_builtin;refine wpList_append_run rfl _ _ _ _ rfl rfl rfl r4 ?_)
    go_roundg 0
    case measure=>have:=HG.out trivial;omega
    case rel=>exact ⟨⟨by decide,.inr ⟨_,_,rfl,O4.out⟩⟩,fun h=>(by cases h),U.out.trans U4.out,.inr ⟨_,rfl,Nat.le_trans U.out.size G4.out⟩⟩
  · obtain ⟨h1,h2,cur,hgc,hc,hs⟩:=bit_cell hr rfl
    have h2:cap<=9223372036854775807:=h2
    have m0:wr.cell? ⟨g,0,none⟩=some (.int .u64 x):=by rw [cell_of_block hgc];exact hc
    have mf:∀ o,wr.frozen? ⟨g,o,none⟩=false:=fun _=>frozen_of_block hgc
    have HR:=hid hr
    clear hr hgc hc hs
    go_wp2_with fail
    go_region
    all_goals
     go_wp2_with fail
     go_ret
     obtain ⟨o1,u1⟩:=bits_set HR.out (x ||| 2 ^ i)
     exact ⟨_,rfl,⟨hsl,.inr ⟨_,_,rfl,o1.drew⟩⟩,upd_own U.out u1.drew rfl HO.out,HO.out⟩
theorem union_any (va vb:Value) (x y:Nat) (w:World) (ha:BitsAt w va x) (hb:BitsAt w vb y) (hab:∀ g,va.ownBlock=some g->vb.ownBlock≠some g):Calls Tryz.prog 155 #[va,vb] w (BitPost va (x ||| y) w):=by
 have HA:=hid ha;have HAB:=hid hab
 obtain ⟨hy,⟨rfl,rfl⟩ | ⟨gb,cb,rfl,hrb⟩⟩:=hb
 ·
   have HR:=hid (show BitPost va (x ||| 0) w (.returned va) w by rw [Nat.or_zero];exact ⟨_,rfl,ha,Upd.refl _ _,.inl rfl⟩)
   obtain ⟨hx,⟨rfl,rfl⟩ | ⟨g,cap,rfl,hr⟩⟩:=ha
   · clear hab
     go_enter Tryz.func155,Tryz.ntmps155
     go_wp2_with fail
     go_loopg [0] 0 (fun gg s0 wr=>s0=.slice none 0 0/\w=wr)
     case atStart=>exact ⟨rfl,rfl⟩
     case round =>
      obtain ⟨rfl,rfl⟩:=hrel
      go_wp2_with fail
      go_loopg [17] 0 (fun gg s17 wr=>s17=.int .i64 0/\w=wr)
      case atStart=>exact ⟨rfl,rfl⟩
      case round =>
       obtain ⟨rfl,rfl⟩:=hrel
       go_wp2_with fail
       go_ret
       exact HR.out
   · obtain ⟨h1,h2,_⟩:=bit_cell hr rfl
     have h2:cap<=9223372036854775807:=h2
     clear hab hr
     go_enter Tryz.func155,Tryz.ntmps155
     go_wp2_with fail
     go_loopg [0] 0 (fun gg s0 wr=>s0=.slice (some ⟨g,0,none⟩) 1 cap/\w=wr)
     case atStart=>exact ⟨rfl,rfl⟩
     case round =>
      obtain ⟨rfl,rfl⟩:=hrel
      go_wp2_with fail
      go_loopg [17] 0 (fun gg s17 wr=>s17=.int .i64 0/\w=wr)
      case atStart=>exact ⟨rfl,rfl⟩
      case round =>
       obtain ⟨rfl,rfl⟩:=hrel
       go_wp2_with fail
       go_ret
       exact HR.out
 · have HRB:=hid hrb
   obtain ⟨b1,b2,curb,hgb,hcb,_⟩:=bit_cell hrb rfl
   have b2:cb<=9223372036854775807:=b2
   have mb:w.cell? ⟨gb,0,none⟩=some (.int .u64 y):=by rw [cell_of_block hgb];exact hcb
   have hbl:=heap_lt hgb
   have HX:=hid ha.1
   obtain ⟨hov,hol⟩:=or_val x y ha.1 hy
   clear ha hab hrb hgb hcb
   go_enter Tryz.func155,Tryz.ntmps155
   go_wp2_with fail
   go_loopg [0] 1 (fun gg s0 wr=>BitsAt wr s0 x/\(s0=.slice none 0 0->gg=1)/\(∀ g,s0.ownBlock=some g->g≠gb)/\Upd (fun _=>False) w wr/\(s0.ownBlock=va.ownBlock\/∃ g,s0.ownBlock=some g/\w.heap.size<=g))
   case atStart=>exact ⟨HA.out,fun _=>rfl,fun g hg e=>HAB.out g hg (by rw [e];rfl),Upd.refl _ _,.inl rfl⟩
   case round =>
    obtain ⟨hb,hg,hne,u,ho⟩:=hrel
    have U:=hid u;have HO:=hid ho;have HG:=hid hg;have NE:=hid hne
    clear u ho hg hne
    have mb1:=cell_kept mb (U.out.block gb hbl id)
    obtain ⟨hx,⟨rfl,rfl⟩ | ⟨g,cap,rfl,hr⟩⟩:=hb
    · obtain ⟨g,cap,w4,r4,o4,hg4,u4⟩:=bits_grow (w:=wr) _ rfl
      have O4:=hid o4;have U4:=hid u4;have G4:=hid hg4
      clear o4 u4 hg4
      go_wp2_with (at_builtin;refine wpList_append_run rfl _ _ _ _ rfl rfl rfl r4 ?_)
      go_roundg 0
      case measure=>have:=HG.out trivial;omega
      case rel=>exact ⟨⟨by decide,.inr ⟨_,_,rfl,O4.out⟩⟩,fun h=>(by cases h),fun k hk e=>(by injection hk with hk;have hk:g=k:=hk;have:=G4.out;have:=U.out.size;omega),U.out.trans U4.out,.inr ⟨_,rfl,Nat.le_trans U.out.size G4.out⟩⟩
    · obtain ⟨h1,h2,cur,hgc,hc,hs⟩:=bit_cell hr rfl
      have h2:cap<=9223372036854775807:=h2
      have hgn:¬g=gb:=NE.out g rfl
      have HR:=hid hr
      clear hr hgc hc hs hx
      go_wp2_with fail
      go_loopg [17] 1 (fun gg s17 w2=>∃ k z:Nat,k+gg=1/\s17=.int .i64 k/\z<18446744073709551616/\(k=1->z=x ||| y)/\(k=0->z=x)/\w2.ownsRow 0 213 1 (.slice (some ⟨g,0,none⟩) 1 cap) 1 [.int .u64 z]/\Upd (· = g) wr w2)
      case atStart=>exact ⟨0,x,rfl,rfl,HX.out,fun h=>absurd h (by decide),fun _=>rfl,HR.out,Upd.refl _ _⟩
      case round =>
       obtain ⟨k,z,hk,rfl,hz,hz1,hz0,hr,u2⟩:=hrel
       have HK:=hid hk;have HZ1:=hid hz1;have HZ0:=hid hz0;have U2:=hid u2;have HR2:=hid hr;have HZ:=hid hz
       have mb2:=cell_kept mb1 (U2.out.block gb (Nat.lt_of_lt_of_le hbl U.out.size) (Ne.symm hgn))
       obtain ⟨_,_,cur2,hgc2,hc2,_⟩:=bit_cell hr rfl
       have m2:wr.cell? ⟨g,0,none⟩=some (.int .u64 z):=by rw [cell_of_block hgc2];exact hc2
       have mf2:∀ o,wr.frozen? ⟨g,o,none⟩=false:=fun _=>frozen_of_block hgc2
       have k01:k=0\/k=1:=by omega
       clear hk hz1 hz0 u2 hr hgc2 hc2 hz
       rcases k01 with rfl | rfl
       · have hzx:=HZ0.out rfl
         subst hzx
         obtain ⟨o1,u1⟩:=bits_set HR2.out (z ||| y)
         have O1:=hid o1;have U1:=hid u1
         clear o1 u1 mb mb1
         go_wp2_with fail
         go_roundg 0
         case measure=>have:=HK.out;omega
         case rel =>
          exact ⟨1,_,rfl,(by first | rfl | go_num),hol,fun _=>rfl,fun h=>absurd h (by decide),O1.out,U2.out.trans U1.out⟩
       · have hzx:=HZ1.out rfl
         clear mb mb1
         go_wp2_with fail
         go_ret
         rw [hzx] at HR2
         exact ⟨_,rfl,⟨hol,.inr ⟨_,_,rfl,HR2.out⟩⟩,upd_own U.out U2.out rfl HO.out,HO.out⟩
end Go.Proofs.YtjkmalddfoemhaaGreatDoor
namespace Go.Proofs.YtjkmalddfoemhaaGreatDoor
open Go.RowKit Go.Deep
def NodeAt (w:World) (g o:Nat) (c:NdC):Prop:=w.cell? ⟨g,o,none⟩=some (.int .i64 c.n.sg.key)/\w.cell? ⟨g,o+1,none⟩=some (.string ⟨c.n.sg.text.toArray⟩)/\w.cell? ⟨g,o+2,none⟩=some (.int .i64 c.n.sg.mark)/\w.cell? ⟨g,o+3,none⟩=some (.int .i64 c.n.en.author)/\w.cell? ⟨g,o+4,none⟩=some (.int .i64 c.n.en.seq)/\w.cell? ⟨g,o+5,none⟩=some (.int .i64 c.n.en.day)/\w.cell? ⟨g,o+6,none⟩=some (.slice c.a1 c.n.en.knows.length c.c1)/\w.cell? ⟨g,o+7,none⟩=some (.int .i64 c.n.en.kind)/\w.cell? ⟨g,o+8,none⟩=some (.int .i64 c.n.en.circle)/\w.cell? ⟨g,o+9,none⟩=some (.int .i64 c.n.en.who)/\w.cell? ⟨g,o+10,none⟩=some (.int .i64 c.n.en.n)/\w.cell? ⟨g,o+11,none⟩=some (.int .i64 c.n.en.m)/\w.cell? ⟨g,o+12,none⟩=some (.int .i64 c.n.en.ref)/\w.cell? ⟨g,o+13,none⟩=some (.slice c.a2 c.n.en.keys.length c.c2)/\w.cell? ⟨g,o+14,none⟩=some (.slice c.a3 c.n.en.spans.length c.c3)/\w.cell? ⟨g,o+15,none⟩=some (.string ⟨c.n.en.text.toArray⟩)/\w.cell? ⟨g,o+16,none⟩=some (.int .i64 c.n.level)/\w.cell? ⟨g,o+17,none⟩=some (.slice c.pa c.pn c.pc)
theorem NodeAt.keep {S:Nat->Prop} {w w':World} {g o:Nat} {c:NdC} (h:NodeAt w g o c) (u:Upd S w w') (hS:¬S g):NodeAt w' g o c:=by
 have hg:g<w.heap.size:=World.block_lt_of_cell? _ _ h.1
 have e:=u.block g hg hS
 obtain ⟨h0,h1,h2,h3,h4,h5,h6,h7,h8,h9,h10,h11,h12,h13,h14,h15,h16,h17⟩:=h
 exact ⟨cell_kept h0 e,cell_kept h1 e,cell_kept h2 e,cell_kept h3 e,cell_kept h4 e,cell_kept h5 e,cell_kept h6 e,cell_kept h7 e,cell_kept h8 e,cell_kept h9 e,cell_kept h10 e,cell_kept h11 e,cell_kept h12 e,cell_kept h13 e,cell_kept h14 e,cell_kept h15 e,cell_kept h16 e,cell_kept h17 e⟩
theorem HisAt.node {O D:Nat->Prop} {w:World} {b r:Nat} {v:Value} {mb:Nat} {l:List (Int×Value)} {L:List NdC} (h:HisAt w O D b r v mb l L) (hpos:0<L.length) :
 ∃ g cap,v=.slice (some ⟨g,0,none⟩) L.length cap/\L.length<=cap/\cap<=maxLen/\g<w.heap.size/\∀ i c,L[i]? = some c->NodeAt w g (i*18) c:=by
 rcases h.at_ with ⟨_,rfl⟩ | ⟨g,cap,hv,h1,h2,h3,h4⟩
 · exact absurd hpos (Nat.lt_irrefl 0)
 · refine ⟨g,cap,hv,h1,h2,h3,fun i c hc=>?_⟩
   obtain ⟨hi,e⟩:=List.getElem?_eq_some_iff.1 hc
   subst e
   have k:=fun j hj=>h4 i hi j hj
   exact ⟨k 0 (by decide),k 1 (by decide),k 2 (by decide),k 3 (by decide),k 4 (by decide),k 5 (by decide),k 6 (by decide),k 7 (by decide),k 8 (by decide),k 9 (by decide),k 10 (by decide),k 11 (by decide),k 12 (by decide),k 13 (by decide),k 14 (by decide),k 15 (by decide),k 16 (by decide),k 17 (by decide)⟩
section
variable {O D:Nat->Prop} {w:World} {b r:Nat} {v:Value} {mb:Nat} {l:List (Int×Value)} {L:List NdC}
theorem HisAt.look_no (h:HisAt w O D b r v mb l L) {m:Int} (hm:(Lit.int .i64 m).wf=true) (e:idxF (L.map NdC.n) m=none) :
 (Instr.lookup 129 (.map (some mb)) (.int .i64 m) true).run Tryz.prog w=.ok (.tuple #[.int .i64 0,.bool false]) w:=by
 have:=h.map.getOk Tryz.underlying3 Tryz.underlying129 (zeroI w) hm
 rw [h.look,e] at this
 exact this
theorem HisAt.look_yes (h:HisAt w O D b r v mb l L) {m:Int} (hm:(Lit.int .i64 m).wf=true) {i:Nat} (e:idxF (L.map NdC.n) m=some i) :
 (Instr.lookup 129 (.map (some mb)) (.int .i64 m) true).run Tryz.prog w=.ok (.tuple #[.int .i64 i,.bool true]) w:=by
 have:=h.map.getOk Tryz.underlying3 Tryz.underlying129 (zeroI w) hm
 rw [h.look,e] at this
 exact this
theorem HisAt.idx (h:HisAt w O D b r v mb l L) {m:Int} {i:Nat} (e:idxF (L.map NdC.n) m=some i):i<L.length/\i<64:=by
 obtain ⟨hi,_⟩:=idx_some e
 rw [List.length_map] at hi
 have:=h.few
 exact ⟨hi,by omega⟩
theorem HisAt.nd (_:HisAt w O D b r v mb l L) {i:Nat} {c:NdC} (hc:L[i]? = some c):(L.map NdC.n)[i]? = some c.n:=by
 rw [List.getElem?_map,hc];rfl
end
theorem Upd.set0 {w a:World} (h:Upd (fun _=>False) w a) (k:Nat) (v:Value):Upd (fun _=>False) w (a.setCell ⟨w.heap.size,k,none⟩ v):=h.setCell _ v (.inr (Nat.le_refl _))
def NewHis (w w':World) (r:Nat) (e:Ending):Prop:=∃ b,e=.returned (.pointer (some ⟨b,0,none⟩))/\w.heap.size<=b/\IsHis w' (fun k=>w.heap.size<=k/\k<w'.heap.size) b r []/\Upd (fun _=>False) w w'
theorem hnew_any (r:Nat) (w:World) (hz:6<=w.heap.size):Calls Tryz.prog 54 #[.pointer (some ⟨r,0,none⟩)] w fun e w'=>NewHis w w' r e:=by
 have HZ:=hid hz;clear hz
 have hmk:∀ w,(Instr.makeMap 129 none).run Tryz.prog w=.ok (.map (some w.heap.size)) (w.alloc (.map #[] 0)):=fun w=>run_makeMap _ w
 go_enter Tryz.func54,Tryz.ntmps54
 go_wp2_with fail
 go_ret
 have u1:=(Upd.refl (fun _=>False) w).alloc (.map #[] 0)
 have h1:((w.alloc (.map #[] 0)).alloc (.cells #[.pointer (some ⟨r,0,none⟩),.slice none 0 0,.map (some w.heap.size)] 131 (0,0))).heap[w.heap.size+1]? = some (.cells #[.pointer (some ⟨r,0,none⟩),.slice none 0 0,.map (some w.heap.size)] 131 (0,0)):=by
  have:=heap_alloc_new (w:=w.alloc (.map #[] 0)) (o:=.cells #[.pointer (some ⟨r,0,none⟩),.slice none 0 0,.map (some w.heap.size)] 131 (0,0))
  rw [World.size_alloc] at this
  exact this
 have hz:=HZ.out
 refine ⟨w.heap.size+1,rfl,by omega,⟨fun _=>False,.slice none 0 0,w.heap.size,[],[],⟨h1,World.ownsRow_nil _ _ _ _,(MapIs.made w).upd ((Upd.refl (fun _=>False) _).alloc _) id,fun m=>rfl,fun c h=>(nomatch h),by decide,⟨⟨by omega,?_⟩,⟨by omega,?_⟩,fun g h=>(nomatch h),fun k h=>h.elim⟩,⟨fun g h=>(nomatch h),id,id⟩,fun k hk=>⟨by omega,hk.2⟩⟩,rfl⟩,u1.alloc _⟩
 · simp<;>omega
 · simp<;>omega
theorem hhas_any {O:Nat->Prop} {b r:Nat} {hs:Hs} {w:World} (h:IsHis w O b r hs) (m:Int) (hm:(Lit.int .i64 m).wf=true):Calls Tryz.prog 51 #[.pointer (some ⟨b,0,none⟩),.int .i64 m] w fun e w'=>e=.returned (.bool (idxF hs m).isSome)/\w=w':=by
 obtain ⟨D,v,mb,l,L,H,rfl⟩:=h
 obtain ⟨c0,c1,c2,cf⟩:=cells3 H.head
 cases hi:idxF (L.map NdC.n) m with
 | none =>
   have q:=H.look_no hm hi
   clear H hi
   go_enter Tryz.func51,Tryz.ntmps51
   go_wp2_with fail
   go_ret
   exact ⟨rfl,rfl⟩
 | some i =>
   have q:=H.look_yes hm hi
   clear H hi
   go_enter Tryz.func51,Tryz.ntmps51
   go_wp2_with fail
   go_ret
   exact ⟨rfl,rfl⟩
def sgV (s:Sg):Value:=.agg #[.int .i64 s.key,.string ⟨s.text.toArray⟩,.int .i64 s.mark]
end Go.Proofs.YtjkmalddfoemhaaGreatDoor
