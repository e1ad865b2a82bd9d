/- The examples of the documentation of layer 33, computed. No program in sight. -/
import Derived.Test.YtjkmalddfoemhaaGreatDoorRm
import Derived.Test.YtjkmalddfoemhaaGreatDoorOrLaws
namespace Go.Proofs.YtjkmalddfoemhaaGreatDoor
open Go
section
variable {rd:List UInt8->En×Int} {R:Rg}
theorem marks_ins {h:Hs} (H:His rd R h):marksF h=risingF (h.map Nd.mark):=(rising_sort H.nodup).symm
theorem carL_nodup (s:Stp) (acts:List ActP) (kind day round:Int):((carL s acts kind day round).map Prod.fst).Nodup:=by
 have:∀ (acts:List ActP) (l:List (Int×List Int)),(l.map Prod.fst).Nodup->((acts.foldl (carStep s kind day round) l).map Prod.fst).Nodup:=by
  intro acts
  induction acts with
  | nil=>exact fun l h=>h
  | cons a acts ih =>
    intro l h
    refine ih _ ?_
    unfold carStep
    split
    · exact nodup_put h _ _
    · exact h
 exact this acts [] List.nodup_nil
def carriedR (s:Stp) (acts:List ActP) (kind day round:Int):List Int:=risingF (bigL (quorumF s) (carL s acts kind day round))
theorem carried_r (s:Stp) (acts:List ActP) (kind day round:Int):carriedF s acts kind day round=carriedR s acts kind day round:=by
 unfold carriedF carriedR
 refine (rising_sort ?_).symm
 unfold bigL
 exact (carL_nodup s acts kind day round).sublist (List.filter_sublist.map _)
def inRoundR (s:Stp) (acts:List ActP) (day n:Int):Option (Int×Int):=match carriedR s acts 20 day n with
 | []=>none
 | v::_=>some (v,n)
theorem inRound_r (s:Stp) (acts:List ActP) (day n:Int):inRound s acts day n=inRoundR s acts day n:=by unfold inRound inRoundR;rw [carried_r];cases carriedR s acts 20 day n<;>rfl
def decidedR (s:Stp) (acts:List ActP) (day:Int):Option (Int×Int):=(roundsF acts 20 day).findSome? (inRoundR s acts day)
theorem decided_r (s:Stp) (acts:List ActP) (day:Int):decidedF s acts day=decidedR s acts day:=by
 unfold decidedF decidedR
 rw [show inRound s acts day=inRoundR s acts day from funext fun n=>inRound_r s acts day n]
def putR (h:Hs) (out ms:List Int):List Int:=out++(sortedR h ms).filter fun m=>decide (m∉out)
theorem put_r {h:Hs} (H:His rd R h) (out ms:List Int):putF h out ms=putR h out ms:=by unfold putF putR;rw [sorted_ref H]
end
def ow (q kind:Int) (k:List Int) (r:Int):En:=⟨3,q,0,k,kind,0,0,0,0,r,[],[],[]⟩
def orE:List En:=[nt 3 0 [],nt 4 0 [],ow 1 18 [0] (-1),ow 2 19 [2] 2,ow 3 20 [3] 2]
def orSign (R:Rg) (e:En):Rg×Sg:=signF R e.author (txtF e)
def orStep (st:Rg×Hs) (e:En):Rg×Hs:=((orSign st.1 e).1,(addF rdF (orSign st.1 e).1 st.2 (orSign st.1 e).2).1)
def orSt (k:Nat):Rg×Hs:=(orE.take k).foldl orStep ([],[])
theorem orSt_succ {k:Nat} (hk:k<orE.length):orSt (k+1)=orStep (orSt k) orE[k]:=by
 unfold orSt
 rw [List.take_succ_eq_append_getElem hk,List.foldl_append];rfl
theorem or_his:∀ k,k<=orE.length->His rdF (orSt k).1 (orSt k).2
 | 0,_=>His.nil
 | k+1,hk=>by
   rw [orSt_succ hk]
   obtain ⟨x,e⟩:=sign_grow (orSt k).1 (orE[k].author) (txtF orE[k])
   have H:=(or_his k (by omega)).grow x
   rw [<-e] at H
   exact H.add _
theorem or_len:∀ k,k<=orE.length->(orSt k).1.length<=k
 | 0,_=>Nat.le_refl _
 | k+1,hk=>by
   rw [orSt_succ hk]
   have:=or_len k (by omega)
   have h:=sign_len (orSt k).1 (orE[k].author) (txtF orE[k])
   show (signF (orSt k).1 (orE[k].author) (txtF orE[k])).1.length<=_
   omega
theorem or_add5:(addF rdF (orSign (orSt 0).1 (nt 3 0 [])).1 (orSt 0).2 (orSign (orSt 0).1 (nt 3 0 [])).2).2=0/\(addF rdF (orSign (orSt 1).1 (nt 4 0 [])).1 (orSt 1).2 (orSign (orSt 1).1 (nt 4 0 [])).2).2=0 ∧
 (addF rdF (orSign (orSt 2).1 (ow 1 18 [0] (-1))).1 (orSt 2).2 (orSign (orSt 2).1 (ow 1 18 [0] (-1))).2).2=0/\(addF rdF (orSign (orSt 3).1 (ow 2 19 [2] 2)).1 (orSt 3).2 (orSign (orSt 3).1 (ow 2 19 [2] 2)).2).2=0 ∧
 (addF rdF (orSign (orSt 4).1 (ow 3 20 [3] 2)).1 (orSt 4).2 (orSign (orSt 4).1 (ow 3 20 [3] 2)).2).2=0:=by decide +kernel
theorem or_add:∀ k (hk:k<orE.length),(addF rdF (orSign (orSt k).1 orE[k]).1 (orSt k).2 (orSign (orSt k).1 orE[k]).2).2=0
 | 0,_=>or_add5.1
 | 1,_=>or_add5.2.1
 | 2,_=>or_add5.2.2.1
 | 3,_=>or_add5.2.2.2.1
 | 4,_=>or_add5.2.2.2.2
 | k+5,hk=>by
   have:orE.length=5:=rfl
   omega
theorem or_txt:∀ e∈orE,(txtF e).length<=1000:=by decide +kernel
def orR:Rg:=(orSt 5).1
def orH:Hs:=(orSt 5).2
def orQ:Hs:=restrictF rdF orR orH [1,3]
def orS:Stp:=⟨[3],0,0⟩
theorem orS_ok:StpOk orS:=⟨fun i hi=>by
 have:i=0:=by have:orS.keys.length=1:=rfl;omega
 subst this
 exact ⟨(by decide:(0:Int)<=3),(by decide:(3:Int)<200),fun q=>absurd q (Nat.lt_irrefl _)⟩,⟨by decide,by decide⟩,⟨by decide,by decide⟩⟩
theorem orH_his:His rdF orR orH:=or_his 5 (by decide)
theorem orQ_his:His rdF orR orQ:=(restrict_ok orH_his (Nat.le_trans (or_len 5 (by decide)) (by decide)) [1,3]).1
theorem orH_days:DaysIs orS (seeF orH (marksF orH)) [(2,0)]:=by
 rw [marks_ins orH_his]
 refine ⟨fun d hd=>?_,?_⟩
 · have:d=0:=by simp at hd;omega
   subst this
   rw [decided_r]
   exact (by decide +kernel:decidedR orS (seeF orH (risingF (orH.map Nd.mark))) 0=some (2,0))
 · rw [decided_r]
   exact (by decide +kernel:decidedR orS (seeF orH (risingF (orH.map Nd.mark))) 1=none)
theorem orQ_days:DaysIs orS (seeF orQ (marksF orQ)) []:=by
 rw [marks_ins orQ_his]
 refine ⟨fun d hd=>absurd hd (Nat.not_lt_zero _),?_⟩
 rw [decided_r]
 exact (by decide +kernel:decidedR orS (seeF orQ (risingF (orQ.map Nd.mark))) 0=none)
theorem orH_seq:seqF orH [(2,0)]=[0,1,2,3,4]/\endsF orH [(2,0)]=[1]:=by
 have e:seqF orH [(2,0)]=putF orH (putF orH [] (pastF orH 2)) (marksF orH):=rfl
 have f:endsF orH [(2,0)]=[((putF orH [] (pastF orH 2)).length:Int)]:=rfl
 rw [e,f,put_r orH_his,put_r orH_his,<-past_ref_eq orH_his,marks_ins orH_his]
 decide +kernel
theorem orQ_seq:seqF orQ []=[0,1,2,3]/\endsF orQ []=[]:=by
 have e:seqF orQ []=putF orQ [] (marksF orQ):=rfl
 refine ⟨?_,rfl⟩
 rw [e,put_r orQ_his,marks_ins orQ_his]
 decide +kernel
end Go.Proofs.YtjkmalddfoemhaaGreatDoor
