/- Layer 11's small examples, in the plain model. -/
import Derived.Test.YtabnniabofhihaaDoorSmModel
namespace Go.Proofs.YtabnniabofhihaaDoor
open Go

def vMsg : Bs := [97, 98, 99, 100, 101, 102, 103, 104, 105, 106]
def vPa : Bs := [55, 59, 48, 59, 50, 59, 97, 98, 99, 100, 101, 102, 103, 104]
def vPb : Bs := [55, 59, 49, 59, 50, 59, 105, 106]
def vPe : Bs := [55, 59, 48, 59, 49, 59]
def vPx : Bs := [55, 59, 49, 59, 51, 59, 105, 106]
def vPy : Bs := [55, 59, 49, 59, 50, 59]
def vAsk : Bs := [55, 59, 50, 91, 48, 59, 49, 59, 93]
def vB1 : Bx := [(7, ⟨2, [(1, [105, 106])]⟩)]
def vB2 : Bx := [(7, ⟨2, [(0, [97, 98, 99, 100, 101, 102, 103, 104]), (1, [105, 106])]⟩)]
theorem e7 : numE 7 = [55, 59] := by simp [numE, intE, Lib.itoa, Lib.decDigits]
theorem e0 : numE 0 = [48, 59] := by simp [numE, intE, Lib.itoa, Lib.decDigits]
theorem e1 : numE 1 = [49, 59] := by simp [numE, intE, Lib.itoa, Lib.decDigits]
theorem e2 : numE 2 = [50, 59] := by simp [numE, intE, Lib.itoa, Lib.decDigits]
theorem e3 : numE 3 = [51, 59] := by simp [numE, intE, Lib.itoa, Lib.decDigits]
theorem eNums : numsE [0, 1] = [50, 91, 48, 59, 49, 59, 93] := by simp [numsE, listE, intE, Lib.itoa, Lib.decDigits]
theorem cPa : partE 7 0 2 [97, 98, 99, 100, 101, 102, 103, 104] = vPa := by unfold partE; rw [e7, e0, e2]; rfl
theorem cPb : partE 7 1 2 [105, 106] = vPb := by unfold partE; rw [e7, e1, e2]; rfl
theorem cPe : partE 7 0 1 [] = vPe := by unfold partE; rw [e7, e0, e1]; rfl
theorem cPx : partE 7 1 3 [105, 106] = vPx := by unfold partE; rw [e7, e1, e3]; rfl
theorem cPy : partE 7 1 2 [] = vPy := by unfold partE; rw [e7, e1, e2]; rfl
theorem vSplit1 : splitL 7 vMsg 8 = [vPa, vPb] := by
  have hc : cntF vMsg.length 8 = 2 := by decide
  unfold splitL
  rw [hc, ← cPa, ← cPb]
  rfl
theorem vSplit2 : splitL 7 [] 8 = [vPe] := by
  have hc : cntF ([] : Bs).length 8 = 1 := by decide
  unfold splitL
  rw [hc, ← cPe]
  rfl
theorem pPa : partF vPa = some ⟨7, 0, 2, [97, 98, 99, 100, 101, 102, 103, 104]⟩ := by
  rw [← cPa]; exact partF_mk (by decide) (by decide) (by decide) (by decide) (by rw [cPa]; decide) (.inl (by decide))
theorem pPb : partF vPb = some ⟨7, 1, 2, [105, 106]⟩ := by
  rw [← cPb]; exact partF_mk (by decide) (by decide) (by decide) (by decide) (by rw [cPb]; decide) (.inl (by decide))
theorem pPx : partF vPx = some ⟨7, 1, 3, [105, 106]⟩ := by
  rw [← cPx]; exact partF_mk (by decide) (by decide) (by decide) (by decide) (by rw [cPx]; decide) (.inl (by decide))
theorem pPy : partF vPy = none := by
  rw [← cPy]; exact partF_no (by decide) (by decide) (by decide) (by decide) (by decide)
theorem vTake1 : takeF [] vPb = (0, vB1) := by unfold takeF; rw [pPb]; rfl
theorem vTake2 : takeF vB1 vPx = (5, vB1) := by unfold takeF; rw [pPx]; rfl
theorem vTake3 : takeF vB1 vPy = (2, vB1) := by unfold takeF; rw [pPy]
theorem vTake4 : takeF vB1 vPa = (0, vB2) := by unfold takeF; rw [pPa]; rfl
theorem vMiss1 : missF vB1 7 = ([0], 0) := by decide
theorem vMiss2 : missF vB2 8 = ([], 4) := by decide
theorem vMiss3 : missF vB2 7 = ([], 0) := by decide
theorem vDone1 : doneX vB1 7 = ([], false) := by decide
theorem vDone2 : doneX vB2 7 = (vMsg, true) := by decide
theorem cAsk : numE 7 ++ numsE [0, 1] = vAsk := by rw [e7, eNums]; rfl
theorem vAsk1 : askF vB1 7 = (vAsk, 0) := by
  unfold askF
  rw [vMiss1]
  dsimp only
  rw [if_neg (by decide), if_neg (by decide)]
  rw [askL]
  have h : runTo 0 [] = (0, []) := rfl
  rw [h]
  dsimp only
  rw [show ([] : List Int) ++ [0, 0 + 1] = [0, 1] from rfl, cAsk, if_neg (by decide), askL]
theorem vAsk2 : askF vB2 7 = ([], 7) := by
  unfold askF
  rw [vMiss3]
  rfl
theorem vReq : requestF vAsk = some (7, [0, 1]) := by
  have h1 : numF ⟨vAsk, false⟩ = (7, ⟨numsE [0, 1], false⟩) := by rw [← cAsk]; exact numF_mk (by unfold I64; omega) (by omega) _ _
  have h2 : numsF ⟨numsE [0, 1], false⟩ = ([0, 1], ⟨[], false⟩) := by
    have := numsF_mk (l := [0, 1]) (by unfold I64; decide) (by intro x hx; unfold I64; simp at hx; omega) []
    rw [List.append_nil] at this
    exact this
  unfold requestF
  rw [h1]
  dsimp only
  rw [h2]
  dsimp only
  rw [if_pos]
  exact ⟨rfl, rfl, by decide, by decide, by decide, rfl, by decide, by decide, cAsk⟩
theorem vResume : resumeF [vPa, vPb] vAsk = ([vPa], 0) := by
  unfold resumeF
  rw [vReq]
  dsimp only
  have hf : fitB 7 [vPa, vPb].length 0 [vPa, vPb] = true := by
    unfold fitB; rw [pPa]; unfold fitB; rw [pPb]; rfl
  rw [hf, if_neg (by decide), if_neg (by decide), if_neg (by decide)]
  rfl
end Go.Proofs.YtabnniabofhihaaDoor
