/- LabelsAsk: what the walk computes, as functions; its drawn regions' tables. -/
import Derived.Test.YtmhilolgjcfhjaaGreatGA
import Derived.Test.YtmhilolgjcfhjaaGreatGL
import Derived.Test.YtmhilolgjcfhjaaGreatGH
import Derived.Test.YtmhilolgjcfhjaaGreatGG
import Derived.Test.YtmhilolgjcfhjaaGreatWInv
import Derived.Test.YtmhilolgjcfhjaaGreatWInvWords
set_option linter.unusedVariables false
set_option linter.unusedSimpArgs false

namespace Go.Proofs.YtmhilolgjcfhjaaGreat.X
open Go.RowKit Go.Proofs.YtmhilolgjcfhjaaGreatW.PrintWords Go.Proofs.YtmhilolgjcfhjaaGreatW.PrintLast Go.Proofs.YtmhilolgjcfhjaaGreatW.PrintMore
attribute [local go_sem] max2_int min2_int max_two min_two max_three min_three max_four min_four   -- for this text's walks alone
set_option linter.unusedVariables false
set_option linter.unusedSimpArgs false

/-! ### klaxonlaw09_LabelsAsk: function 5 -/
mutual
def klaxonlaw09_LabelsAsk.j0 : Nat → List (S47) → List (S35) → Bool → ByteArray → ByteArray → ByteArray → Option (Bool)
  | 0, _, _, _, _, _, _ => none
  | k + 1, x0, x2, x29, x163000, x163001, x163002 => if x29 = true then ((klaxonlaw09_live.f k).bind fun t164 => (some t164)) else ((labels_Match.f x0 (([(⟨x163000, (⟨#[61]⟩ : ByteArray), x163002⟩ : S35)] : List (S35)))).bind fun t172 => ((labels_Match.f x0 (([(⟨x163000, (⟨#[33, 61]⟩ : ByteArray), x163002⟩ : S35)] : List (S35)))).bind fun t176 => (if (t172 == t176) = true then (klaxonlaw09_LabelsAsk.j1 k x0 x2 true x163000 x163001 x163002 x163000 (⟨#[61]⟩ : ByteArray) x163002) else ((labels_Match.f x0 (([(⟨x163000, (⟨#[94, 61]⟩ : ByteArray), x163002⟩ : S35)] : List (S35)))).bind fun t180 => ((labels_Match.f x0 (([(⟨x163000, (⟨#[33, 94]⟩ : ByteArray), x163002⟩ : S35)] : List (S35)))).bind fun t184 => (if (t180 == t184) = true then (klaxonlaw09_LabelsAsk.j1 k x0 x2 true x163000 x163001 x163002 x163000 (⟨#[61]⟩ : ByteArray) x163002) else ((labels_Match.f x0 (([(⟨x163000, (⟨#[61]⟩ : ByteArray), x163002⟩ : S35)] : List (S35)))).bind fun t188 => (if t188 = true then ((labels_Match.f x0 (([(⟨x163000, (⟨#[94, 61]⟩ : ByteArray), x163002⟩ : S35)] : List (S35)))).bind fun t192 => (klaxonlaw09_LabelsAsk.j1 k x0 x2 (!t192) x163000 x163001 x163002 x163000 (⟨#[61]⟩ : ByteArray) x163002)) else (klaxonlaw09_LabelsAsk.j1 k x0 x2 false x163000 x163001 x163002 x163000 (⟨#[61]⟩ : ByteArray) x163002)))))))))
def klaxonlaw09_LabelsAsk.j1 : Nat → List (S47) → List (S35) → Bool → ByteArray → ByteArray → ByteArray → ByteArray → ByteArray → ByteArray → Option (Bool)
  | 0, _, _, _, _, _, _, _, _, _ => none
  | k + 1, x0, x2, x83, x163000, x163001, x163002, x166000, x166001, x166002 => if x83 = true then (some false) else ((labels_Match.f x0 ([] : List (S35))).bind fun t193 => (if t193 = true then ((labels_Match.f x0 (([(⟨x163000, (⟨#[94, 61]⟩ : ByteArray), (⟨#[]⟩ : ByteArray)⟩ : S35)] : List (S35)))).bind fun t197 => (klaxonlaw09_LabelsAsk.j2 k x0 x2 (!t197) x166000 x166001 x166002)) else (klaxonlaw09_LabelsAsk.j2 k x0 x2 true x166000 x166001 x166002)))
def klaxonlaw09_LabelsAsk.j2 : Nat → List (S47) → List (S35) → Bool → ByteArray → ByteArray → ByteArray → Option (Bool)
  | 0, _, _, _, _, _, _ => none
  | k + 1, x0, x2, x95, x166000, x166001, x166002 => if x95 = true then (some false) else ((some (([] : List (S35)) : List (S35))).bind fun y198 => (if y198.length + x2.length < 2932031007402 then ((some (y198 ++ x2 : List (S35))).bind fun y201 => ((some (([(⟨x166000, x166001, x166002⟩ : S35)] : List (S35)) : List (S35))).bind fun y204 => (if y201.length + y204.length < 2932031007402 then ((labels_Match.f x0 (y201 ++ y204)).bind fun t210 => ((labels_Match.f x0 x2).bind fun t211 => (if t211 = true then ((labels_Match.f x0 (([(⟨x166000, x166001, x166002⟩ : S35)] : List (S35)))).bind fun t215 => (if (t210 == t215) = true then ((klaxonlaw09_live.f k).bind fun t216 => (some t216)) else (some false))) else (if (t210 == false) = true then ((klaxonlaw09_live.f k).bind fun t217 => (some t217)) else (some false))))) else (none)))) else (none)))
end
def klaxonlaw09_LabelsAsk.f (k : Nat) (l0 : List (S47)) (a1_0 : ByteArray) (a1_1 : ByteArray) (a1_2 : ByteArray) (l2 : List (S35)) : Option (Bool) := (klaxonref09_Set.f l0).bind fun t163 => (if t163 = true then (if (l2.length : Int) > 60 then (klaxonlaw09_LabelsAsk.j0 k l0 l2 true a1_0 a1_1 a1_2) else (klaxonlaw09_LabelsAsk.j0 k l0 l2 (decide ((wrap64 ((a1_0.size : Int) + (a1_2.size : Int))) > 20000)) a1_0 a1_1 a1_2)) else (klaxonlaw09_LabelsAsk.j0 k l0 l2 true a1_0 a1_1 a1_2))
theorem klaxonlaw09_LabelsAsk.mono_l : ∀ k, (∀ y0 y1 y2 y3 y4 y5, LeO (klaxonlaw09_LabelsAsk.j0 k y0 y1 y2 y3 y4 y5) (klaxonlaw09_LabelsAsk.j0 (k + 1) y0 y1 y2 y3 y4 y5)) ∧ (∀ y0 y1 y2 y3 y4 y5 y6 y7 y8, LeO (klaxonlaw09_LabelsAsk.j1 k y0 y1 y2 y3 y4 y5 y6 y7 y8) (klaxonlaw09_LabelsAsk.j1 (k + 1) y0 y1 y2 y3 y4 y5 y6 y7 y8)) ∧ (∀ y0 y1 y2 y3 y4 y5, LeO (klaxonlaw09_LabelsAsk.j2 k y0 y1 y2 y3 y4 y5) (klaxonlaw09_LabelsAsk.j2 (k + 1) y0 y1 y2 y3 y4 y5))
  | 0 => ⟨fun _ _ _ _ _ _ r h => by simp [klaxonlaw09_LabelsAsk.j0] at h, fun _ _ _ _ _ _ _ _ _ r h => by simp [klaxonlaw09_LabelsAsk.j1] at h, fun _ _ _ _ _ _ r h => by simp [klaxonlaw09_LabelsAsk.j2] at h⟩
  | k + 1 => by
    obtain ⟨ih0, ih1, ih2⟩ := klaxonlaw09_LabelsAsk.mono_l k
    refine ⟨?_, ?_, ?_⟩
    · intro y0 y1 y2 y3 y4 y5
      unfold klaxonlaw09_LabelsAsk.j0
      repeat' first
      | (with_reducible exact ih0 _ _ _ _ _ _)
      | (with_reducible exact ih1 _ _ _ _ _ _ _ _ _)
      | (with_reducible exact ih2 _ _ _ _ _ _)
      | (with_reducible exact klaxonlaw09_live.mono _)
      | (with_reducible exact LeO.refl _)
      | (with_reducible exact LeO.none _)
      | (with_reducible refine LeO.ite ?_ ?_)
      | (with_reducible refine LeO.bind ?_ (fun _ => ?_))
      | exact ih0 _ _ _ _ _ _
      | exact ih1 _ _ _ _ _ _ _ _ _
      | exact ih2 _ _ _ _ _ _
      | exact klaxonlaw09_live.mono _
      | exact LeO.none _
      | refine LeO.ite ?_ ?_
      | refine LeO.bind ?_ (fun _ => ?_)
    · intro y0 y1 y2 y3 y4 y5 y6 y7 y8
      unfold klaxonlaw09_LabelsAsk.j1
      repeat' first
      | (with_reducible exact ih0 _ _ _ _ _ _)
      | (with_reducible exact ih1 _ _ _ _ _ _ _ _ _)
      | (with_reducible exact ih2 _ _ _ _ _ _)
      | (with_reducible exact klaxonlaw09_live.mono _)
      | (with_reducible exact LeO.refl _)
      | (with_reducible exact LeO.none _)
      | (with_reducible refine LeO.ite ?_ ?_)
      | (with_reducible refine LeO.bind ?_ (fun _ => ?_))
      | exact ih0 _ _ _ _ _ _
      | exact ih1 _ _ _ _ _ _ _ _ _
      | exact ih2 _ _ _ _ _ _
      | exact klaxonlaw09_live.mono _
      | exact LeO.none _
      | refine LeO.ite ?_ ?_
      | refine LeO.bind ?_ (fun _ => ?_)
    · intro y0 y1 y2 y3 y4 y5
      unfold klaxonlaw09_LabelsAsk.j2
      repeat' first
      | (with_reducible exact ih0 _ _ _ _ _ _)
      | (with_reducible exact ih1 _ _ _ _ _ _ _ _ _)
      | (with_reducible exact ih2 _ _ _ _ _ _)
      | (with_reducible exact klaxonlaw09_live.mono _)
      | (with_reducible exact LeO.refl _)
      | (with_reducible exact LeO.none _)
      | (with_reducible refine LeO.ite ?_ ?_)
      | (with_reducible refine LeO.bind ?_ (fun _ => ?_))
      | exact ih0 _ _ _ _ _ _
      | exact ih1 _ _ _ _ _ _ _ _ _
      | exact ih2 _ _ _ _ _ _
      | exact klaxonlaw09_live.mono _
      | exact LeO.none _
      | refine LeO.ite ?_ ?_
      | refine LeO.bind ?_ (fun _ => ?_)
theorem klaxonlaw09_LabelsAsk.mono : ∀ a0 a1 a2 a3 a4 k, LeO (klaxonlaw09_LabelsAsk.f k a0 a1 a2 a3 a4) (klaxonlaw09_LabelsAsk.f (k + 1) a0 a1 a2 a3 a4) := by
  intro a0 a1 a2 a3 a4 k
  obtain ⟨ih0, ih1, ih2⟩ := klaxonlaw09_LabelsAsk.mono_l k
  unfold klaxonlaw09_LabelsAsk.f
  repeat' first
      | (with_reducible exact ih0 _ _ _ _ _ _)
      | (with_reducible exact ih1 _ _ _ _ _ _ _ _ _)
      | (with_reducible exact ih2 _ _ _ _ _ _)
      | (with_reducible exact klaxonlaw09_live.mono _)
      | (with_reducible exact LeO.refl _)
      | (with_reducible exact LeO.none _)
      | (with_reducible refine LeO.ite ?_ ?_)
      | (with_reducible refine LeO.bind ?_ (fun _ => ?_))
      | exact ih0 _ _ _ _ _ _
      | exact ih1 _ _ _ _ _ _ _ _ _
      | exact ih2 _ _ _ _ _ _
      | exact klaxonlaw09_live.mono _
      | exact LeO.none _
      | refine LeO.ite ?_ ?_
      | refine LeO.bind ?_ (fun _ => ?_)
def klaxonlaw09_LabelsAsk.T7 : Bool × List (List Nat × List Nat) := (true, [([], []), ([], []), ([1], [1]), ([0, 2], [0, 2]), ([], []), ([], []), ([5], [5]), ([4, 6, 3], [4, 6]), ([3, 7], [3, 7]), ([8, 7], [8]), ([9], [9]), ([9], [9]), ([11, 9], [9, 11]), ([10, 12, 9, 9], [9, 10, 12]), ([9], [9]), ([9], [9]), ([15, 9], [9, 15]), ([14, 16, 13, 9], [9, 14, 16]), ([13, 17, 9], [9, 13, 17]), ([9, 18], [9, 18]), ([19, 17], [19]), ([20], [20]), ([20], [20]), ([22, 20], [20, 22]), ([21, 23, 20, 20], [20, 21, 23]), ([24, 24, 20], [20, 24]), ([25], [25]), ([25], [25]), ([27, 25], [25, 27]), ([26, 28, 25, 25], [25, 26, 28]), ([29, 25], [25, 29]), ([25, 30, 20], [20, 25, 30]), ([20, 31], [20, 31])])
def klaxonlaw09_LabelsAsk.B7 : List Nat := [0, 0, 2, 7, 0, 0, 32, 127, 255, 511, 1023, 1023, 3071, 8191, 1023, 1023, 33791, 131071, 262143, 524287, 1048575, 2097151, 2097151, 6291455, 16777215, 33554431, 67108863, 67108863, 201326591, 536870911, 1073741823, 2147483647, 4294967295]
theorem klaxonlaw09_LabelsAsk.tab7 : rtab .any (opsOf Tryz.f5 7) = klaxonlaw09_LabelsAsk.T7 := by kernel_rfl
theorem klaxonlaw09_LabelsAsk.bits7 : waitsOk klaxonlaw09_LabelsAsk.T7.2 klaxonlaw09_LabelsAsk.B7 = true := by kernel_rfl
def klaxonlaw09_LabelsAsk.T11 : Bool × List (List Nat × List Nat) := (true, [([], []), ([], []), ([], []), ([1, 2], [1, 2]), ([], []), ([4], [4]), ([3, 5, 3], [3, 5]), ([0, 6, 6], [0, 6]), ([7, 7, 0, 1, 2, 3, 4, 5, 6, 7], [7])])
def klaxonlaw09_LabelsAsk.B11 : List Nat := [0, 0, 0, 6, 0, 16, 62, 127, 255]
theorem klaxonlaw09_LabelsAsk.tab11 : rtab .any (opsOf Tryz.f5 11) = klaxonlaw09_LabelsAsk.T11 := by kernel_rfl
theorem klaxonlaw09_LabelsAsk.bits11 : waitsOk klaxonlaw09_LabelsAsk.T11.2 klaxonlaw09_LabelsAsk.B11 = true := by kernel_rfl
theorem ask_j1_false (k : Nat) (x0 : List S47) (x2 : List S35) (p q s t u v : ByteArray) (r : Bool) (h : klaxonlaw09_LabelsAsk.j1 k x0 x2 true p q s t u v = some r) : r = false := by
  cases k with
  | zero => simp [klaxonlaw09_LabelsAsk.j1] at h
  | succ k =>
    simp only [klaxonlaw09_LabelsAsk.j1] at h
    exact (Option.some.inj h).symm

end Go.Proofs.YtmhilolgjcfhjaaGreat.X
