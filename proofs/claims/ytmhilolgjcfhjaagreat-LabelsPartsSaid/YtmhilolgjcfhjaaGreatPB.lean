/- slices.SortStableFunc's rotations and the first parts of its merge. -/
import Derived.Test.YtmhilolgjcfhjaaGreatPA
import Derived.Sort.LotA
import Derived.Lib.QuietBelow
set_option linter.unusedVariables false
set_option linter.unusedSimpArgs false

/- slices.swapRangeCmpFunc and slices.rotateCmpFunc at labels: two blocks that lie side by side change places. -/
namespace Go.Proofs.YtmhilolgjcfhjaaGreat.X
open Go.RowKit Go.Proofs.YtmhilolgjcfhjaaGreatW.PrintWords Go.Proofs.YtmhilolgjcfhjaaGreatW.PrintLast Go.Proofs.YtmhilolgjcfhjaaGreatW.PrintMore
open Go.Sort (swp size_swp swp_other swp_left swp_right PermIn swp_permIn permIn_refl permIn_trans)

def swpRange (a b : Nat) : Nat → Array S47 → Array S47
  | 0, d => d
  | k + 1, d => swp (swpRange a b k d) (a + k) (b + k)
theorem swpRange_size (a b n : Nat) (d : Array S47) : (swpRange a b n d).size = d.size := by
  induction n with
  | zero => rfl
  | succ n ih => rw [swpRange, size_swp, ih]
theorem swpRange_at (a b n : Nat) (d : Array S47) (h : a + n ≤ b) (hb : b + n ≤ d.size) (k : Nat) :
    (swpRange a b n d)[k]! = if a ≤ k ∧ k < a + n then d[b + (k - a)]! else if b ≤ k ∧ k < b + n then d[a + (k - b)]! else d[k]! := by
  induction n generalizing k with
  | zero => rw [if_neg (by omega), if_neg (by omega)]; rfl
  | succ n ih =>
    have ih' := ih (by omega) (by omega)
    rw [swpRange]
    by_cases h1 : k = a + n
    · subst h1
      rw [swp_left _ _ _ (by rw [swpRange_size]; omega) (by omega), ih', if_neg (by omega), if_neg (by omega), if_pos (by omega)]
      congr 1; omega
    · by_cases h2 : k = b + n
      · subst h2
        rw [swp_right _ _ _ (by rw [swpRange_size]; omega), ih', if_neg (by omega), if_neg (by omega), if_neg (by omega), if_pos (by omega)]
        congr 1; omega
      · rw [swp_other _ _ _ _ h1 h2, ih']
        repeat' split
        all_goals first | rfl | (exfalso; omega)
theorem swpRange_perm (a b n lo hi : Nat) (d : Array S47) (h : a + n ≤ b) (hb : b + n ≤ hi) (hl : lo ≤ a) (hh : hi ≤ d.size) : PermIn lo hi d (swpRange a b n d) := by
  induction n with
  | zero => exact permIn_refl _ _ _
  | succ n ih =>
    exact permIn_trans _ _ _ _ _ (ih (by omega) (by omega)) (swp_permIn _ _ _ _ _ (by omega) (by omega) (by omega) (by omega) (by rw [swpRange_size]; exact hh))

set_option maxHeartbeats 1000000 in
set_option maxRecDepth 100000 in
theorem swapRange (a b n : Int) (fv : Value) (w0 : World) (g cap : Nat) (tl : List Value) (d : Array S47) (w : World) (ha : 0 ≤ a) (hb : 0 ≤ b) (hn : 0 ≤ n) (hab : a + n ≤ b) (hbn : b + n ≤ d.size) (hsz : d.size < 4611686018427387904)
    (hs : SRow w0 g tl d w) :
    Calls Tryz.prog 90 #[.slice (some ⟨g, 0, none⟩) d.size cap, .int .i64 a, .int .i64 b, .int .i64 n, fv] w fun e w' => e = .returned (.tuple #[]) ∧ SRow w0 g tl (swpRange a.toNat b.toNat n.toNat d) w' := by
  have hu47 := Tryz.underlying47
  have HS := Aside0.mk hs
  clear hs
  go_enter Tryz.func90, Tryz.ntmps90
  go_wp2
  go_loopg [10] n.toNat (fun gg s10 wr => ∃ (i : Int), s10 = .int .i64 i ∧ 0 ≤ i ∧ i ≤ n ∧ Aside0 ((n - i).toNat ≤ gg) ∧ Aside0 (SRow w0 g tl (swpRange a.toNat b.toNat i.toNat d) wr))
  case atStart => exact ⟨0, rfl, by omega, hn, ⟨by omega⟩, ⟨HS.out⟩⟩
  case round =>
    obtain ⟨i, rfl, h0, hi, HG, HR⟩ := hrel
    by_cases hlt : i < n
    · have hsz2 : (swpRange a.toNat b.toNat i.toNat d).size = d.size := swpRange_size _ _ _ _
      have HN := Aside0.mk (show swpRange a.toNat b.toNat (i + 1).toNat d = swp (swpRange a.toNat b.toNat i.toNat d) (a + i).toNat (b + i).toNat by
        rw [show (i + 1).toNat = i.toNat + 1 by omega, swpRange, show a.toNat + i.toNat = (a + i).toNat by omega, show b.toNat + i.toNat = (b + i).toNat by omega])
      have HR1 := HR.out
      generalize hD : swpRange a.toNat b.toNat i.toNat d = D at HR1 hsz2 HN
      clear hD
      obtain ⟨h1, h2⟩ := HR1.cells (a + i).toNat (by omega)
      obtain ⟨h3, h4⟩ := HR1.cells (b + i).toNat (by omega)
      have hfz : ∀ j, wr.frozen? ⟨g, j, none⟩ = false := fun j => HR1.frozen j
      have HRR := Aside0.mk (((HR1.store (a + i).toNat (by omega) (D[(b + i).toNat]!)).store (b + i).toNat (by simp; omega) (D[(a + i).toNat]!)).drew)
      generalize hX : D[(a + i).toNat]! = X at h1 h2 HRR
      generalize hY : D[(b + i).toNat]! = Y at h3 h4 HRR
      have HX := Aside0.mk hX
      have HY := Aside0.mk hY
      clear hsz2 HR1 hX hY
      have p1 : 0 ≤ a + i := by omega
      have p2 : a + i < (d.size : Int) := by omega
      have p3 : 0 ≤ b + i := by omega
      have p4 : b + i < (d.size : Int) := by omega
      go_wp2
      go_region
      go_wp2
      have hG := HG.out
      go_roundg (n - (i + 1)).toNat
      case measure => omega
      case rel => exact ⟨i + 1, by go_num, by omega, by omega, ⟨Nat.le_refl _⟩, ⟨by rw [HN.out]; unfold swp; rw [HX.out, HY.out]; exact HRR.out⟩⟩
    · have hle : ¬ i < n := hlt
      obtain rfl : i = n := by omega
      go_wp2
      go_end0
      exact ⟨rfl, HR.out⟩

/-- Where place k takes its label from, when data[a:m] and data[m:b] change places. -/
def rotAt (a m b : Nat) (d : Array S47) (k : Nat) : S47 :=
  if k < a then d[k]! else if k < a + (b - m) then d[m + (k - a)]! else if k < b then d[k - (b - m)]! else d[k]!
theorem rot_step1 (p m j : Nat) (d : Array S47) (h : p + j < m) (hb : m + j ≤ d.size) (k : Nat) : rotAt (p + j) m (m + j) (swpRange p m j d) k = rotAt p m (m + j) d k := by
  unfold rotAt
  simp only [swpRange_at p m j d (by omega) hb]
  repeat' split
  all_goals first | rfl | (exfalso; omega) | (congr 1; omega)
theorem rot_step2 (p i m j : Nat) (d : Array S47) (hp : p + i = m) (h : i < j) (hb : m + j ≤ d.size) (k : Nat) : rotAt p m (m + j - i) (swpRange p (m + j - i) i d) k = rotAt p m (m + j) d k := by
  unfold rotAt
  simp only [swpRange_at p (m + j - i) i d (by omega) (by omega)]
  repeat' split
  all_goals first | rfl | (exfalso; omega) | (congr 1; omega)
theorem rot_done (p i m : Nat) (d : Array S47) (hp : p + i = m) (hb : m + i ≤ d.size) (k : Nat) : (swpRange p m i d)[k]! = rotAt p m (m + i) d k := by
  unfold rotAt
  simp only [swpRange_at p m i d (by omega) hb]
  repeat' split
  all_goals first | rfl | (exfalso; omega) | (congr 1; omega)

/-- What a rotation leaves. -/
def RotPost (w0 : World) (g : Nat) (tl : List Value) (a m b : Nat) (d : Array S47) (w' : World) : Prop :=
  ∃ d', SRow w0 g tl d' w' ∧ PermIn a b d d' ∧ ∀ k, d'[k]! = rotAt a m b d k
/-- What a rotation has left to do: i places ahead of m, j behind it. -/
def RotLeft (w0 : World) (g : Nat) (tl : List Value) (a m b : Nat) (d : Array S47) (i j : Nat) (w' : World) : Prop :=
  ∃ d', SRow w0 g tl d' w' ∧ PermIn a b d d' ∧ ∀ k, rotAt (m - i) m (m + j) d' k = rotAt a m b d k

theorem rot_call (a b n : Int) (fv : Value) (w0 : World) (g cap : Nat) (tl : List Value) (sz : Nat) (d : Array S47) (w : World) (ha : 0 ≤ a) (hb : 0 ≤ b) (hn : 0 ≤ n) (hab : a + n ≤ b) (hd : d.size = sz) (hbn : b + n ≤ sz) (hsz : sz < 4611686018427387904)
    (hs : SRow w0 g tl d w) :
    Calls Tryz.prog 90 #[.slice (some ⟨g, 0, none⟩) sz cap, .int .i64 a, .int .i64 b, .int .i64 n, fv] w fun e w' => e = .returned (.tuple #[]) ∧ SRow w0 g tl (swpRange a.toNat b.toNat n.toNat d) w' := by
  subst hd
  exact swapRange a b n fv w0 g cap tl d w ha hb hn hab hbn hsz hs

set_option maxHeartbeats 1000000 in
set_option maxRecDepth 100000 in
theorem rotate (a m b : Int) (fv : Value) (w0 : World) (g cap : Nat) (tl : List Value) (d : Array S47) (w : World) (ha : 0 ≤ a) (ham : a < m) (hmb : m < b) (hbn : b ≤ d.size) (hsz : d.size < 4611686018427387904)
    (hs : SRow w0 g tl d w) :
    Calls Tryz.prog 81 #[.slice (some ⟨g, 0, none⟩) d.size cap, .int .i64 a, .int .i64 m, .int .i64 b, fv] w fun e w' => e = .returned (.tuple #[]) ∧ RotPost w0 g tl a.toNat m.toNat b.toNat d w' := by
  have HS := Aside0.mk hs
  clear hs
  go_enter Tryz.func81, Tryz.ntmps81
  go_wp2
  go_loopg [10, 11] (b - a).toNat (fun gg s10 s11 wr => ∃ (i j : Int), s10 = .int .i64 i ∧ s11 = .int .i64 j ∧ 1 ≤ i ∧ 1 ≤ j ∧ i ≤ m - a ∧ j ≤ b - m ∧ Aside0 ((i + j).toNat ≤ gg) ∧ Aside0 (RotLeft w0 g tl a.toNat m.toNat b.toNat d i.toNat j.toNat wr))
  case atStart =>
    refine ⟨m - a, b - m, rfl, rfl, by omega, by omega, by omega, by omega, ⟨by omega⟩, ⟨d, HS.out, permIn_refl _ _ _, fun k => ?_⟩⟩
    rw [show m.toNat - (m - a).toNat = a.toNat by omega, show m.toNat + (b - m).toNat = b.toNat by omega]
  case round =>
    obtain ⟨i, j, rfl, rfl, hi1, hj1, hi2, hj2, HG, HR⟩ := hrel
    obtain ⟨D, hS, hP, hA⟩ := HR.out
    have hDs := Aside0.mk hP.1
    have HA := Aside0.mk hA
    have HP := Aside0.mk hP
    have HSS := Aside0.mk hS
    clear hS hP hA HR
    have hG := HG.out
    by_cases hne : i = j
    · subst hne
      have q1 : ((i : Int) != i) = false := by simp
      have hcall := fun w' hw' => rot_call (m - i) m i fv w0 g cap tl d.size D w' (by omega) (by omega) (by omega) (by omega) hDs.out (by omega) hsz hw'
      have HD := Aside0.mk (rot_done (m.toNat - i.toNat) i.toNat m.toNat D (by omega) (by have := hDs.out; omega))
      have HPP := Aside0.mk (permIn_trans _ _ _ _ _ HP.out (swpRange_perm (m - i).toNat m.toNat i.toNat a.toNat b.toNat D (by omega) (by omega) (by omega) (by have := hDs.out; omega)))
      have HC := Aside0.mk hcall
      clear hcall
      go_wp2_with (go_at_call 90; refine (HC.out _ HSS.out).mono ?_; rintro e w' ⟨rfl, hw'⟩)
      go_end0
      refine ⟨rfl, _, hw', HPP.out, fun k => ?_⟩
      rw [← HA.out k, ← HD.out k, show (m - i).toNat = m.toNat - i.toNat by omega]
    · have q1 : (i != j) = true := by simpa using hne
      by_cases hgt : j < i
      · have hcall := fun w' hw' => rot_call (m - i) m j fv w0 g cap tl d.size D w' (by omega) (by omega) (by omega) (by omega) hDs.out (by omega) hsz hw'
        have HD := Aside0.mk (rot_step1 (m.toNat - i.toNat) m.toNat j.toNat D (by omega) (by have := hDs.out; omega))
        have HPP := Aside0.mk (permIn_trans _ _ _ _ _ HP.out (swpRange_perm (m - i).toNat m.toNat j.toNat a.toNat b.toNat D (by omega) (by omega) (by omega) (by have := hDs.out; omega)))
        have HC := Aside0.mk hcall
        clear hcall
        go_wp2_with (go_at_call 90; refine (HC.out _ HSS.out).mono ?_; rintro e w' ⟨rfl, hw'⟩)
        go_roundg (i - j + j).toNat
        case measure => omega
        case rel =>
          refine ⟨i - j, j, rfl, rfl, by omega, by omega, by omega, by omega, ⟨Nat.le_refl _⟩, ⟨_, hw', HPP.out, fun k => ?_⟩⟩
          rw [← HA.out k, ← HD.out k, show (m - i).toNat = m.toNat - i.toNat by omega, show m.toNat - (i - j).toNat = m.toNat - i.toNat + j.toNat by omega]
      · have hlt : i < j := by omega
        have hcall := fun w' hw' => rot_call (m - i) (m + j - i) i fv w0 g cap tl d.size D w' (by omega) (by omega) (by omega) (by omega) hDs.out (by omega) hsz hw'
        have HD := Aside0.mk (rot_step2 (m.toNat - i.toNat) i.toNat m.toNat j.toNat D (by omega) (by omega) (by have := hDs.out; omega))
        have HPP := Aside0.mk (permIn_trans _ _ _ _ _ HP.out (swpRange_perm (m - i).toNat (m + j - i).toNat i.toNat a.toNat b.toNat D (by omega) (by omega) (by omega) (by have := hDs.out; omega)))
        have HC := Aside0.mk hcall
        clear hcall hgt
        go_wp2_with (go_at_call 90; refine (HC.out _ HSS.out).mono ?_; rintro e w' ⟨rfl, hw'⟩)
        go_roundg (i + (j - i)).toNat
        case measure => omega
        case rel =>
          refine ⟨i, j - i, rfl, rfl, by omega, by omega, by omega, by omega, ⟨Nat.le_refl _⟩, ⟨_, hw', HPP.out, fun k => ?_⟩⟩
          rw [← HA.out k, ← HD.out k, show (m - i).toNat = m.toNat - i.toNat by omega, show (m + j - i).toNat = m.toNat + j.toNat - i.toNat by omega, show m.toNat + (j - i).toNat = m.toNat + j.toNat - i.toNat by omega]
end Go.Proofs.YtmhilolgjcfhjaaGreat.X

/- The plain laws of the library's in-place merge: one label is moved in, two halves that are rotated, what they come to. No program in sight. -/
namespace Go.Proofs.YtmhilolgjcfhjaaGreat.X
open Go.Sort (swp size_swp swp_other swp_left swp_right PermIn swp_permIn permIn_refl permIn_trans permIn_all permIn_mono SortedIn SWO)

section
variable {lt : S47 → S47 → Bool}
theorem sorted_le (hS : SWO lt) {a b : Nat} {d : Array S47} (h : SortedIn lt a b d) (i j : Nat) (hai : a ≤ i) (hij : i ≤ j) (hjb : j < b) : lt d[j]! d[i]! = false := by
  rcases Nat.lt_or_eq_of_le hij with h1 | h1
  · exact h i j hai h1 hjb
  · subst h1; exact hS.irrefl _
theorem swo_asymm (hS : SWO lt) {x y : S47} (h : lt x y = true) : lt y x = false := by
  cases hyx : lt y x with
  | false => rfl
  | true => have := hS.trans x y x h hyx; rw [hS.irrefl] at this; cases this
/-- lt x y, not lt z y: lt x z. -/
theorem swo_lt_le (hS : SWO lt) {x y z : S47} (h1 : lt x y = true) (h2 : lt z y = false) : lt x z = true := by
  cases h : lt x z with
  | true => rfl
  | false => have := hS.ntrans x z y h h2; rw [h1] at this; cases this
/-- not lt x y.., lt x z from x ≤ y < z. -/
theorem swo_le_lt (hS : SWO lt) {x y z : S47} (h1 : lt y x = false) (h2 : lt y z = true) : lt x z = true := by
  cases h : lt x z with
  | true => rfl
  | false => have := hS.ntrans y x z h1 h; rw [h2] at this; cases this

def upm (a : Nat) : Nat → Array S47 → Array S47
  | 0, d => d
  | k + 1, d => swp (upm a k d) (a + k) (a + k + 1)
theorem upm_size (a n : Nat) (d : Array S47) : (upm a n d).size = d.size := by
  induction n with
  | zero => rfl
  | succ n ih => rw [upm, size_swp, ih]
theorem upm_at (a n : Nat) (d : Array S47) (h : a + n < d.size) (k : Nat) :
    (upm a n d)[k]! = if a ≤ k ∧ k < a + n then d[k + 1]! else if k = a + n then d[a]! else d[k]! := by
  induction n generalizing k with
  | zero =>
    rw [if_neg (by omega)]
    split
    · rename_i e; subst e; rfl
    · rfl
  | succ n ih =>
    have ih' := ih (by omega)
    rw [upm]
    by_cases h1 : k = a + n
    · subst h1
      rw [swp_left _ _ _ (by rw [upm_size]; omega) (by omega), ih']
      repeat' split
      all_goals first | rfl | (exfalso; omega)
    · by_cases h2 : k = a + n + 1
      · subst h2
        rw [swp_right _ _ _ (by rw [upm_size]; omega), ih']
        repeat' split
        all_goals first | rfl | (exfalso; omega)
      · rw [swp_other _ _ _ _ h1 h2, ih']
        repeat' split
        all_goals first | rfl | (exfalso; omega)
theorem upm_perm (a n lo hi : Nat) (d : Array S47) (hl : lo ≤ a) (h : a + n < hi) (hh : hi ≤ d.size) : PermIn lo hi d (upm a n d) := by
  induction n with
  | zero => exact permIn_refl _ _ _
  | succ n ih => exact permIn_trans _ _ _ _ _ (ih (by omega)) (swp_permIn _ _ _ _ _ (by omega) (by omega) (by omega) (by omega) (by rw [upm_size]; exact hh))
def dnm (m : Nat) : Nat → Array S47 → Array S47
  | 0, d => d
  | k + 1, d => swp (dnm m k d) (m - k) (m - k - 1)
theorem dnm_size (a n : Nat) (d : Array S47) : (dnm a n d).size = d.size := by
  induction n with
  | zero => rfl
  | succ n ih => rw [dnm, size_swp, ih]
theorem dnm_at (m n : Nat) (d : Array S47) (hn : n ≤ m) (h : m < d.size) (k : Nat) :
    (dnm m n d)[k]! = if m - n < k ∧ k ≤ m then d[k - 1]! else if k = m - n then d[m]! else d[k]! := by
  induction n generalizing k with
  | zero =>
    rw [if_neg (by omega)]
    split
    · rename_i e; subst e; rfl
    · rfl
  | succ n ih =>
    have ih' := ih (by omega)
    rw [dnm]
    by_cases h1 : k = m - n
    · subst h1
      rw [swp_left _ _ _ (by rw [dnm_size]; omega) (by omega), ih']
      repeat' split
      all_goals first | rfl | (exfalso; omega)
    · by_cases h2 : k = m - n - 1
      · subst h2
        rw [swp_right _ _ _ (by rw [dnm_size]; omega), ih']
        repeat' split
        all_goals first | rfl | (exfalso; omega)
      · rw [swp_other _ _ _ _ h1 h2, ih']
        repeat' split
        all_goals first | rfl | (exfalso; omega)
theorem dnm_perm (m n lo hi : Nat) (d : Array S47) (hn : n ≤ m) (hl : lo ≤ m - n) (h : m < hi) (hh : hi ≤ d.size) : PermIn lo hi d (dnm m n d) := by
  induction n with
  | zero => exact permIn_refl _ _ _
  | succ n ih => exact permIn_trans _ _ _ _ _ (ih (by omega) (by omega)) (swp_permIn _ _ _ _ _ (by omega) (by omega) (by omega) (by omega) (by rw [dnm_size]; exact hh))

theorem ins_up (hS : SWO lt) (a b i : Nat) (d : Array S47) (hb : b ≤ d.size) (hi : a + 1 ≤ i) (hib : i ≤ b) (h : SortedIn lt (a + 1) b d)
    (hL : ∀ k, a + 1 ≤ k → k < i → lt d[k]! d[a]! = true) (hH : ∀ k, i ≤ k → k < b → lt d[k]! d[a]! = false) : SortedIn lt a b (upm a (i - 1 - a) d) := by
  intro p q hap hpq hqb
  rw [upm_at _ _ _ (by omega), upm_at _ _ _ (by omega)]
  by_cases c1 : p < i - 1
  · rw [if_pos (show a ≤ p ∧ p < a + (i - 1 - a) by omega)]
    by_cases c2 : q < i - 1
    · rw [if_pos (by omega)]; exact h _ _ (by omega) (by omega) (by omega)
    · rw [if_neg (by omega)]
      by_cases c3 : q = i - 1
      · rw [if_pos (by omega)]; exact swo_asymm hS (hL _ (by omega) (by omega))
      · rw [if_neg (by omega)]; exact h _ _ (by omega) (by omega) (by omega)
  · rw [if_neg (show ¬ (a ≤ p ∧ p < a + (i - 1 - a)) by omega), if_neg (show ¬ (a ≤ q ∧ q < a + (i - 1 - a)) by omega), if_neg (show ¬ q = a + (i - 1 - a) by omega)]
    by_cases c3 : p = i - 1
    · rw [if_pos (by omega)]; exact hH _ (by omega) (by omega)
    · rw [if_neg (by omega)]; exact h _ _ (by omega) (by omega) (by omega)
theorem ins_down (hS : SWO lt) (a m i : Nat) (d : Array S47) (hb : m < d.size) (hi : a ≤ i) (him : i ≤ m) (h : SortedIn lt a m d)
    (hL : ∀ k, a ≤ k → k < i → lt d[m]! d[k]! = false) (hH : ∀ k, i ≤ k → k < m → lt d[m]! d[k]! = true) : SortedIn lt a (m + 1) (dnm m (m - i) d) := by
  intro p q hap hpq hqb
  rw [dnm_at _ _ _ (by omega) (by omega), dnm_at _ _ _ (by omega) (by omega)]
  by_cases c1 : i < p
  · rw [if_pos (show m - (m - i) < p ∧ p ≤ m by omega), if_pos (show m - (m - i) < q ∧ q ≤ m by omega)]
    exact h _ _ (by omega) (by omega) (by omega)
  · rw [if_neg (show ¬ (m - (m - i) < p ∧ p ≤ m) by omega)]
    by_cases c2 : i < q
    · rw [if_pos (show m - (m - i) < q ∧ q ≤ m by omega)]
      by_cases c3 : p = i
      · rw [if_pos (by omega)]; exact swo_asymm hS (hH _ (by omega) (by omega))
      · rw [if_neg (by omega)]; exact sorted_le hS h _ _ (by omega) (by omega) (by omega)
    · rw [if_neg (show ¬ (m - (m - i) < q ∧ q ≤ m) by omega), if_neg (show ¬ p = m - (m - i) by omega)]
      by_cases c3 : q = i
      · rw [if_pos (by omega)]; exact hL _ (by omega) (by omega)
      · rw [if_neg (by omega)]; exact h _ _ (by omega) (by omega) (by omega)

/-- What the two halves are behind the rotation. -/
theorem sym_step (hS : SWO lt) (d d1 : Array S47) (a m b st en mid : Nat) (haS : a ≤ st) (hSm : st ≤ m) (hmE : m ≤ en) (hEb : en ≤ b) (hmid : st + (en - m) = mid)
    (h1 : SortedIn lt a m d) (h2 : SortedIn lt m b d) (f1 : st = a ∨ en = b ∨ lt d[en]! d[st - 1]! = false) (f2 : st = m ∨ en = m ∨ lt d[en - 1]! d[st]! = true)
    (hd : ∀ k, d1[k]! = rotAt st m en d k) :
    SortedIn lt a st d1 ∧ SortedIn lt st mid d1 ∧ SortedIn lt mid en d1 ∧ SortedIn lt en b d1 ∧ ∀ i j, a ≤ i → i < mid → mid ≤ j → j < b → lt d1[j]! d1[i]! = false := by
  have eA : ∀ k, k < st → d1[k]! = d[k]! := fun k hk => by rw [hd]; unfold rotAt; rw [if_pos hk]
  have eB : ∀ k, st ≤ k → k < mid → d1[k]! = d[m + (k - st)]! := fun k h1 h2 => by rw [hd]; unfold rotAt; rw [if_neg (by omega), if_pos (by omega)]
  have eC : ∀ k, mid ≤ k → k < en → d1[k]! = d[k - (en - m)]! := fun k h1 h2 => by rw [hd]; unfold rotAt; rw [if_neg (by omega), if_neg (by omega), if_pos h2]
  have eD : ∀ k, en ≤ k → d1[k]! = d[k]! := fun k h1 => by rw [hd]; unfold rotAt; rw [if_neg (by omega), if_neg (by omega), if_neg (by omega)]
  refine ⟨?_, ?_, ?_, ?_, ?_⟩
  · intro p q hp hpq hq; rw [eA _ hq, eA _ (by omega)]; exact h1 _ _ hp hpq (by omega)
  · intro p q hp hpq hq; rw [eB _ (by omega) hq, eB _ hp (by omega)]; exact h2 _ _ (by omega) (by omega) (by omega)
  · intro p q hp hpq hq; rw [eC _ (by omega) hq, eC _ hp (by omega)]; exact h1 _ _ (by omega) (by omega) (by omega)
  · intro p q hp hpq hq; rw [eD _ (by omega), eD _ hp]; exact h2 _ _ (by omega) hpq hq
  · intro i j hai him hmj hjb
    by_cases ci : i < st
    · rw [eA _ ci]
      by_cases cj : j < en
      · rw [eC _ hmj cj]; exact h1 _ _ hai (by omega) (by omega)
      · rw [eD _ (by omega)]
        rcases f1 with f | f | f
        · omega
        · omega
        · exact hS.ntrans _ _ _ (hS.ntrans _ _ _ (sorted_le hS h2 en j (by omega) (by omega) hjb) f) (sorted_le hS h1 i (st - 1) hai (by omega) (by omega))
    · rw [eB _ (by omega) him]
      by_cases cj : j < en
      · rw [eC _ hmj cj]
        rcases f2 with f | f | f
        · omega
        · omega
        · exact hS.ntrans _ _ _ (hS.ntrans _ _ _ (sorted_le hS h1 st (j - (en - m)) (by omega) (by omega) (by omega)) (swo_asymm hS f)) (sorted_le hS h2 (m + (i - st)) (en - 1) (by omega) (by omega) (by omega))
      · rw [eD _ (by omega)]; exact h2 _ _ (by omega) (by omega) hjb
/-- Both halves in order, and the one below the other: the whole is. -/
theorem sym_join (d1 d2 d3 : Array S47) (a mid b : Nat) (hb : b ≤ d1.size) (ham : a ≤ mid) (hmb : mid ≤ b) (p12 : PermIn a mid d1 d2) (p23 : PermIn mid b d2 d3) (s2 : SortedIn lt a mid d2) (s3 : SortedIn lt mid b d3)
    (hc : ∀ i j, a ≤ i → i < mid → mid ≤ j → j < b → lt d1[j]! d1[i]! = false) : SortedIn lt a b d3 ∧ PermIn a b d1 d3 := by
  have e2 : ∀ k, mid ≤ k → d2[k]! = d1[k]! := fun k hk => p12.2.1 k (.inr hk)
  have e3 : ∀ k, k < mid → d3[k]! = d2[k]! := fun k hk => p23.2.1 k (.inl hk)
  have c2 : ∀ i j, a ≤ i → i < mid → mid ≤ j → j < b → lt d2[j]! d2[i]! = false := fun i j h1 h2 h3 h4 => by
    rw [e2 j h3]
    exact permIn_all d1 d2 a mid (fun x => lt d1[j]! x = false) (by omega) p12 (fun i h1 h2 => hc i j h1 h2 h3 h4) i h1 h2
  have c3 : ∀ i j, a ≤ i → i < mid → mid ≤ j → j < b → lt d3[j]! d3[i]! = false := fun i j h1 h2 h3 h4 => by
    rw [e3 i h2]
    exact permIn_all d2 d3 mid b (fun x => lt x d2[i]! = false) (by rw [p12.1]; exact hb) p23 (fun j h3 h4 => c2 i j h1 h2 h3 h4) j h3 h4
  refine ⟨fun i j hai hij hjb => ?_, permIn_trans _ _ _ _ _ (permIn_mono _ _ _ _ _ _ (Nat.le_refl _) hmb hb p12) (permIn_mono _ _ _ _ _ _ ham (Nat.le_refl _) (by rw [p12.1]; exact hb) p23)⟩
  by_cases ci : i < mid
  · by_cases cj : j < mid
    · rw [e3 i ci, e3 j cj]; exact s2 i j hai hij cj
    · exact c3 i j hai ci (by omega) hjb
  · exact s3 i j (by omega) hij hjb
/-- A rotation of nothing. -/
theorem rot_none (st m en : Nat) (d : Array S47) (h : st = m ∨ en = m) (hs : st ≤ m) (he : m ≤ en) (k : Nat) : d[k]! = rotAt st m en d k := by
  unfold rotAt
  rcases h with h | h
  · subst h
    repeat' split
    all_goals first | rfl | (congr 1; omega) | (exfalso; omega)
  · subst h
    repeat' split
    all_goals first | rfl | (congr 1; omega) | (exfalso; omega)
end
end Go.Proofs.YtmhilolgjcfhjaaGreat.X

/- slices.symMergeCmpFunc at labels where one half is a single label: it is moved in. -/
namespace Go.Proofs.YtmhilolgjcfhjaaGreat.X
open Go.RowKit Go.Proofs.YtmhilolgjcfhjaaGreatW.PrintWords Go.Proofs.YtmhilolgjcfhjaaGreatW.PrintLast Go.Proofs.YtmhilolgjcfhjaaGreatW.PrintMore
open Go.Sort (swp size_swp swp_other swp_left swp_right PermIn swp_permIn permIn_refl permIn_trans SortedIn)

def MergePost (w0 : World) (g : Nat) (tl : List Value) (a b : Nat) (d : Array S47) (w' : World) : Prop :=
  ∃ d', SRow w0 g tl d' w' ∧ PermIn a b d d' ∧ SortedIn ltN a b d'
set_option maxHeartbeats 2000000 in
set_option maxRecDepth 100000 in
theorem sym1 (a m b : Int) (w0 : World) (g cap : Nat) (tl : List Value) (d : Array S47) (w : World) (ha : 0 ≤ a) (ham : m - a = 1) (hmb : m < b) (hb : b ≤ d.size) (hsz : d.size < 4611686018427387904)
    (hs : SRow w0 g tl d w) (hq : SortedIn ltN m.toNat b.toNat d) :
    Calls Tryz.prog 73 #[.slice (some ⟨g, 0, none⟩) d.size cap, .int .i64 a, .int .i64 m, .int .i64 b, .func (.func 41) #[] #[]] w fun e w' => e = .returned (.tuple #[]) ∧ MergePost w0 g tl a.toNat b.toNat d w' := by
  have hu47 := Tryz.underlying47
  have HS := Aside0.mk hs
  have HQ := Aside0.mk hq
  clear hs hq
  have q1 : (m - a == 1) = true := by simpa using ham
  have HA3 := Aside0.mk ham
  have p0 : a < m := by omega
  clear ham
  go_enter Tryz.func73, Tryz.ntmps73
  go_wp2_with fail
  go_loopg [10, 11] (b - m).toNat (fun gg s10 s11 wr => ∃ (i j : Int), s10 = .int .i64 i ∧ s11 = .int .i64 j ∧ m ≤ i ∧ i ≤ j ∧ j ≤ b ∧ Aside0 ((j - i).toNat ≤ gg) ∧ Aside0 (SRow w0 g tl d wr)
      ∧ Aside0 (∀ k, m.toNat ≤ k → k < i.toNat → ltN d[k]! d[a.toNat]! = true) ∧ Aside0 (∀ k, j.toNat ≤ k → k < b.toNat → ltN d[k]! d[a.toNat]! = false))
  case atStart => exact ⟨m, b, rfl, rfl, by omega, by omega, by omega, ⟨by omega⟩, ⟨HS.out⟩, ⟨fun k h1 h2 => by omega⟩, ⟨fun k h1 h2 => by omega⟩⟩
  case round =>
    obtain ⟨i, j, rfl, rfl, hi, hij, hjb, HG, HR, HL, HH⟩ := hrel
    by_cases hlt : i < j
    · obtain ⟨h, hh⟩ : ∃ h : Int, (i + j) / 2 = h := ⟨_, rfl⟩
      have r1 : i ≤ h := by omega
      have r2 : h < j := by omega
      have r3 : 0 ≤ h := by omega
      have r4 : h < (d.size : Int) := by omega
      have r5 : 0 ≤ m := by omega
      have r6 : m < (d.size : Int) := by omega
      have r7 : a < (d.size : Int) := by omega
      have HRS := HR.out
      obtain ⟨h1, h2⟩ := HRS.cells h.toNat (by omega)
      obtain ⟨h3, h4⟩ := HRS.cells a.toNat (by omega)
      generalize hX : d[h.toNat]! = X at h1 h2
      generalize hY : d[a.toNat]! = Y at h3 h4
      have HX := Aside0.mk hX
      have HY := Aside0.mk hY
      clear hX hY
      have hG := HG.out
      by_cases hlv : cmpS X.f0 Y.f0 < 0
      · have q8 : decide (cmpS X.f0 Y.f0 < 0) = true := decide_eq_true hlv
        have HV := Aside0.mk (show ltN d[h.toNat]! d[a.toNat]! = true by rw [HX.out, HY.out]; exact q8)
        clear hlv
        have l1 := cell_regrown h1
        have l2 := cell_regrown h2
        have l3 := cell_regrown h3
        have l4 := cell_regrown h4
        have HRS0 := Aside0.mk HRS
        clear h1 h2 h3 h4 HRS
        go_wp2
        refine wp_region_quiet_below (by kernel_rfl) (by kernel_rfl) ?_
        repeat (quiet_step ((go_at_call 41; exact Calls.regrown_of (byName _ _ _))))
        refine wpQuiet_nil ?_
        intro _ hw'
        obtain ⟨⟨dq, osq⟩, hw''⟩ := hw'
        subst hw''
        have hb2 := below_regrown wr dq osq
        generalize Go.Sort.grow (redrawn wr dq) osq = w2 at hb2 ⊢
        clear l1 l2 l3 l4
        have HR3 := HRS0.out.below hb2
        clear hb2
        clear hh
        go_wp2
        go_roundg (j - (h + 1)).toNat
        case measure => omega
        case rel => exact ⟨h + 1, j, by go_num, rfl, by omega, by omega, by omega, ⟨Nat.le_refl _⟩, ⟨HR3⟩, ⟨fun k k1 k2 => swo_le_lt ltN_swo (sorted_le ltN_swo HQ.out k h.toNat (by omega) (by omega) (by omega)) HV.out⟩, ⟨HH.out⟩⟩
      · have q8 : decide (cmpS X.f0 Y.f0 < 0) = false := decide_eq_false hlv
        have HV := Aside0.mk (show ltN d[h.toNat]! d[a.toNat]! = false by rw [HX.out, HY.out]; exact q8)
        clear hlv
        have l1 := cell_regrown h1
        have l2 := cell_regrown h2
        have l3 := cell_regrown h3
        have l4 := cell_regrown h4
        have HRS0 := Aside0.mk HRS
        clear h1 h2 h3 h4 HRS
        go_wp2
        refine wp_region_quiet_below (by kernel_rfl) (by kernel_rfl) ?_
        repeat (quiet_step ((go_at_call 41; exact Calls.regrown_of (byName _ _ _))))
        refine wpQuiet_nil ?_
        intro _ hw'
        obtain ⟨⟨dq, osq⟩, hw''⟩ := hw'
        subst hw''
        have hb2 := below_regrown wr dq osq
        generalize Go.Sort.grow (redrawn wr dq) osq = w2 at hb2 ⊢
        clear l1 l2 l3 l4
        have HR3 := HRS0.out.below hb2
        clear hb2
        clear hh
        go_wp2
        go_roundg (h - i).toNat
        case measure => omega
        case rel => exact ⟨i, h, rfl, by go_num, by omega, by omega, by omega, ⟨Nat.le_refl _⟩, ⟨HR3⟩, ⟨HL.out⟩, ⟨fun k k1 k2 => ltN_swo.ntrans _ _ _ (sorted_le ltN_swo HQ.out h.toNat k (by omega) (by omega) (by omega)) HV.out⟩⟩
    · obtain rfl : i = j := by omega
      have hm0 := HA3.out
      have HF := Aside0.mk (ins_up ltN_swo a.toNat b.toNat i.toNat d (by omega) (by omega) (by omega) (by rw [show a.toNat + 1 = m.toNat by omega]; exact HQ.out) (by rw [show a.toNat + 1 = m.toNat by omega]; exact HL.out) HH.out)
      have HP := Aside0.mk (upm_perm a.toNat (i.toNat - 1 - a.toNat) a.toNat b.toNat d (Nat.le_refl _) (by omega) (by omega))
      have HRR := Aside0.mk HR.out
      clear HL HH HR HQ HG
      go_wp2_with fail
      obtain ⟨wo, hwo⟩ : ∃ wo : World, wo = wr := ⟨_, rfl⟩
      subst hwo
      go_loopg [13] (i - 1 - a).toNat (fun gg s13 wr => ∃ (k : Int), s13 = .int .i64 k ∧ a ≤ k ∧ k ≤ i - 1 ∧ Aside0 ((i - 1 - k).toNat ≤ gg) ∧ Aside0 (SRow w0 g tl (upm a.toNat (k - a).toNat d) wr))
      case atStart => exact ⟨a, rfl, by omega, by omega, ⟨by omega⟩, ⟨by rw [show (a - a).toNat = 0 by omega]; exact HRR.out⟩⟩
      case round =>
        obtain ⟨k, rfl, hk1, hk2, HG, HR⟩ := hrel
        have hG := HG.out
        by_cases hlt : k < i - 1
        · have hsz2 : (upm a.toNat (k - a).toNat d).size = d.size := upm_size _ _ _
          have HN := Aside0.mk (show upm a.toNat (k + 1 - a).toNat d = swp (upm a.toNat (k - a).toNat d) k.toNat (k + 1).toNat by
            rw [show (k + 1).toNat = k.toNat + 1 by omega, show (k + 1 - a).toNat = (k - a).toNat + 1 by omega, upm, show a.toNat + (k - a).toNat = k.toNat by omega])
          have HR1 := HR.out
          generalize hD : upm a.toNat (k - a).toNat d = D at HR1 hsz2 HN
          clear hD
          obtain ⟨h1, h2⟩ := HR1.cells k.toNat (by omega)
          obtain ⟨h3, h4⟩ := HR1.cells (k + 1).toNat (by omega)
          have hfz : ∀ j, wr.frozen? ⟨g, j, none⟩ = false := fun j => HR1.frozen j
          have HRR := Aside0.mk (((HR1.store k.toNat (by omega) (D[(k + 1).toNat]!)).store (k + 1).toNat (by simp; omega) (D[k.toNat]!)).drew)
          generalize hX : D[k.toNat]! = X at h1 h2 HRR
          generalize hY : D[(k + 1).toNat]! = Y at h3 h4 HRR
          have HX := Aside0.mk hX
          have HY := Aside0.mk hY
          have hlt2 : k + 1 < i := by omega
          clear hsz2 HR1 hX hY
          have p1 : 0 ≤ k := by omega
          have p2 : k < (d.size : Int) := by omega
          have p3 : 0 ≤ k + 1 := by omega
          have p4 : k + 1 < (d.size : Int) := by omega
          go_wp2
          go_region
          go_wp2
          go_roundg (i - 1 - (k + 1)).toNat
          case measure => omega
          case rel => exact ⟨k + 1, by go_num, by omega, by omega, ⟨Nat.le_refl _⟩, ⟨by rw [HN.out]; unfold swp; rw [HX.out, HY.out]; exact HRR.out⟩⟩
        · have hle : ¬ k < i - 1 := hlt
          have hle2 : i ≤ k + 1 := by omega
          obtain rfl : k = i - 1 := by omega
          go_wp2
          refine bodyPost_ret (results_none rfl _ _ _) rfl ?_
          exact ⟨rfl, _, HR.out, by rw [show (i - 1 - a).toNat = i.toNat - 1 - a.toNat by omega]; exact HP.out, by rw [show (i - 1 - a).toNat = i.toNat - 1 - a.toNat by omega]; exact HF.out⟩
end Go.Proofs.YtmhilolgjcfhjaaGreat.X

/- slices.symMergeCmpFunc at labels where one half is a single label: it is moved in. -/
namespace Go.Proofs.YtmhilolgjcfhjaaGreat.X
open Go.RowKit Go.Proofs.YtmhilolgjcfhjaaGreatW.PrintWords Go.Proofs.YtmhilolgjcfhjaaGreatW.PrintLast Go.Proofs.YtmhilolgjcfhjaaGreatW.PrintMore
open Go.Sort (swp size_swp swp_other swp_left swp_right PermIn swp_permIn permIn_refl permIn_trans SortedIn)

set_option maxHeartbeats 2000000 in
set_option maxRecDepth 100000 in
theorem sym2 (a m b : Int) (w0 : World) (g cap : Nat) (tl : List Value) (d : Array S47) (w : World) (ha : 0 ≤ a) (ham : a < m) (hne : m - a ≠ 1) (hmb : b - m = 1) (hb : b ≤ d.size) (hsz : d.size < 4611686018427387904)
    (hs : SRow w0 g tl d w) (hq : SortedIn ltN a.toNat m.toNat d) :
    Calls Tryz.prog 73 #[.slice (some ⟨g, 0, none⟩) d.size cap, .int .i64 a, .int .i64 m, .int .i64 b, .func (.func 41) #[] #[]] w fun e w' => e = .returned (.tuple #[]) ∧ MergePost w0 g tl a.toNat b.toNat d w' := by
  have hu47 := Tryz.underlying47
  have HS := Aside0.mk hs
  have HQ := Aside0.mk hq
  clear hs hq
  have q1 : (m - a == 1) = false := by simpa using hne
  have q11 : (b - m == 1) = true := by simpa using hmb
  have HA3 := Aside0.mk hmb
  have p0 : m < b := by omega
  clear hmb hne
  go_enter Tryz.func73, Tryz.ntmps73
  go_wp2_with fail
  go_loopg [14, 15] (m - a).toNat (fun gg s14 s15 wr => ∃ (i j : Int), s14 = .int .i64 i ∧ s15 = .int .i64 j ∧ a ≤ i ∧ i ≤ j ∧ j ≤ m ∧ Aside0 ((j - i).toNat ≤ gg) ∧ Aside0 (SRow w0 g tl d wr)
      ∧ Aside0 (∀ k, a.toNat ≤ k → k < i.toNat → ltN d[m.toNat]! d[k]! = false) ∧ Aside0 (∀ k, j.toNat ≤ k → k < m.toNat → ltN d[m.toNat]! d[k]! = true))
  case atStart => exact ⟨a, m, rfl, rfl, by omega, by omega, by omega, ⟨by omega⟩, ⟨HS.out⟩, ⟨fun k h1 h2 => by omega⟩, ⟨fun k h1 h2 => by omega⟩⟩
  case round =>
    obtain ⟨i, j, rfl, rfl, hi, hij, hjb, HG, HR, HL, HH⟩ := hrel
    by_cases hlt : i < j
    · obtain ⟨h, hh⟩ : ∃ h : Int, (i + j) / 2 = h := ⟨_, rfl⟩
      have r1 : i ≤ h := by omega
      have r2 : h < j := by omega
      have r3 : 0 ≤ h := by omega
      have r4 : h < (d.size : Int) := by omega
      have r5 : 0 ≤ m := by omega
      have r6 : m < (d.size : Int) := by omega
      have r7 : a < (d.size : Int) := by omega
      have HRS := HR.out
      obtain ⟨h1, h2⟩ := HRS.cells m.toNat (by omega)
      obtain ⟨h3, h4⟩ := HRS.cells h.toNat (by omega)
      generalize hX : d[m.toNat]! = X at h1 h2
      generalize hY : d[h.toNat]! = Y at h3 h4
      have HX := Aside0.mk hX
      have HY := Aside0.mk hY
      clear hX hY
      have hG := HG.out
      by_cases hlv : cmpS X.f0 Y.f0 < 0
      · have q8 : decide (cmpS X.f0 Y.f0 < 0) = true := decide_eq_true hlv
        have HV := Aside0.mk (show ltN d[m.toNat]! d[h.toNat]! = true by rw [HX.out, HY.out]; exact q8)
        clear hlv
        have l1 := cell_regrown h1
        have l2 := cell_regrown h2
        have l3 := cell_regrown h3
        have l4 := cell_regrown h4
        have HRS0 := Aside0.mk HRS
        clear h1 h2 h3 h4 HRS
        go_wp2
        refine wp_region_quiet_below (by kernel_rfl) (by kernel_rfl) ?_
        repeat (quiet_step ((go_at_call 41; exact Calls.regrown_of (byName _ _ _))))
        refine wpQuiet_nil ?_
        intro _ hw'
        obtain ⟨⟨dq, osq⟩, hw''⟩ := hw'
        subst hw''
        have hb2 := below_regrown wr dq osq
        generalize Go.Sort.grow (redrawn wr dq) osq = w2 at hb2 ⊢
        clear l1 l2 l3 l4
        have HR3 := HRS0.out.below hb2
        clear hb2
        clear hh
        go_wp2
        go_roundg (h - i).toNat
        case measure => omega
        case rel => exact ⟨i, h, rfl, by go_num, by omega, by omega, by omega, ⟨Nat.le_refl _⟩, ⟨HR3⟩, ⟨HL.out⟩, ⟨fun k k1 k2 => swo_lt_le ltN_swo HV.out (sorted_le ltN_swo HQ.out h.toNat k (by omega) (by omega) (by omega))⟩⟩
      · have q8 : decide (cmpS X.f0 Y.f0 < 0) = false := decide_eq_false hlv
        have HV := Aside0.mk (show ltN d[m.toNat]! d[h.toNat]! = false by rw [HX.out, HY.out]; exact q8)
        clear hlv
        have l1 := cell_regrown h1
        have l2 := cell_regrown h2
        have l3 := cell_regrown h3
        have l4 := cell_regrown h4
        have HRS0 := Aside0.mk HRS
        clear h1 h2 h3 h4 HRS
        go_wp2
        refine wp_region_quiet_below (by kernel_rfl) (by kernel_rfl) ?_
        repeat (quiet_step ((go_at_call 41; exact Calls.regrown_of (byName _ _ _))))
        refine wpQuiet_nil ?_
        intro _ hw'
        obtain ⟨⟨dq, osq⟩, hw''⟩ := hw'
        subst hw''
        have hb2 := below_regrown wr dq osq
        generalize Go.Sort.grow (redrawn wr dq) osq = w2 at hb2 ⊢
        clear l1 l2 l3 l4
        have HR3 := HRS0.out.below hb2
        clear hb2
        clear hh
        go_wp2
        go_roundg (j - (h + 1)).toNat
        case measure => omega
        case rel => exact ⟨h + 1, j, by go_num, rfl, by omega, by omega, by omega, ⟨Nat.le_refl _⟩, ⟨HR3⟩, ⟨fun k k1 k2 => ltN_swo.ntrans _ _ _ HV.out (sorted_le ltN_swo HQ.out k h.toNat (by omega) (by omega) (by omega))⟩, ⟨HH.out⟩⟩
    · obtain rfl : i = j := by omega
      have hm0 := HA3.out
      have HF := Aside0.mk (show SortedIn ltN a.toNat b.toNat (dnm m.toNat (m - i).toNat d) by rw [show b.toNat = m.toNat + 1 by omega, show (m - i).toNat = m.toNat - i.toNat by omega]; exact ins_down ltN_swo a.toNat m.toNat i.toNat d (by omega) (by omega) (by omega) HQ.out HL.out HH.out)
      have HP := Aside0.mk (dnm_perm m.toNat (m - i).toNat a.toNat b.toNat d (by omega) (by omega) (by omega) (by omega))
      have HRR := Aside0.mk HR.out
      clear HL HH HR HQ HG
      go_wp2_with fail
      obtain ⟨wo, hwo⟩ : ∃ wo : World, wo = wr := ⟨_, rfl⟩
      subst hwo
      go_loopg [17] (m - i).toNat (fun gg s17 wr => ∃ (k : Int), s17 = .int .i64 k ∧ i ≤ k ∧ k ≤ m ∧ Aside0 ((k - i).toNat ≤ gg) ∧ Aside0 (SRow w0 g tl (dnm m.toNat (m - k).toNat d) wr))
      case atStart => exact ⟨m, rfl, by omega, by omega, ⟨by omega⟩, ⟨by rw [show (m - m).toNat = 0 by omega]; exact HRR.out⟩⟩
      case round =>
        obtain ⟨k, rfl, hk1, hk2, HG, HR⟩ := hrel
        have hG := HG.out
        by_cases hlt : i < k
        · have hsz2 : (dnm m.toNat (m - k).toNat d).size = d.size := dnm_size _ _ _
          have HN := Aside0.mk (show dnm m.toNat (m - (k - 1)).toNat d = swp (dnm m.toNat (m - k).toNat d) k.toNat (k.toNat - 1) by
            rw [show (m - (k - 1)).toNat = (m - k).toNat + 1 by omega, dnm, show m.toNat - (m - k).toNat = k.toNat by omega])
          have HR1 := HR.out
          generalize hD : dnm m.toNat (m - k).toNat d = D at HR1 hsz2 HN
          clear hD
          obtain ⟨h1, h2⟩ := HR1.cells k.toNat (by omega)
          obtain ⟨h3, h4⟩ := HR1.cells (k.toNat - 1) (by omega)
          have hfz : ∀ j, wr.frozen? ⟨g, j, none⟩ = false := fun j => HR1.frozen j
          have HRR := Aside0.mk (((HR1.store k.toNat (by omega) (D[k.toNat - 1]!)).store (k.toNat - 1) (by simp; omega) (D[k.toNat]!)).drew)
          generalize hX : D[k.toNat]! = X at h1 h2 HRR
          generalize hY : D[k.toNat - 1]! = Y at h3 h4 HRR
          have HX := Aside0.mk hX
          have HY := Aside0.mk hY
          clear hsz2 HR1 hX hY
          have p1 : 0 ≤ k := by omega
          have p2 : k < (d.size : Int) := by omega
          have p3 : 0 ≤ k - 1 := by omega
          have p4 : k - 1 < (d.size : Int) := by omega
          have p5 : 1 ≤ k := by omega
          go_wp2
          go_region
          go_wp2
          go_roundg (k - 1 - i).toNat
          case measure => omega
          case rel => exact ⟨k - 1, by go_num, by omega, by omega, ⟨Nat.le_refl _⟩, ⟨by rw [HN.out]; unfold swp; rw [HX.out, HY.out]; exact HRR.out⟩⟩
        · have hle : ¬ i < k := hlt
          obtain rfl : k = i := by omega
          go_wp2
          refine bodyPost_ret (results_none rfl _ _ _) rfl ?_
          exact ⟨rfl, _, HR.out, HP.out, HF.out⟩
end Go.Proofs.YtmhilolgjcfhjaaGreat.X
