/- slices.SortStableFunc, and labels.Make: what it answers in plain Lean. -/
import Derived.Test.YtmhilolgjcfhjaaGreatPC
import Derived.Test.YtmhilolgjcfhjaaGreatPD
import Derived.Test.YtmhilolgjcfhjaaGreatPA
set_option linter.unusedVariables false
set_option linter.unusedSimpArgs false

/- slices.SortStableFunc at labels by their names: a permutation of the row, in order. -/
namespace Go.Proofs.YtmhilolgjcfhjaaGreat.X
open Go.RowKit Go.Proofs.YtmhilolgjcfhjaaGreatW.PrintWords Go.Proofs.YtmhilolgjcfhjaaGreatW.PrintLast Go.Proofs.YtmhilolgjcfhjaaGreatW.PrintMore
open Go.Sort (swp size_swp PermIn swp_permIn permIn_refl permIn_trans permIn_mono SortedIn)

/-- From p on: blocks of s, each in order, the last one cut at n. -/
inductive Chain (s n : Nat) (d : Array S47) : Nat → Prop
  | done (p : Nat) (h : n ≤ p) : Chain s n d p
  | step (p : Nat) (h : p < n) (hs : SortedIn ltN p (min (p + s) n) d) (hr : Chain s n d (p + s)) : Chain s n d p
/-- Up to p: whole blocks of s, each in order. -/
inductive UpTo (s : Nat) (d : Array S47) : Nat → Prop
  | zero : UpTo s d 0
  | step (p : Nat) (h : UpTo s d p) (hs : SortedIn ltN p (p + s) d) : UpTo s d (p + s)
theorem Chain.congr {s n : Nat} {d d' : Array S47} {p : Nat} (h : Chain s n d p) (he : ∀ k, p ≤ k → d'[k]! = d[k]!) : Chain s n d' p := by
  induction h with
  | done p h => exact .done p h
  | step p h hs hr ih => exact .step p h (fun i j h1 h2 h3 => by rw [he i h1, he j (by omega)]; exact hs i j h1 h2 h3) (ih fun k hk => he k (by omega))
theorem UpTo.congr {s : Nat} {d d' : Array S47} {p : Nat} (h : UpTo s d p) (he : ∀ k, k < p → d'[k]! = d[k]!) : UpTo s d' p := by
  induction h with
  | zero => exact .zero
  | step p h hs ih => exact .step p (ih fun k hk => he k (by omega)) (fun i j h1 h2 h3 => by rw [he i (by omega), he j h3]; exact hs i j h1 h2 h3)
theorem UpTo.chain {s n : Nat} {d : Array S47} {p : Nat} (h : UpTo s d p) (hs : 0 < s) (hn : p ≤ n) (hc : Chain s n d p) : Chain s n d 0 := by
  induction h with
  | zero => exact hc
  | step p h hs2 ih => exact ih (by omega) (.step p (by omega) (by rw [Nat.min_eq_left hn]; exact hs2) hc)
theorem Chain.head {s n : Nat} {d : Array S47} {p : Nat} (h : Chain s n d p) (hp : p < n) : SortedIn ltN p (min (p + s) n) d ∧ Chain s n d (p + s) := by
  cases h with
  | done _ h => omega
  | step _ _ hs hr => exact ⟨hs, hr⟩
theorem chain_last {s n : Nat} {d : Array S47} {p : Nat} (hs : n ≤ p + s) (h : SortedIn ltN p n d) : Chain s n d p := by
  by_cases hp : p < n
  · exact .step p hp (by rw [Nat.min_eq_right hs]; exact h) (.done _ hs)
  · exact .done p (by omega)
theorem chain_all {s n : Nat} {d : Array S47} (hs : n ≤ s) (h : Chain s n d 0) : SortedIn ltN 0 n d := by
  by_cases hn : 0 < n
  · have := (h.head hn).1
    rw [Nat.min_eq_right (by omega)] at this
    exact this
  · exact fun i j h1 h2 h3 => by omega

def SortPost (w0 : World) (g : Nat) (tl : List Value) (d : Array S47) (w' : World) : Prop :=
  ∃ d', SRow w0 g tl d' w' ∧ PermIn 0 d.size d d' ∧ SortedIn ltN 0 d.size d'
theorem ins_call (a b : Int) (w0 : World) (g cap : Nat) (tl : List Value) (sz : Nat) (d : Array S47) (w : World) (hd : d.size = sz) (ha : 0 ≤ a) (hab : a ≤ b) (hb : b ≤ sz) (hsz : sz < 4611686018427387904)
    (hs : SRow w0 g tl d w) :
    Calls Tryz.prog 72 #[.slice (some ⟨g, 0, none⟩) sz cap, .int .i64 a, .int .i64 b, .func (.func 41) #[] #[]] w fun e w' => e = .returned (.tuple #[]) ∧ MergePost w0 g tl a.toNat b.toNat d w' := by
  subst hd
  refine (insertion a b w0 g cap tl d w ha hab hb hsz hs).mono ?_
  rintro e w' ⟨rfl, h⟩
  have := Go.Sort.insertionSort_holds (lt := ltN) ltN_swo d a.toNat b.toNat (by omega) (by omega)
  exact ⟨rfl, _, h, this.1, this.2⟩

set_option maxHeartbeats 4000000 in
set_option maxRecDepth 100000 in
theorem stable (w0 : World) (g cap : Nat) (tl : List Value) (d : Array S47) (w : World) (hsz : d.size < 4398046511104)
    (hs : SRow w0 g tl d w) :
    Calls Tryz.prog 61 #[.slice (some ⟨g, 0, none⟩) d.size cap, .int .i64 d.size, .func (.func 41) #[] #[]] w fun e w' => e = .returned (.tuple #[]) ∧ SortPost w0 g tl d w' := by
  obtain ⟨n, hn⟩ : ∃ n : Int, (d.size : Int) = n := ⟨_, rfl⟩
  have HN := Aside0.mk hn
  have n1 : 0 ≤ n := by omega
  have n2 : n < 4398046511104 := by omega
  have HS := Aside0.mk hs
  rw [hn]
  clear hs hn
  go_enter Tryz.func61, Tryz.ntmps61
  go_wp2_with fail
  go_loopg [7, 8] n.toNat (fun gg v7 v8 wr => ∃ (a b : Int) (D : Array S47), v7 = .int .i64 a ∧ v8 = .int .i64 b ∧ 0 ≤ a ∧ a ≤ n ∧ a + 20 ≤ b ∧ b ≤ a + 20 ∧ Aside0 ((n - a).toNat ≤ gg) ∧ Aside0 (SRow w0 g tl D wr) ∧ Aside0 (PermIn 0 d.size d D) ∧ Aside0 (UpTo 20 D a.toNat))
  case atStart => exact ⟨0, 20, d, rfl, rfl, by omega, by omega, by omega, by omega, ⟨by omega⟩, ⟨HS.out⟩, ⟨permIn_refl _ _ _⟩, ⟨.zero⟩⟩
  case round =>
  obtain ⟨a, b, D, rfl, rfl, a1, a2, a3, a4, HG, HR, HP, HU⟩ := hrel
  have hG := HG.out
  have HZ := Aside0.mk HP.out.1
  by_cases hlt : b ≤ n
  · as_aux_lemma =>
    have HCC := Aside0.mk (ins_call a b w0 g cap tl d.size D wr HZ.out a1 (by omega) (by have := HN.out; omega) (by omega) HR.out)
    go_wp2_with (go_at_call 72; refine HCC.out.mono ?_; clear HCC; rintro e w' ⟨rfl, hw'⟩)
    obtain ⟨D2, s1, s2, s3⟩ := hw'
    go_roundg (n - b).toNat
    case measure => omega
    case rel =>
      refine ⟨b, b + 20, D2, rfl, by go_num, by omega, by omega, by omega, by omega, ⟨Nat.le_refl _⟩, ⟨s1⟩, ⟨permIn_trans _ _ _ _ _ HP.out (permIn_mono _ _ _ _ _ _ (by omega) (by have := HN.out; omega) (by rw [HZ.out]; omega) s2)⟩, ⟨?_⟩⟩
      have e : b.toNat = a.toNat + 20 := by omega
      rw [e]
      exact .step _ (HU.out.congr fun k hk => s2.2.1 k (.inl hk)) (by rw [← e]; exact s3)
  · have hle : ¬ b ≤ n := hlt
    have HCC := Aside0.mk (ins_call a n w0 g cap tl d.size D wr HZ.out a1 a2 (by have := HN.out; omega) (by omega) HR.out)
    go_wp2_with (go_at_call 72; refine HCC.out.mono ?_; clear HCC; rintro e w' ⟨rfl, hw'⟩)
    have HW := Aside0.mk (show ∃ D2, SRow w0 g tl D2 w' ∧ PermIn 0 d.size d D2 ∧ Chain 20 n.toNat D2 0 by
      obtain ⟨D2, s1, s2, s3⟩ := hw'
      refine ⟨D2, s1, permIn_trans _ _ _ _ _ HP.out (permIn_mono _ _ _ _ _ _ (by omega) (by have := HN.out; omega) (by rw [HZ.out]; omega) s2), ?_⟩
      exact (HU.out.congr fun k hk => s2.2.1 k (.inl hk)).chain (by omega) (by omega) (chain_last (by omega) s3))
    clear hw' HU HP HZ HR HG hG hlt hle
    obtain ⟨wo, hwo⟩ : ∃ wo : World, wo = w' := ⟨_, rfl⟩
    subst hwo
    go_loopg [6, 7, 8, 9] n.toNat (fun gg v6 v7 v8 v9 wr => ∃ (bs : Int) (D : Array S47), v6 = .int .i64 bs ∧ 20 ≤ bs ∧ Aside0 (bs < 2 * n + 40) ∧ Aside0 ((n - bs).toNat ≤ gg) ∧ Aside0 (SRow w0 g tl D wr) ∧ Aside0 (PermIn 0 d.size d D) ∧ Aside0 (Chain bs.toNat n.toNat D 0))
    case atStart =>
      obtain ⟨D2, s1, s2, s3⟩ := HW.out
      exact ⟨20, D2, rfl, by omega, ⟨by omega⟩, ⟨by omega⟩, ⟨s1⟩, ⟨s2⟩, ⟨s3⟩⟩
    case round =>
    obtain ⟨bs, D, rfl, b1, HB, HG, HR, HP, HC⟩ := hrel
    have hG := HG.out
    by_cases hlt : bs < n
    · go_wp2_with fail
      obtain ⟨wo, hwo⟩ : ∃ wo : World, wo = wr := ⟨_, rfl⟩
      subst hwo
      go_loopg [7, 8] n.toNat (fun gg v7 v8 wr => ∃ (a b : Int) (D : Array S47), v7 = .int .i64 a ∧ v8 = .int .i64 b ∧ 0 ≤ a ∧ a ≤ n ∧ a + 2 * bs ≤ b ∧ b ≤ a + 2 * bs ∧ Aside0 ((n - a).toNat ≤ gg) ∧ Aside0 (SRow w0 g tl D wr) ∧ Aside0 (PermIn 0 d.size d D) ∧ Aside0 (UpTo (2 * bs).toNat D a.toNat) ∧ Aside0 (Chain bs.toNat n.toNat D a.toNat))
      case atStart => exact ⟨0, 2 * bs, D, rfl, by go_num, by omega, by omega, by omega, by omega, ⟨by omega⟩, ⟨HR.out⟩, ⟨HP.out⟩, ⟨.zero⟩, ⟨HC.out⟩⟩
      case round =>
      obtain ⟨a, b, D, rfl, rfl, a1, a2, a3, a4, HG, HR, HP, HU, HC⟩ := hrel
      have hG2 := HG.out
      have HZ := Aside0.mk HP.out.1
      by_cases hlt2 : b ≤ n
      · as_aux_lemma =>
        have c1 := HC.out.head (by omega)
        have c2 := c1.2.head (by omega)
        have HC2 := Aside0.mk c2.2
        have HCC := Aside0.mk (sym_all _ a (a + bs) b w0 g cap tl d.size D wr (Nat.le_refl _) a1 (by omega) (by omega) HZ.out (by have := HN.out; omega) (by omega) HR.out
          (by have := c1.1; rw [Nat.min_eq_left (by omega)] at this; rw [show (a + bs).toNat = a.toNat + bs.toNat by omega]; exact this)
          (by have := c2.1; rw [Nat.min_eq_left (by omega)] at this; rw [show (a + bs).toNat = a.toNat + bs.toNat by omega, show b.toNat = a.toNat + bs.toNat + bs.toNat by omega]; exact this))
        clear c1 c2
        go_wp2_with (go_at_call 73; refine HCC.out.mono ?_; clear HCC; rintro e w' ⟨rfl, hw'⟩)
        obtain ⟨D2, s1, s2, s3⟩ := hw'
        go_roundg (n - b).toNat
        case measure => omega
        case rel =>
          refine ⟨b, b + 2 * bs, D2, rfl, by go_num, by omega, by omega, by omega, by omega, ⟨Nat.le_refl _⟩, ⟨s1⟩, ⟨permIn_trans _ _ _ _ _ HP.out (permIn_mono _ _ _ _ _ _ (by omega) (by have := HN.out; omega) (by rw [HZ.out]; omega) s2)⟩, ⟨?_⟩, ⟨?_⟩⟩
          · have e : b.toNat = a.toNat + (2 * bs).toNat := by omega
            rw [e]
            exact .step _ (HU.out.congr fun k hk => s2.2.1 k (.inl hk)) (by rw [← e]; exact s3)
          · rw [show b.toNat = a.toNat + bs.toNat + bs.toNat by omega]
            exact HC2.out.congr fun k hk => s2.2.1 k (.inr (by omega))
      · have hle : ¬ b ≤ n := hlt2
        by_cases hm : a + bs < n
        · as_aux_lemma =>
          have c1 := HC.out.head (by omega)
          have c2 := c1.2.head (by omega)
          have HCC := Aside0.mk (sym_all _ a (a + bs) n w0 g cap tl d.size D wr (Nat.le_refl _) a1 (by omega) (by omega) HZ.out (by have := HN.out; omega) (by omega) HR.out
            (by have := c1.1; rw [Nat.min_eq_left (by omega)] at this; rw [show (a + bs).toNat = a.toNat + bs.toNat by omega]; exact this)
            (by have := c2.1; rw [Nat.min_eq_right (by omega)] at this; rw [show (a + bs).toNat = a.toNat + bs.toNat by omega]; exact this))
          clear c1 c2
          go_wp2_with (go_at_call 73; refine HCC.out.mono ?_; clear HCC; rintro e w' ⟨rfl, hw'⟩)
          obtain ⟨D2, s1, s2, s3⟩ := hw'
          go_roundg (n - 2 * bs).toNat
          case measure => omega
          case rel =>
            refine ⟨bs * 2, D2, by go_num, by omega, ⟨by omega⟩, ⟨by omega⟩, ⟨s1⟩, ⟨permIn_trans _ _ _ _ _ HP.out (permIn_mono _ _ _ _ _ _ (by omega) (by have := HN.out; omega) (by rw [HZ.out]; omega) s2)⟩, ⟨?_⟩⟩
            rw [show (bs * 2).toNat = (2 * bs).toNat by omega]
            exact (HU.out.congr fun k hk => s2.2.1 k (.inl hk)).chain (by omega) (by omega) (chain_last (by omega) s3)
        · as_aux_lemma =>
          have hm2 : ¬ a + bs < n := hm
          go_wp2_with fail
          go_roundg (n - 2 * bs).toNat
          case measure => omega
          case rel =>
            refine ⟨bs * 2, D, by go_num, by omega, ⟨by omega⟩, ⟨by omega⟩, ⟨HR.out⟩, ⟨HP.out⟩, ⟨?_⟩⟩
            rw [show (bs * 2).toNat = (2 * bs).toNat by omega]
            refine HU.out.chain (by omega) (by omega) (chain_last (by omega) ?_)
            by_cases z : a < n
            · have := (HC.out.head (by omega)).1
              rw [Nat.min_eq_right (by omega)] at this
              exact this
            · exact fun i j h1 h2 h3 => by omega
    · as_aux_lemma =>
      have hle : ¬ bs < n := hlt
      have HF := Aside0.mk (chain_all (by omega) HC.out)
      go_wp2_with fail
      go_end0
      exact ⟨rfl, D, HR.out, HP.out, by rw [show d.size = n.toNat by have := HN.out; omega]; exact HF.out⟩
theorem sortStable (w0 : World) (g cap : Nat) (tl : List Value) (d : Array S47) (w : World) (hsz : d.size < 4398046511104)
    (hs : SRow w0 g tl d w) :
    Calls Tryz.prog 40 #[.slice (some ⟨g, 0, none⟩) d.size cap, .func (.func 41) #[] #[]] w fun e w' => e = .returned (.tuple #[]) ∧ SortPost w0 g tl d w' := by
  have HC := Aside0.mk (stable w0 g cap tl d w hsz hs)
  go_enter Tryz.func40, Tryz.ntmps40
  go_wp2_with (go_at_call 61; refine HC.out.mono ?_; clear HC; rintro e w' ⟨rfl, hw'⟩)
  go_end0
  exact ⟨rfl, hw'⟩
end Go.Proofs.YtmhilolgjcfhjaaGreat.X

/- labels.Make: as the plain makeB says, whenever the labels fit into the machine. -/
namespace Go.Proofs.YtmhilolgjcfhjaaGreat.X
open Go.RowKit Go.Proofs.YtmhilolgjcfhjaaGreatW.PrintWords Go.Proofs.YtmhilolgjcfhjaaGreatW.PrintLast Go.Proofs.YtmhilolgjcfhjaaGreatW.PrintMore

def labels_Make.f (l0 : List S47) : Option (List S47 × Int) := if fits47 l0 then some (makeB l0) else none

/-- What Make gives back. -/
def MkPost (w : World) (r : List S47 × Int) (e : Ending) (w' : World) : Prop :=
  ∃ v0_ : Value, e = .returned (.tuple #[v0_, .int .i64 r.2]) ∧ Kd.R k47 47 w' w.heap.size (fun _ => True) v0_ r.1 ∧ Below w.heap.size w w'

theorem make_any (l : List S47) (hf : fits47 l) (w : World) (A : Option Addr) (c : Nat) (hr : Kd.C k47 w A l.length l) (hc : l.length ≤ c) :
    Calls Tryz.prog 36 #[.slice A l.length c, .func (.func 37) #[] #[]] w fun e w' => e = .returned (.bool (l.any badB)) ∧ Below w.heap.size w w' :=
  contains47 badB 37 #[] (enters_of Tryz.func37 (by kernel_rfl) rfl) A c l w hr hc (by have := hf.1; omega)
    (fun W x hx hb => (make1 x W (hf.2 x hx)).mono fun e w' ⟨he, h⟩ => ⟨he, hb.trans (h.mono hb.size)⟩)

theorem sort_call (w0 : World) (g cap : Nat) (tl : List Value) (sz : Nat) (d : Array S47) (w : World) (hd : d.size = sz) (hsz : sz < 4398046511104) (hs : SRow w0 g tl d w) :
    Calls Tryz.prog 40 #[.slice (some ⟨g, 0, none⟩) sz cap, .func (.func 41) #[] #[]] w fun e w' => e = .returned (.tuple #[]) ∧ SortPost w0 g tl d w' := by
  subst hd; exact sortStable w0 g cap tl d w hsz hs

set_option maxHeartbeats 2000000 in
set_option maxRecDepth 100000 in
theorem make_post (l : List S47) (hf : fits47 l) (w : World) (A : Option Addr) (c : Nat) (hr : Kd.C k47 w A l.length l) (hc : l.length ≤ c) :
    Calls Tryz.prog 12 #[.slice A l.length c] w (MkPost w (makeB l)) := by
  have HA := Aside0.mk (make_any l hf w A c hr hc)
  have HR := Aside0.mk hr
  have HC := Aside0.mk hc
  have HF := Aside0.mk hf
  clear hr hc hf
  by_cases hbad : l.any badB = true
  · have HM := Aside0.mk (show makeB l = ([], 90) by unfold makeB; rw [if_pos hbad])
    rw [hbad] at HA
    clear hbad
    go_enter Tryz.func12, Tryz.ntmps12
    go_wp2_with (go_at_call 36; refine HA.out.mono ?_; rintro e w' ⟨rfl, hb1⟩)
    go_ret2
    exact ⟨_, by rw [HM.out]; rfl, by rw [HM.out]; exact Kd.R_nil _ _ _ _ _, hb1⟩
  · have hbad2 : l.any badB = false := by simpa using hbad
    have HM0 := Aside0.mk (show makeB l = if ¬ (l.map (·.f0)).Nodup then ([], 8) else if 16 < l.length then ([], 6) else (srt l, 0) by unfold makeB; rw [if_neg hbad])
    rw [hbad2] at HA
    clear hbad hbad2
    have n1 : l.length < 4398046511104 := HF.out.1
    have HCL := Aside0.mk (fun W (hw : Below w.heap.size w W) => slices_Clone_Label.calls A c l l W (Kd.C_below HR.out hw) HC.out (by unfold slices_Clone_Label.f; rw [if_pos HF.out.1]))
    by_cases hl : l = []
    · subst hl
      have HM := Aside0.mk (show makeB ([] : List S47) = ([], 0) by rw [HM0.out]; simp [srt])
      clear HM0
      go_enter Tryz.func12, Tryz.ntmps12
      go_wp2_with (first | (go_at_call 36; refine HA.out.mono ?_; clear HA; rintro e w1 ⟨rfl, hb1⟩) | (go_at_call 39; refine (HCL.out _ hb1).mono ?_; clear HCL; rintro e w2 ⟨v0, rfl, hR, hb2⟩; obtain ⟨Av, cv, rfl⟩ := Kd.R_slice hR; have HRR := Aside0.mk hR; clear hR) | (go_at_call 40; refine (sortStable0 _ _ _).mono ?_; rintro e w3 ⟨rfl, rfl⟩))
      go_loop [4] (fun i => i = .int .i64 1) (fun _ => 0)
      case atStart => rfl
      case round =>
        obtain rfl := hrel
        go_wp2_with fail
        go_ret2
        exact ⟨_, by rw [HM.out]; rfl, by rw [HM.out]; exact Kd.R_lower HRR.out hb1.size, hb1.trans (hb2.mono hb1.size)⟩
    · have HL := Aside0.mk hl
      have n0 : 0 < l.length := List.length_pos_iff.2 hl
      clear hl
      go_enter Tryz.func12, Tryz.ntmps12
      go_wp2_with (first | (go_at_call 36; refine HA.out.mono ?_; clear HA; rintro e w1 ⟨rfl, hb1⟩) | (go_at_call 39; refine (HCL.out _ hb1).mono ?_; clear HCL; rintro e w2 ⟨v0, rfl, hR, hb2⟩; obtain ⟨g, cap, tl, rfl, hg, hcap, hmax, htl, hS⟩ := row_open hR HL.out; have HRR := Aside0.mk hR; have HSR := Aside0.mk hS; have HTL := Aside0.mk htl; have HG := Aside0.mk hg; have HCAP := Aside0.mk hcap; have HMAX := Aside0.mk hmax; clear hR hS htl hg hcap hmax) | (go_at_call 40; refine (sort_call w2 g cap tl l.length l.toArray _ (by simp) n1 HSR.out).mono ?_; rintro e w3 ⟨rfl, hP⟩))
      obtain ⟨d, hS, hP, hO⟩ := hP
      have HS := Aside0.mk hS
      have hsz : d.size = l.length := by rw [hP.1]; simp
      have HZ := Aside0.mk hsz
      have HPL := Aside0.mk (show d.toList.Perm l by have := perm_list _ _ hP; simpa using this)
      have HO := Aside0.mk (sorted_pairwise d (by rw [hsz]; simpa using hO))
      have HB3 := Aside0.mk (hb1.trans (hb2.mono hb1.size))
      have HB4 := Aside0.mk (row_below hS HB3.out (Nat.le_trans hb1.size HG.out))
      have HGG := Aside0.mk (Nat.le_trans hb1.size HG.out)
      clear hS hP hO hsz
      obtain ⟨wo, hwo⟩ : ∃ wo : World, wo = w3 := ⟨_, rfl⟩
      subst hwo
      go_loopg [4] l.length (fun gg v4 wr => ∃ i : Int, v4 = .int .i64 i ∧ 1 ≤ i ∧ i ≤ l.length ∧ Aside0 ((l.length - i).toNat ≤ gg) ∧ Aside0 (SRow w2 g tl d wr) ∧ Aside0 (∀ j, (hj : j + 1 < d.toList.length) → j + 1 < i.toNat → (d.toList[j]).f0 ≠ (d.toList[j + 1]).f0))
      case atStart => exact ⟨1, rfl, by omega, by omega, ⟨by omega⟩, ⟨HS.out⟩, ⟨fun j _ h => by omega⟩⟩
      case round =>
        obtain ⟨i, rfl, hi1, hi2, HG2, HS2, HN⟩ := hrel
        have hG := HG2.out
        by_cases hlt : i < (l.length : Int)
        · obtain ⟨h1, h2⟩ := HS2.out.cells i.toNat (by rw [HZ.out]; omega)
          obtain ⟨h3, h4⟩ := HS2.out.cells (i.toNat - 1) (by rw [HZ.out]; omega)
          have HX := Aside0.mk (show d[i.toNat]! = d.toList[i.toNat]'(by have := HZ.out; simp; omega) by rw [getElem!_pos d _ (by rw [HZ.out]; omega)]; simp)
          have HY := Aside0.mk (show d[i.toNat - 1]! = d.toList[i.toNat - 1]'(by have := HZ.out; simp; omega) by rw [getElem!_pos d _ (by rw [HZ.out]; omega)]; simp)
          clear h2 h4
          generalize d[i.toNat]! = X at h1 HX
          generalize d[i.toNat - 1]! = Y at h3 HY
          have p1 : 0 ≤ i := by omega
          have p3 : 0 ≤ i - 1 := by omega
          have p4 : i - 1 < (l.length : Int) := by omega
          have q2 : IntKind.i64.wrap (i - 1) = i - 1 := IntWalk.i64_in _ (by omega)
          by_cases heq : X.f0 = Y.f0
          · have q3 : (X.f0.toList == Y.f0.toList) = true := by rw [heq]; exact beq_self_eq_true _
            have HEQ := Aside0.mk heq
            clear heq
            have HM := Aside0.mk (show makeB l = ([], 8) by
              rw [HM0.out, if_pos]
              intro hn
              have hd := (HPL.out.map (·.f0)).nodup_iff.2 hn
              have := HEQ.out
              rw [HX.out, HY.out] at this
              have hz := HZ.out
              have := (List.getElem_inj (xs := d.toList.map (·.f0)) (h₀ := by simp; omega) (h₁ := by simp; omega) (i := i.toNat) (j := i.toNat - 1) hd).1 (by simpa using this)
              omega)
            go_wp2
            go_quiet (fail)
            go_wp2
            go_ret2
            exact ⟨_, by rw [HM.out]; rfl, by rw [HM.out]; exact Kd.R_nil _ _ _ _ _, pw_below_drewN (row_below HS2.out HB3.out HGG.out) _⟩
          · have q3 : (X.f0.toList == Y.f0.toList) = false := by
              rw [beq_eq_false_iff_ne]
              intro e
              rw [ByteArray.toList_eq, ByteArray.toList_eq] at e
              exact heq (Go.WideShapes.bytes_inj e)
            have HEQ := Aside0.mk heq
            clear heq
            go_wp2
            go_quiet (fail)
            go_wp2
            go_roundg (l.length - (i + 1)).toNat
            case measure => omega
            case rel =>
              refine ⟨i + 1, by go_num, by omega, by omega, ⟨Nat.le_refl _⟩, ⟨HS2.out.drewN _⟩, ⟨fun j hj h => ?_⟩⟩
              by_cases e : j + 1 < i.toNat
              · exact HN.out j hj e
              · obtain rfl : j = i.toNat - 1 := by omega
                have h5 := HEQ.out
                rw [HX.out, HY.out] at h5
                intro h6
                apply h5
                rw [h6]
                congr 2
                omega
        · have hle : ¬ i < (l.length : Int) := hlt
          have HND := Aside0.mk (show (l.map (·.f0)).Nodup by
            have := nodup_of_steps d.toList HO.out (fun j hj => HN.out j hj (by have := HZ.out; simp at hj; omega))
            exact (HPL.out.map (·.f0)).nodup_iff.1 this)
          have HE := Aside0.mk (srt_unique l d.toList HND.out HPL.out HO.out)
          clear HN
          by_cases h16 : 16 < l.length
          · have HM := Aside0.mk (show makeB l = ([], 6) by rw [HM0.out, if_neg (not_not_intro HND.out), if_pos h16])
            have q5 : (16 : Int) < (l.length : Int) := by omega
            go_wp2
            go_ret2
            exact ⟨_, by rw [HM.out]; rfl, by rw [HM.out]; exact Kd.R_nil _ _ _ _ _, row_below HS2.out HB3.out HGG.out⟩
          · have HM := Aside0.mk (show makeB l = (srt l, 0) by rw [HM0.out, if_neg (not_not_intro HND.out), if_neg h16])
            have q5 : ¬ (16 : Int) < (l.length : Int) := by omega
            go_wp2
            go_ret2
            refine ⟨_, by rw [HM.out]; rfl, ?_, row_below HS2.out HB3.out HGG.out⟩
            rw [HM.out, ← HE.out]
            have hfin := row_shut HS2.out HGG.out d.size (Nat.le_refl _) (by rw [HZ.out]; exact HCAP.out) HMAX.out (by
              rw [← HTL.out, List.length_append, List.length_append, flat47_length, flat47_length]; have := HZ.out; simp [this])
            rw [show d.toList.take d.size = d.toList from List.take_of_length_le (by simp), HZ.out] at hfin
            exact hfin
theorem labels_Make.calls (A0 : Option Addr) (c0 : Nat) (l0 : List (S47)) (r1 : List (S47)) (r2 : Int) (w : World) (hr0 : Kd.C k47 w A0 l0.length l0) (hc0 : l0.length ≤ c0) (h : labels_Make.f l0 = some (r1, r2)) :
    Calls Tryz.prog 12 #[.slice A0 l0.length c0] w fun e w' => ∃ v0_ : Value, e = .returned (.tuple #[v0_, .int .i64 r2]) ∧ Kd.R k47 47 w' w.heap.size (fun _ => True) v0_ r1 ∧ Below w.heap.size w w' := by
  unfold labels_Make.f at h
  by_cases hf : fits47 l0
  · rw [if_pos hf] at h
    refine (make_post l0 hf w A0 c0 hr0 hc0).mono ?_
    rintro e w' ⟨v, h1, h2, h3⟩
    rw [Option.some.inj h] at h1 h2
    exact ⟨v, h1, h2, h3⟩
  · rw [if_neg hf] at h; cases h
end Go.Proofs.YtmhilolgjcfhjaaGreat.X
