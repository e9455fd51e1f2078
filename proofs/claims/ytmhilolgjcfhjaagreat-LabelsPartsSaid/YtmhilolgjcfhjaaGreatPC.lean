/- slices.SortStableFunc's merge: symMerge. -/
import Derived.Test.YtmhilolgjcfhjaaGreatPB
set_option linter.unusedVariables false
set_option linter.unusedSimpArgs false

/- slices.symMergeCmpFunc at labels: two sorted halves, one behind the other, are one sorted whole; no label is lost. -/
namespace Go.Proofs.YtmhilolgjcfhjaaGreat.X
open Go.RowKit Go.Proofs.YtmhilolgjcfhjaaGreatW.PrintWords Go.Proofs.YtmhilolgjcfhjaaGreatW.PrintLast Go.Proofs.YtmhilolgjcfhjaaGreatW.PrintMore
open Go.Sort (swp size_swp swp_other swp_left swp_right PermIn swp_permIn permIn_refl permIn_trans SortedIn)

def SymSaid (N : Nat) : Prop :=
  ∀ (a m b : Int) (w0 : World) (g cap : Nat) (tl : List Value) (sz : Nat) (d : Array S47) (w : World), (b - a).toNat ≤ N → 0 ≤ a → a < m → m < b → d.size = sz → b ≤ sz → sz < 4611686018427387904 →
    SRow w0 g tl d w → SortedIn ltN a.toNat m.toNat d → SortedIn ltN m.toNat b.toNat d →
    Calls Tryz.prog 73 #[.slice (some ⟨g, 0, none⟩) sz cap, .int .i64 a, .int .i64 m, .int .i64 b, .func (.func 41) #[] #[]] w fun e w' => e = .returned (.tuple #[]) ∧ MergePost w0 g tl a.toNat b.toNat d w'

set_option maxHeartbeats 4000000 in
set_option maxRecDepth 100000 in
theorem sym_gen (N : Nat) (ih : SymSaid N) (a m b : Int) (w0 : World) (g cap : Nat) (tl : List Value) (d : Array S47) (w : World) (hN : (b - a).toNat ≤ N + 1) (ha : 0 ≤ a) (ham : a < m) (hmb : m < b) (hm1 : m - a ≠ 1) (hb1 : b - m ≠ 1) (hb : b ≤ d.size) (hsz : d.size < 4611686018427387904)
    (hs : SRow w0 g tl d w) (h1 : SortedIn ltN a.toNat m.toNat d) (h2 : SortedIn ltN m.toNat b.toNat d) :
    Calls Tryz.prog 73 #[.slice (some ⟨g, 0, none⟩) d.size cap, .int .i64 a, .int .i64 m, .int .i64 b, .func (.func 41) #[] #[]] w fun e w' => e = .returned (.tuple #[]) ∧ MergePost w0 g tl a.toNat b.toNat d w' := by
  have hu47 := Tryz.underlying47
  have HS := Aside0.mk hs
  have H1 := Aside0.mk h1
  have H2 := Aside0.mk h2
  have IH := Aside0.mk ih
  have q1 : (m - a == 1) = false := by simpa using hm1
  have q2 : (b - m == 1) = false := by simpa using hb1
  have pm : 2 ≤ m - a := by omega
  have pb : 2 ≤ b - m := by omega
  clear hs h1 h2 ih hm1 hb1
  obtain ⟨mid, hmid⟩ : ∃ mid : Int, (a + b) / 2 = mid := ⟨_, rfl⟩
  have r1 : a < mid := by omega
  have r2 : mid < b := by omega
  have r3 : 2 * mid ≤ a + b := by omega
  have r4 : a + b ≤ 2 * mid + 1 := by omega
  go_enter Tryz.func73, Tryz.ntmps73
  go_upto_if 140 with (fail)
  clear hmid
  go_cut [20, 21] (fun v20 v21 wc => wc = w ∧ ∃ s r : Int, v20 = .int .i64 s ∧ v21 = .int .i64 r ∧ a ≤ s ∧ s ≤ r ∧ r ≤ m ∧ r ≤ mid ∧ mid + m - b ≤ s ∧ Aside0 (s = a ∨ s = mid + m - b) ∧ Aside0 (r = m ∨ r = mid))
  case first => as_aux_lemma =>
    by_cases hc : mid < m
    · go_wp2_with fail
      go_meet
      case rel => exact ⟨rfl, _, _, rfl, rfl, by omega, by omega, by omega, by omega, by omega, ⟨by omega⟩, ⟨by omega⟩⟩
    · have hc2 : m ≤ mid := by omega
      go_wp2_with fail
      go_meet
      case rel => exact ⟨rfl, _, _, rfl, rfl, by omega, by omega, by omega, by omega, by omega, ⟨by omega⟩, ⟨by omega⟩⟩
  case rest =>
    obtain ⟨rfl, s0, r0, rfl, rfl, b1, b2, b3, b4, b5, HS0, HR0⟩ := hcut
    go_wp2_with fail
    go_loopg [20, 21] (r0 - s0).toNat (fun gg v20 v21 wr => ∃ (s r : Int), v20 = .int .i64 s ∧ v21 = .int .i64 r ∧ s0 ≤ s ∧ s ≤ r ∧ r ≤ r0 ∧ Aside0 ((r - s).toNat ≤ gg) ∧ Aside0 (SRow w0 g tl d wr)
      ∧ Aside0 (∀ c : Int, s0 ≤ c → c < s → ltN d[(mid + m - 1 - c).toNat]! d[c.toNat]! = false) ∧ Aside0 (∀ c : Int, r ≤ c → c < r0 → ltN d[(mid + m - 1 - c).toNat]! d[c.toNat]! = true))
    case atStart => exact ⟨s0, r0, rfl, rfl, by omega, by omega, by omega, ⟨by omega⟩, ⟨HS.out⟩, ⟨fun c h1 h2 => by omega⟩, ⟨fun c h1 h2 => by omega⟩⟩
    case round =>
    obtain ⟨s, r, rfl, rfl, e1, e2, e3, HG, HR, HL, HH⟩ := hrel
    by_cases hlt : s < r
    · obtain ⟨c, hcc⟩ : ∃ c : Int, (s + r) / 2 = c := ⟨_, rfl⟩
      have t1 : s ≤ c := by omega
      have t2 : c < r := by omega
      have t3 : 0 ≤ c := by omega
      have t4 : c < (d.size : Int) := by omega
      obtain ⟨Q, hqq⟩ : ∃ Q : Int, mid + m - 1 - c = Q := ⟨_, rfl⟩
      have t8 : 0 ≤ mid + m - 1 := by omega
      have t9 : mid + m - 1 < 2 * (d.size : Int) := by omega
      have t5 : 0 ≤ Q := by omega
      have t6 : Q < (d.size : Int) := by omega
      have HRS := HR.out
      obtain ⟨h1, h2⟩ := HRS.cells (Q).toNat (by omega)
      obtain ⟨h3, h4⟩ := HRS.cells c.toNat (by omega)
      generalize hX : d[(Q).toNat]! = X at h1 h2
      generalize hY : d[c.toNat]! = Y at h3 h4
      have HX := Aside0.mk hX
      have HY := Aside0.mk hY
      have hG := HG.out
      clear hX hY
      have t7 : IntKind.i64.wrap (Q) = Q := IntWalk.i64_in _ (by omega)
      by_cases hlv : cmpS X.f0 Y.f0 < 0
      · as_aux_lemma =>
        have q8 : decide (cmpS X.f0 Y.f0 < 0) = true := decide_eq_true hlv
        have HV := Aside0.mk (show ltN d[(mid + m - 1 - c).toNat]! d[c.toNat]! = true by rw [hqq, HX.out, HY.out]; exact q8)
        clear hlv
        have l1 := cell_regrown h1
        have l2 := cell_regrown h2
        have l3 := cell_regrown h3
        have l4 := cell_regrown h4
        have HRS0 := Aside0.mk HRS
        clear h1 h2 h3 h4 HRS
        go_wp2_with fail
        refine wp_region_quiet_below (by kernel_rfl) (by kernel_rfl) ?_
        repeat (quiet_step ((go_at_call 41; exact Calls.regrown_of (byName _ _ _))))
        refine wpQuiet_nil ?_
        intro _ hw'
        obtain ⟨⟨dq, osq⟩, hw''⟩ := hw'
        subst hw''
        have hb2 := below_regrown wr dq osq
        generalize Go.Sort.grow (redrawn wr dq) osq = w2 at hb2 ⊢
        clear l1 l2 l3 l4
        have HR3 := HRS0.out.below hb2
        clear hb2 hcc hqq
        go_wp2_with fail
        go_roundg (c - s).toNat
        case measure => omega
        case rel => exact ⟨s, c, rfl, rfl, by omega, by omega, by omega, ⟨Nat.le_refl _⟩, ⟨HR3⟩, ⟨HL.out⟩, ⟨fun c' k1 k2 => swo_le_lt ltN_swo (sorted_le ltN_swo H2.out _ _ (by omega) (show (mid + m - 1 - c').toNat ≤ (mid + m - 1 - c).toNat by omega) (by omega)) (swo_lt_le ltN_swo HV.out (sorted_le ltN_swo H1.out c.toNat c'.toNat (by omega) (by omega) (by omega)))⟩⟩
      · as_aux_lemma =>
        have q8 : decide (cmpS X.f0 Y.f0 < 0) = false := decide_eq_false hlv
        have HV := Aside0.mk (show ltN d[(mid + m - 1 - c).toNat]! d[c.toNat]! = false by rw [hqq, HX.out, HY.out]; exact q8)
        clear hlv
        have l1 := cell_regrown h1
        have l2 := cell_regrown h2
        have l3 := cell_regrown h3
        have l4 := cell_regrown h4
        have HRS0 := Aside0.mk HRS
        clear h1 h2 h3 h4 HRS
        go_wp2_with fail
        refine wp_region_quiet_below (by kernel_rfl) (by kernel_rfl) ?_
        repeat (quiet_step ((go_at_call 41; exact Calls.regrown_of (byName _ _ _))))
        refine wpQuiet_nil ?_
        intro _ hw'
        obtain ⟨⟨dq, osq⟩, hw''⟩ := hw'
        subst hw''
        have hb2 := below_regrown wr dq osq
        generalize Go.Sort.grow (redrawn wr dq) osq = w2 at hb2 ⊢
        clear l1 l2 l3 l4
        have HR3 := HRS0.out.below hb2
        clear hb2 hcc hqq
        go_wp2_with fail
        go_roundg (r - (c + 1)).toNat
        case measure => omega
        case rel => exact ⟨c + 1, r, by go_num, rfl, by omega, by omega, by omega, ⟨Nat.le_refl _⟩, ⟨HR3⟩, ⟨fun c' k1 k2 => ltN_swo.ntrans _ _ _ (ltN_swo.ntrans _ _ _ (sorted_le ltN_swo H2.out _ _ (by omega) (show (mid + m - 1 - c).toNat ≤ (mid + m - 1 - c').toNat by omega) (by omega)) HV.out) (sorted_le ltN_swo H1.out c'.toNat c.toNat (by omega) (by omega) (by omega))⟩, ⟨HH.out⟩⟩
    · obtain rfl : s = r := by omega
      obtain ⟨E, hE⟩ : ∃ E : Int, mid + m - s = E := ⟨_, rfl⟩
      have x1 : m ≤ E := by omega
      have x2 : E ≤ b := by omega
      have x3 : s ≤ m := by omega
      have x4 : s ≤ mid := by omega
      have x5 : mid ≤ E := by omega
      have x6 : a ≤ s := by omega
      have HF := Aside0.mk (fun d1 (hd : ∀ k, d1[k]! = rotAt s.toNat m.toNat E.toNat d k) => sym_step ltN_swo d d1 a.toNat m.toNat b.toNat s.toNat E.toNat mid.toNat (by omega) (by omega) (by omega) (by omega) (by omega) H1.out H2.out
        (by
          by_cases z : s = s0
          · rcases HS0.out with h | h
            · left; omega
            · right; left; omega
          · right; right
            have := HL.out (s - 1) (by omega) (by omega)
            rw [show (mid + m - 1 - (s - 1)).toNat = E.toNat by omega, show (s - 1).toNat = s.toNat - 1 by omega] at this
            exact this)
        (by
          by_cases z : s = r0
          · rcases HR0.out with h | h
            · left; omega
            · right; left; omega
          · right; right
            have := HH.out s (by omega) (by omega)
            rw [show (mid + m - 1 - s).toNat = E.toNat - 1 by omega] at this
            exact this) hd)
      have HRR := HR
      clear HL HH HR HG HS0 HR0 H1 H2 HS hlt
      go_upto_region 39 with (fail)
      clear hE
      obtain ⟨ww, hww⟩ : ∃ ww : World, ww = wr := ⟨_, rfl⟩
      subst hww
      go_cut [185] (fun v185 wc => wc = ww ∧ v185 = .bool (s < m && m < E))
      case first => as_aux_lemma =>
        by_cases y1 : s < m
        · by_cases y2 : m < E
          · go_wp2_with fail
            go_meet
            case rel => exact ⟨rfl, by simp [y1, y2]⟩
          · have y3 : ¬ m < E := y2
            go_wp2_with fail
            go_meet
            case rel => exact ⟨rfl, by simp [y1, y2]⟩
        · have y3 : ¬ s < m := y1
          go_wp2_with fail
          go_meet
          case rel => exact ⟨rfl, by simp; omega⟩
      case rest =>
      obtain ⟨rfl, rfl⟩ := hcut
      go_upto_if 185 with (fail)
      go_cut [] (fun wc => Aside0 (RotPost w0 g tl s.toNat m.toNat E.toNat d wc))
      case first => as_aux_lemma =>
        by_cases y0 : s < m ∧ m < E
        · have y1 : (decide (s < m) && decide (m < E)) = true := by simp [y0.1, y0.2]
          have hc := rotate s m E (.func (.func 41) #[] #[]) w0 g cap tl d wc (by omega) y0.1 y0.2 (by omega) hsz HRR.out
          have HCC := Aside0.mk hc
          rw [y1]
          clear hc y0 y1
          go_wp2_with (go_at_call 81; refine HCC.out.mono ?_; clear HCC; rintro e w' ⟨rfl, hw'⟩)
          go_meet
          case rel => exact ⟨hw'⟩
        · have y1 : (decide (s < m) && decide (m < E)) = false := by simpa using y0
          rw [y1]
          have HY := Aside0.mk y0
          clear y0 y1
          go_wp2_with fail
          go_meet
          case rel => exact ⟨d, HRR.out, permIn_refl _ _ _, rot_none _ _ _ _ (by have := HY.out; omega) (by omega) (by omega)⟩
      case rest =>
        have HC := hcut.out
        clear hcut HRR
        obtain ⟨d1, hS1, hP1, hA1⟩ := HC
        obtain ⟨f1, f2, f3, f4, f5⟩ := HF.out d1 hA1
        have HS1 := Aside0.mk hS1
        have HP1 := Aside0.mk hP1
        have G1 := Aside0.mk f1
        have G2 := Aside0.mk f2
        have G3 := Aside0.mk f3
        have G4 := Aside0.mk f4
        have G5 := Aside0.mk f5
        have HZ := Aside0.mk hP1.1
        clear hS1 hP1 hA1 f1 f2 f3 f4 f5 HF
        go_upto_region 41 with (fail)
        obtain ⟨ww, hww⟩ : ∃ ww : World, ww = wc := ⟨_, rfl⟩
        subst hww
        go_cut [199] (fun v199 wc => wc = ww ∧ v199 = .bool (a < s && s < mid))
        case first => as_aux_lemma =>
          by_cases y1 : a < s
          · by_cases y2 : s < mid
            · go_wp2_with fail
              go_meet
              case rel => exact ⟨rfl, by simp [y1, y2]⟩
            · have y3 : ¬ s < mid := y2
              go_wp2_with fail
              go_meet
              case rel => exact ⟨rfl, by simp [y1, y2]⟩
          · have y3 : ¬ a < s := y1
            go_wp2_with fail
            go_meet
            case rel => exact ⟨rfl, by simp; omega⟩
        case rest =>
        obtain ⟨rfl, rfl⟩ := hcut
        go_upto_if 199 with (fail)
        go_cut [] (fun wc => Aside0 (∃ d2, SRow w0 g tl d2 wc ∧ PermIn a.toNat mid.toNat d1 d2 ∧ SortedIn ltN a.toNat mid.toNat d2))
        case first => as_aux_lemma =>
          by_cases y0 : a < s ∧ s < mid
          · have y1 : (decide (a < s) && decide (s < mid)) = true := by simp [y0.1, y0.2]
            have HCC := Aside0.mk (IH.out a s mid w0 g cap tl d.size d1 wc (by omega) ha y0.1 y0.2 HZ.out (by omega) hsz HS1.out G1.out G2.out)
            rw [y1]
            clear y0 y1
            go_wp2_with (go_at_call 73; refine HCC.out.mono ?_; clear HCC; rintro e w' ⟨rfl, hw'⟩)
            go_meet
            case rel => exact ⟨hw'⟩
          · have y1 : (decide (a < s) && decide (s < mid)) = false := by simpa using y0
            rw [y1]
            have HY := Aside0.mk y0
            clear y0 y1
            go_wp2_with fail
            go_meet
            case rel =>
              refine ⟨d1, HS1.out, permIn_refl _ _ _, ?_⟩
              have := HY.out
              by_cases z : s = a
              · rw [← z]; exact G2.out
              · rw [show mid = s by omega]; exact G1.out
        case rest =>
          have HC := hcut.out
          clear hcut HS1
          obtain ⟨d2, hS2, hP2, hT2⟩ := HC
          have HS2 := Aside0.mk hS2
          have HP2 := Aside0.mk hP2
          have HT2 := Aside0.mk hT2
          have HZ2 := Aside0.mk (show d2.size = d.size by rw [hP2.1]; exact HZ.out)
          have HE2 := Aside0.mk (fun k (hk : mid.toNat ≤ k) => hP2.2.1 k (.inr hk))
          have HFIN := Aside0.mk (fun d3 (p : PermIn mid.toNat b.toNat d2 d3) (t : SortedIn ltN mid.toNat b.toNat d3) => sym_join (lt := ltN) d1 d2 d3 a.toNat mid.toNat b.toNat (by rw [HZ.out]; omega) (by omega) (by omega) hP2 p hT2 t G5.out)
          have HPP := Aside0.mk (Go.Sort.permIn_mono _ _ _ _ _ _ (show a.toNat ≤ s.toNat by omega) (show E.toNat ≤ b.toNat by omega) (by omega) HP1.out)
          clear hS2 hP2 hT2
          by_cases y1 : mid < E
          · by_cases y2 : E < b
            · have hc := IH.out mid E b w0 g cap tl d.size d2 wc (by omega) (by omega) y1 y2 HZ2.out (by omega) hsz HS2.out
                (fun i j h1 h2 h3 => by rw [HE2.out i h1, HE2.out j (by omega)]; exact G3.out i j h1 h2 h3) (fun i j h1 h2 h3 => by rw [HE2.out i (by omega), HE2.out j (by omega)]; exact G4.out i j h1 h2 h3)
              have HCC := Aside0.mk hc
              clear hc
              go_wp2_with (go_at_call 73; refine HCC.out.mono ?_; clear HCC; rintro e w' ⟨rfl, hw'⟩)
              obtain ⟨d3, hS3, hP3, hT3⟩ := hw'
              go_end0
              exact ⟨rfl, d3, hS3, permIn_trans _ _ _ _ _ HPP.out (HFIN.out d3 hP3 hT3).2, (HFIN.out d3 hP3 hT3).1⟩
            · have y3 : ¬ E < b := y2
              have hE : E = b := by omega
              have HEE := Aside0.mk hE
              have hT3 : SortedIn ltN mid.toNat b.toNat d2 := fun i j h1 h2 h3 => by rw [HE2.out i h1, HE2.out j (by omega)]; exact G3.out i j h1 h2 (by omega)
              have HT3 := Aside0.mk hT3
              clear hE hT3
              go_wp2_with fail
              go_end0
              exact ⟨rfl, d2, HS2.out, permIn_trans _ _ _ _ _ HPP.out (HFIN.out d2 (permIn_refl _ _ _) HT3.out).2, (HFIN.out d2 (permIn_refl _ _ _) HT3.out).1⟩
          · have y3 : ¬ mid < E := y1
            have hE : mid = E := by omega
            have HEE := Aside0.mk hE
            have hT3 : SortedIn ltN mid.toNat b.toNat d2 := fun i j h1 h2 h3 => by rw [HE2.out i h1, HE2.out j (by omega)]; exact G4.out i j (by omega) h2 h3
            have HT3 := Aside0.mk hT3
            clear hE hT3
            go_wp2_with fail
            go_end0
            exact ⟨rfl, d2, HS2.out, permIn_trans _ _ _ _ _ HPP.out (HFIN.out d2 (permIn_refl _ _ _) HT3.out).2, (HFIN.out d2 (permIn_refl _ _ _) HT3.out).1⟩

theorem sym_all : ∀ N, SymSaid N
  | 0 => fun a m b w0 g cap tl sz d w hN ha ham hmb _ _ _ _ _ _ => by omega
  | N + 1 => fun a m b w0 g cap tl sz d w hN ha ham hmb hd hb hsz hs h1 h2 => by
    subst hd
    by_cases c1 : m - a = 1
    · exact sym1 a m b w0 g cap tl d w ha c1 hmb hb hsz hs h2
    · by_cases c2 : b - m = 1
      · exact sym2 a m b w0 g cap tl d w ha ham c1 c2 hb hsz hs h1
      · exact sym_gen N (sym_all N) a m b w0 g cap tl d w hN ha ham hmb c1 c2 hb hsz hs h1 h2
end Go.Proofs.YtmhilolgjcfhjaaGreat.X
