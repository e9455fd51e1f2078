/- strings.Join, the document's Set, and labels.Key: what they answer in plain Lean. -/
import Derived.Shelf.Strings.OnBuilder
import Derived.Test.YtmhilolgjcfhjaaGreatProg
import Derived.Test.YtmhilolgjcfhjaaGreatPA
import Derived.Lib.QuietBelow
import Derived.WalkLawsBesides
import Derived.Test.YtmhilolgjcfhjaaGreatPF
set_option linter.unusedVariables false
set_option linter.unusedSimpArgs false

/-
  DERIVED: THE SHELF's CONTRACTS AT THIS DUMP, IN PLAIN WORDS (tools/lay-plain.mjs out of 'YtmhilolgjcfhjaaGreatShelf.lean', which tools/lay-shelf.mjs wrote): THE SAME DECLARATIONS UNDER THE SAME NAMES: 'import', 'namespace', 'open', 'def', 'theorem' AND NOTHING ELSE: no command of the shelf's: FOR A HAND-IN. Each laying: the table of numbers ('.._ren') and one theorem, a field a fact of the dump's own or the kernel's comparison; each contract: ONE APPLICATION.
-/
namespace Go.Proofs
open Go.Shelf
def Tryz.lays156_ren : Go.Shelf.Ren := ⟨fun | 156 => 55 | 165 => 67 | 166 => 68 | 169 => 69 | 240 => 78 | 241 => 79 | 276 => 88 | 277 => 89 | n => n, fun | 31 => 41 | 9 => 9 | 3 => 3 | 4 => 4 | 0 => 0 | 20 => 20 | 72 => 97 | 76 => 101 | 70 => 95 | 37 => 73 | 75 => 100 | 127 => 108 | 164 => 125 | 5 => 5 | 80 => 103 | n => n, fun | n => n⟩
theorem Tryz.lays156 : Go.Proofs.Lays.n156 Tryz.prog Tryz.lays156_ren := {
  mixed := by kernel_rfl
  f156 := Tryz.func55.trans (congrArg some (by kernel_rfl))
  f165 := Tryz.func67.trans (congrArg some (by kernel_rfl))
  f166 := Tryz.func68.trans (congrArg some (by kernel_rfl))
  f169 := Tryz.func69.trans (congrArg some (by kernel_rfl))
  f240 := Tryz.func78.trans (congrArg some (by kernel_rfl))
  f241 := Tryz.func79.trans (congrArg some (by kernel_rfl))
  f276 := Tryz.func88.trans (congrArg some (by kernel_rfl))
  f277 := Tryz.func89.trans (congrArg some (by kernel_rfl))
  t0 := Tryz.underlying0
  a0 := Tryz.isAgg0
  z0 := Tryz.sizeOf0
  v0 := Tryz.zeroValue0
  t3 := Tryz.underlying3
  a3 := Tryz.isAgg3
  z3 := Tryz.sizeOf3
  v3 := Tryz.zeroValue3
  t4 := Tryz.underlying4
  a4 := Tryz.isAgg4
  z4 := Tryz.sizeOf4
  v4 := Tryz.zeroValue4
  t9 := Tryz.underlying9
  a9 := Tryz.isAgg9
  z9 := Tryz.sizeOf9
  v9 := Tryz.zeroValue9
  t20 := Tryz.underlying20
  a20 := Tryz.isAgg20
  z20 := Tryz.sizeOf20
  v20 := Tryz.zeroValue20
  t31 := Tryz.underlying41
  a31 := Tryz.isAgg41
  z31 := Tryz.sizeOf41
  v31 := Tryz.zeroValue41
  t37 := Tryz.underlying73
  a37 := Tryz.isAgg73
  z37 := Tryz.sizeOf73
  v37 := Tryz.zeroValue73
  t70 := Tryz.underlying95
  a70 := Tryz.isAgg95
  z70 := Tryz.sizeOf95
  v70 := Tryz.zeroValue95
  t72 := Tryz.underlying97
  a72 := Tryz.isAgg97
  z72 := Tryz.sizeOf97
  v72 := Tryz.zeroValue97
  t75 := Tryz.underlying100
  a75 := Tryz.isAgg100
  z75 := Tryz.sizeOf100
  v75 := Tryz.zeroValue100
  t76 := Tryz.underlying101
  a76 := Tryz.isAgg101
  z76 := Tryz.sizeOf101
  v76 := Tryz.zeroValue101
  t127 := Tryz.underlying108
  a127 := Tryz.isAgg108
  z127 := Tryz.sizeOf108
  v127 := Tryz.zeroValue108
  t164 := Tryz.underlying125
  a164 := Tryz.isAgg125
  z164 := Tryz.sizeOf125
  v164 := Tryz.zeroValue125 }
theorem Tryz.Builder_Extra_156 : Builder.Extra Tryz.prog Tryz.lays156_ren := {
  sizeBuilder := by kernel_rfl
  liesBuilder := by kernel_rfl
  t5 := Tryz.underlying5
  a5 := Tryz.isAgg5
  z5 := Tryz.sizeOf5
  v5 := Tryz.zeroValue5
  infoByte := by kernel_rfl
  cellsByte := by kernel_rfl
  sizeByte := by kernel_rfl
  neB5 := by decide }
open Go.RowKit in
/-- No element: the empty string; the world is as it was. (Whatever the slice's address and capacity: a nil slice too.) (LAID: no walk: one application.) -/
theorem Tryz.strings_Join_none (a : Option Addr) (c : Nat) (sep : ByteArray) (w : World) :
    Calls Tryz.prog 55 #[.slice a 0 c, .string sep] w fun e w' => e = .returned (.string ⟨#[]⟩) ∧ w' = w := Any.strings_Join_none Tryz.lays156 Tryz.Builder_Extra_156 a c sep w
open Go.RowKit in
/-- strings.Join: "Join concatenates the elements of its first argument to create a single string. The separator string sep is placed between elements in the resulting string.": HOWEVER MANY ELEMENTS. Below the heap's end the world is as it was. (LAID: no walk: one application.) -/
theorem Tryz.strings_Join (bk o c : Nat) (xs : List ByteArray) (sep : ByteArray) (w : World) (hcells : ∀ (j : Nat) x, xs[j]? = some x → w.cell? ⟨bk, o + j, none⟩ = some (.string x)) (hbk : bk < w.heap.size) (hN : xs.length ≤ 140737488355328) (hcap : xs.length ≤ c) (hlen : (Lib.join (xs.map (·.data.toList)) sep.data.toList).length ≤ 140737488355328) :
    Calls Tryz.prog 55 #[.slice (some ⟨bk, o, none⟩) xs.length c, .string sep] w fun e w' => e = .returned (.string ⟨(Lib.join (xs.map (·.data.toList)) sep.data.toList).toArray⟩) ∧ Below w.heap.size w w' := Any.strings_Join Tryz.lays156 Tryz.Builder_Extra_156 bk o c xs sep w hcells hbk hN hcap hlen
end Go.Proofs

/- The document's Set: every label is one, the names rise, and there are not too many. -/
namespace Go.Proofs.YtmhilolgjcfhjaaGreat.X
open Go.RowKit Go.Proofs.YtmhilolgjcfhjaaGreatW.PrintWords Go.Proofs.YtmhilolgjcfhjaaGreatW.PrintLast Go.Proofs.YtmhilolgjcfhjaaGreatW.PrintMore

def stepB (x y : S47) : Bool := decide (cmpS x.f0 y.f0 < 0)
def setB (l : List S47) : Bool := !l.any badB && decide (l.Pairwise (fun x y => stepB x y = true)) && decide (l.length ≤ 16)
def klaxonref09_Set.f (l0 : List S47) : Option Bool := if fits47 l0 then some (setB l0) else none

theorem stepB_trans (x y z : S47) (h1 : stepB x y = true) (h2 : stepB y z = true) : stepB x z = true := by
  unfold stepB at *
  have h1 := of_decide_eq_true h1
  have h2 := of_decide_eq_true h2
  refine decide_eq_true ?_
  have := cmpS_trans _ _ _ (Int.le_of_lt h1) (Int.le_of_lt h2)
  rcases Int.lt_or_eq_of_le this.1 with h | h
  · exact h
  · have := (this.2 h).1
    omega
theorem steps_pairwise (l : List S47) (h : ∀ i, (hi : i + 1 < l.length) → stepB l[i] l[i + 1] = true) : l.Pairwise (fun x y => stepB x y = true) := by
  rw [List.pairwise_iff_getElem]
  intro i j hi hj hij
  obtain ⟨d, rfl⟩ : ∃ d, j = i + 1 + d := ⟨j - (i + 1), by omega⟩
  clear hij
  induction d with
  | zero => exact h i hj
  | succ d ih => exact stepB_trans _ _ _ (ih (by omega)) (h (i + 1 + d) (by omega))
theorem set_bad (l : List S47) (x : S47) (hx : x ∈ l) (h : badB x = true) : setB l = false := by
  unfold setB
  rw [List.any_eq_true.2 ⟨x, hx, h⟩]; rfl
theorem set_step (l : List S47) (i : Nat) (hi : i + 1 < l.length) (h : stepB l[i] l[i + 1] = false) : setB l = false := by
  unfold setB
  rw [decide_eq_false (p := l.Pairwise _) (fun hp => by
    have := List.pairwise_iff_getElem.1 hp i (i + 1) (by omega) hi (by omega)
    rw [h] at this; cases this)]
  simp
theorem set_good (l : List S47) (h1 : ∀ i, (hi : i < l.length) → badB l[i] = false) (h2 : ∀ i, (hi : i + 1 < l.length) → stepB l[i] l[i + 1] = true) : setB l = decide (l.length ≤ 16) := by
  unfold setB
  rw [decide_eq_true (steps_pairwise l h2), show l.any badB = false by
    rw [List.any_eq_false]
    intro x hx
    obtain ⟨i, hi, rfl⟩ := List.getElem_of_mem hx
    rw [h1 i hi]; simp]
  simp

set_option maxHeartbeats 2000000 in
set_option maxRecDepth 100000 in
theorem klaxonref09_Set.calls (A0 : Option Addr) (c0 : Nat) (l0 : List (S47)) (r : Bool) (w : World) (hr0 : Kd.C k47 w A0 l0.length l0) (hc0 : l0.length ≤ c0) (h : klaxonref09_Set.f l0 = some r) :
    Calls Tryz.prog 17 #[.slice A0 l0.length c0] w fun e w' => e = .returned (.bool r) ∧ Below w.heap.size w w' := by
  unfold klaxonref09_Set.f at h
  by_cases hf : fits47 l0
  · rw [if_pos hf] at h
    have HH := Aside0.mk (Option.some.inj h)
    have hu47 := Tryz.underlying47
    have HR := Aside0.mk hr0
    have HF := Aside0.mk hf
    clear h hr0 hf
    have n1 : l0.length < 4398046511104 := HF.out.1
    go_enter Tryz.func17, Tryz.ntmps17
    go_wp2_with fail
    go_loopg [3] l0.length (fun gg v3 wr => ∃ i : Int, v3 = .int .i64 i ∧ 0 ≤ i ∧ i ≤ l0.length ∧ Aside0 ((l0.length - i).toNat ≤ gg) ∧ Aside0 (Below w.heap.size w wr) ∧ Aside0 (∀ j, (hj : j < l0.length) → j < i.toNat → badB l0[j] = false) ∧ Aside0 (∀ j, (hj : j + 1 < l0.length) → j + 1 < i.toNat → stepB l0[j] l0[j + 1] = true))
    case atStart => exact ⟨0, rfl, by omega, by omega, ⟨by omega⟩, ⟨Below.refl _ _⟩, ⟨fun j hj h => by simp at h⟩, ⟨fun j hj h => by simp at h⟩⟩
    case round =>
    obtain ⟨i, rfl, p0, p1, HG, HB, HA, HS⟩ := hrel
    have hG := HG.out
    by_cases hlt : i < (l0.length : Int)
    · obtain ⟨ad, e0, hx0, hx1⟩ := at_T47 (Kd.C_below HR.out HB.out) i p0 hlt
      cases e0
      have HX := Aside0.mk (rd47_eq l0 i p0 hlt)
      have HC := Aside0.mk (fun W => refIs_call (rd_T47 l0 i) W (HF.out.2 _ (rd47_mem l0 i p0 hlt)))
      have m0 := cell_regrown hx0
      have m1 := cell_regrown hx1
      clear hx0 hx1
      by_cases hb : badB (rd_T47 l0 i) = true
      · have HE := Aside0.mk (show false = r by rw [← HH.out, set_bad l0 _ (rd47_mem l0 i p0 hlt) hb])
        rw [hb] at HC
        clear hb
        go_wp2_with fail
        refine wp_region_quiet_below (by kernel_rfl) (by kernel_rfl) ?_
        repeat (go_big_quiet_step ((go_at_call 42; exact Calls.regrown_of (HC.out _))))
        refine wpQuiet_nil ?_
        intro _ hw'
        obtain ⟨⟨dq, osq⟩, hw''⟩ := hw'
        subst hw''
        have hb2 := below_regrown wr dq osq
        generalize Go.Sort.grow (redrawn wr dq) osq = w2 at hb2 ⊢
        have HB2 := Aside0.mk (HB.out.trans (hb2.mono HB.out.size))
        clear m0 m1  hb2
        go_wp2_with fail
        go_ret
        exact ⟨by rw [← HE.out]; rfl, HB2.out⟩
      · have hb2 : badB (rd_T47 l0 i) = false := by simpa using hb
        rw [hb2] at HC
        have HBD := Aside0.mk hb2
        clear hb hb2
        by_cases hi : 0 < i
        · have p3 : 0 ≤ i - 1 := by omega
          have p4 : i - 1 < (l0.length : Int) := by omega
          have p5 : 1 ≤ i := by omega
          have q2 : IntKind.i64.wrap (i - 1) = i - 1 := IntWalk.i64_in _ (by omega)
          obtain ⟨ad, e0, hy0, hy1⟩ := at_T47 (Kd.C_below HR.out HB.out) (i - 1) p3 p4
          cases e0
          have HY := Aside0.mk (show rd_T47 l0 (i - 1) = l0[i.toNat - 1] by rw [rd47_eq l0 (i - 1) p3 p4]; congr 1; omega)
          rw [show (i - 1).toNat = i.toNat - 1 by omega] at hy0
          have m2 := cell_regrown hy0
          clear hy0 hy1
          have b1 := less_cmpS (rd_T47 l0 i).f0 (rd_T47 l0 (i - 1)).f0
          have b2 := eqL_cmpS (rd_T47 l0 i).f0 (rd_T47 l0 (i - 1)).f0
          have b3 := cmpS_swap (rd_T47 l0 i).f0 (rd_T47 l0 (i - 1)).f0
          by_cases hs : cmpS (rd_T47 l0 (i - 1)).f0 (rd_T47 l0 i).f0 < 0
          · rw [decide_eq_false (by omega)] at b1 b2
            clear b3
            have HST := Aside0.mk (show stepB (rd_T47 l0 (i - 1)) (rd_T47 l0 i) = true from decide_eq_true hs)
            clear hs
            go_wp2_with fail
            refine wp_region_quiet_below (by kernel_rfl) (by kernel_rfl) ?_
            repeat (go_big_quiet_step ((go_at_call 42; exact Calls.regrown_of (HC.out _))))
            refine wpQuiet_nil ?_
            intro _ hw'
            obtain ⟨⟨dq, osq⟩, hw''⟩ := hw'
            subst hw''
            have hb2 := below_regrown wr dq osq
            generalize Go.Sort.grow (redrawn wr dq) osq = w2 at hb2 ⊢
            have HB2 := Aside0.mk (HB.out.trans (hb2.mono HB.out.size))
            clear m0 m1 m2 hb2
            go_wp2_with fail
            go_roundg (l0.length - (i + 1)).toNat
            case measure => omega
            case rel =>
              refine ⟨i + 1, by go_num, by omega, by omega, ⟨Nat.le_refl _⟩, ⟨HB2.out⟩, ⟨fun j hj h => ?_⟩, ⟨fun j hj h => ?_⟩⟩
              · by_cases e : j < i.toNat
                · exact HA.out j hj e
                · obtain rfl : j = i.toNat := by omega
                  rw [← HX.out]; exact HBD.out
              · by_cases e : j + 1 < i.toNat
                · exact HS.out j hj e
                · obtain rfl : j = i.toNat - 1 := by omega
                  have := HST.out
                  rw [HX.out, HY.out] at this
                  rw [← this]
                  congr 2
                  omega
          · have HE := Aside0.mk (show false = r by
              rw [← HH.out, set_step l0 (i.toNat - 1) (by omega)]
              have : stepB (rd_T47 l0 (i - 1)) (rd_T47 l0 i) = false := decide_eq_false hs
              rw [HX.out, HY.out] at this
              rw [← this]
              congr 2
              omega)
            have b4 : (cmpS (rd_T47 l0 i).f0 (rd_T47 l0 (i - 1)).f0 < 0) ∨ (cmpS (rd_T47 l0 i).f0 (rd_T47 l0 (i - 1)).f0 = 0) := by omega
            clear hs b3
            rcases b4 with b4 | b4
            · rw [decide_eq_true b4] at b1
              rw [decide_eq_false (by omega)] at b2
              clear b4
              go_wp2_with fail
              refine wp_region_quiet_below (by kernel_rfl) (by kernel_rfl) ?_
              repeat (go_big_quiet_step ((go_at_call 42; exact Calls.regrown_of (HC.out _))))
              refine wpQuiet_nil ?_
              intro _ hw'
              obtain ⟨⟨dq, osq⟩, hw''⟩ := hw'
              subst hw''
              have hb2 := below_regrown wr dq osq
              generalize Go.Sort.grow (redrawn wr dq) osq = w2 at hb2 ⊢
              have HB2 := Aside0.mk (HB.out.trans (hb2.mono HB.out.size))
              clear m0 m1 m2 hb2
              go_wp2_with fail
              go_ret
              exact ⟨by rw [← HE.out]; rfl, HB2.out⟩
            · rw [decide_eq_true b4] at b2
              rw [decide_eq_false (by omega)] at b1
              clear b4
              go_wp2_with fail
              refine wp_region_quiet_below (by kernel_rfl) (by kernel_rfl) ?_
              repeat (go_big_quiet_step ((go_at_call 42; exact Calls.regrown_of (HC.out _))))
              refine wpQuiet_nil ?_
              intro _ hw'
              obtain ⟨⟨dq, osq⟩, hw''⟩ := hw'
              subst hw''
              have hb2 := below_regrown wr dq osq
              generalize Go.Sort.grow (redrawn wr dq) osq = w2 at hb2 ⊢
              have HB2 := Aside0.mk (HB.out.trans (hb2.mono HB.out.size))
              clear m0 m1 m2 hb2
              go_wp2_with fail
              go_ret
              exact ⟨by rw [← HE.out]; rfl, HB2.out⟩
        · have hi0 : i = 0 := by omega
          subst hi0
          have ha : ad.add ((0 : Int).toNat * 2) = ad := by cases ad; simp [Addr.add]
          simp only [ha] at m0 m1
          go_wp2_with fail
          refine wp_region_quiet_below (by kernel_rfl) (by kernel_rfl) ?_
          repeat (go_big_quiet_step ((go_at_call 42; exact Calls.regrown_of (HC.out _))))
          refine wpQuiet_nil ?_
          intro _ hw'
          obtain ⟨⟨dq, osq⟩, hw''⟩ := hw'
          subst hw''
          have hb2 := below_regrown wr dq osq
          generalize Go.Sort.grow (redrawn wr dq) osq = w2 at hb2 ⊢
          have HB2 := Aside0.mk (HB.out.trans (hb2.mono HB.out.size))
          clear m0 m1  hb2
          go_wp2_with fail
          go_roundg (l0.length - 1)
          case measure => omega
          case rel =>
            refine ⟨1, by go_num, by omega, by omega, ⟨by omega⟩, ⟨HB2.out⟩, ⟨fun j hj h => ?_⟩, ⟨fun j hj h => ?_⟩⟩
            · by_cases e : j < (0 : Int).toNat
              · exact HA.out j hj e
              · obtain rfl : j = (0 : Int).toNat := by omega
                rw [← HX.out]; exact HBD.out
            · by_cases e : j + 1 < (0 : Int).toNat
              · exact HS.out j hj e
              · exact absurd h (by simp)
    · have hle : ¬ i < (l0.length : Int) := hlt
      have HE := Aside0.mk (show decide ((l0.length : Int) ≤ 16) = r by
        rw [← HH.out, set_good l0 (fun j hj => HA.out j hj (by omega)) (fun j hj => HS.out j hj (by omega))]
        exact decide_eq_decide.2 (by omega))
      go_wp2_with fail
      go_ret
      exact ⟨by rw [← HE.out]; rfl, HB.out⟩
  · rw [if_neg hf] at h; cases h
end Go.Proofs.YtmhilolgjcfhjaaGreat.X

/- labels.Key: the set's text. -/
namespace Go.Proofs.YtmhilolgjcfhjaaGreat.X
open Go.RowKit Go.Proofs.YtmhilolgjcfhjaaGreatW.PrintWords Go.Proofs.YtmhilolgjcfhjaaGreatW.PrintLast Go.Proofs.YtmhilolgjcfhjaaGreatW.PrintMore

/-- One label in a key. -/
def entS (x : S47) : ByteArray := x.f0 ++ ⟨#[61, 34]⟩ ++ escB x.f1 ++ ⟨#[34]⟩
def keyB (l : List S47) : ByteArray := ⟨#[123]⟩ ++ ⟨(Lib.join ((l.map entS).map (·.data.toList)) [44]).toArray⟩ ++ ⟨#[125]⟩
def fitsKey (l : List S47) : Prop := l.length ≤ 65536 ∧ ∀ x ∈ l, x.f0.size ≤ 65536 ∧ x.f1.size ≤ 65536
instance (l : List S47) : Decidable (fitsKey l) := by unfold fitsKey; infer_instance
def labels_Key.f (l0 : List S47) : Option ByteArray := if fitsKey l0 then some (keyB l0) else none

theorem words_C (W : World) : Kd.C Kd.string (W.alloc (.cells #[.string ⟨#[92]⟩, .string ⟨#[92, 92]⟩, .string ⟨#[34]⟩, .string ⟨#[92, 34]⟩] 9)) (some ⟨W.heap.size, 0, none⟩) 4 words := by
  have h : Kd.R Kd.string 9 (W.alloc (.cells #[.string ⟨#[92]⟩, .string ⟨#[92, 92]⟩, .string ⟨#[34]⟩, .string ⟨#[92, 34]⟩] 9)) W.heap.size (fun _ => True) (.slice (some ⟨W.heap.size, 0, none⟩) 4 4) words := by
    refine ⟨fun _ _ => trivial, _, World.ownsRow_lit (base := W.heap.size) (e := 9) (size := 1) W #[.string ⟨#[92]⟩, .string ⟨#[92, 92]⟩, .string ⟨#[34]⟩, .string ⟨#[92, 34]⟩] 4 (Nat.le_refl _) (by decide) rfl, ?_⟩
    refine ⟨rfl, fun j p hj => ?_⟩
    match j, hj with
    | 0, hj => cases hj; rfl
    | 1, hj => cases hj; rfl
    | 2, hj => cases hj; rfl
    | 3, hj => cases hj; rfl
  exact (Kd.R_reads' h).2.2
theorem entS_le (x : S47) (h0 : x.f0.size ≤ 65536) (h1 : x.f1.size ≤ 65536) : (entS x).data.toList.length ≤ 196612 := by
  have e1 := escL_length x.f1.data.toList
  have e2 := nEsc_le x.f1.data.toList
  have e3 : x.f1.data.toList.length = x.f1.size := rfl
  have e4 : (escB x.f1).size = (escL x.f1.data.toList).length := by unfold escB; simp [ByteArray.size]
  have e5 : (entS x).data.toList.length = (entS x).size := rfl
  have e6 : (entS x).size = x.f0.size + 2 + (escB x.f1).size + 1 := by
    unfold entS
    rw [ByteArray.size_append, ByteArray.size_append, ByteArray.size_append]
    rfl
  omega
theorem lens_le : ∀ l : List S47, (∀ x ∈ l, x.f0.size ≤ 65536 ∧ x.f1.size ≤ 65536) → Lib.lens ((l.map entS).map (·.data.toList)) ≤ l.length * 196612
  | [], _ => by simp [Lib.lens]
  | x :: l, h => by
    have ih := lens_le l (fun y hy => h y (by simp [hy]))
    have hx := entS_le x (h x (by simp)).1 (h x (by simp)).2
    have : Lib.lens (((x :: l).map entS).map (·.data.toList)) = (entS x).data.toList.length + Lib.lens ((l.map entS).map (·.data.toList)) := by simp [Lib.lens]
    rw [this, List.length_cons]
    omega
theorem join_le (l : List S47) (hf : fitsKey l) : (Lib.join ((l.map entS).map (·.data.toList)) [44]).length ≤ 21474967296 := by
  have h := lens_le l hf.2
  have hl := hf.1
  cases l with
  | nil => simp [Lib.join_nil]
  | cons x l =>
    have e := Lib.join_length (entS x).data.toList ((l.map entS).map (·.data.toList)) [44]
    have e2 : (((x :: l).map entS).map (·.data.toList)) = (entS x).data.toList :: ((l.map entS).map (·.data.toList)) := rfl
    rw [e2] at h ⊢
    rw [e]
    have e3 : ((l.map entS).map (·.data.toList)).length = l.length := by simp
    rw [e3]
    simp only [List.length_cons, List.length_nil] at h hl ⊢
    omega

set_option maxHeartbeats 2000000 in
set_option maxRecDepth 100000 in
theorem labels_Key.calls (A0 : Option Addr) (c0 : Nat) (l0 : List (S47)) (r : ByteArray) (w : World) (hr0 : Kd.C k47 w A0 l0.length l0) (hc0 : l0.length ≤ c0) (h : labels_Key.f l0 = some r) :
    Calls Tryz.prog 26 #[.slice A0 l0.length c0] w fun e w' => e = .returned (.string r) ∧ Below w.heap.size w w' := by
  unfold labels_Key.f at h
  by_cases hf : fitsKey l0
  · rw [if_pos hf] at h
    have HH := Aside0.mk (Option.some.inj h)
    have hu47 := Tryz.underlying47
    have HR := Aside0.mk hr0
    have HF := Aside0.mk hf
    have n1 : l0.length ≤ 65536 := hf.1
    clear h hr0 hf
    go_enter Tryz.func26, Tryz.ntmps26
    go_wp2_with fail
    go_loopg [3, 5, 8] l0.length (fun gg v3 _ v8 wr => ∃ i : Nat, v8 = .int .i64 i ∧ i ≤ l0.length ∧ l0.length - i ≤ gg ∧ Aside0 (Below w.heap.size w wr) ∧ Aside0 (Kd.R Kd.string 9 wr w.heap.size (fun _ => True) v3 ((l0.take i).map entS)))
    case atStart => exact ⟨0, rfl, by omega, by omega, ⟨Below.refl _ _⟩, ⟨Kd.R_nil _ _ _ _ _⟩⟩
    case round =>
    obtain ⟨i, rfl, hi, hg, HB, HO⟩ := hrel
    by_cases hlt : i < l0.length
    · have q0 : (i : Int) < (l0.length : Int) := by omega
      obtain ⟨ad, e0, hx0, hx1⟩ := at_T47 (Kd.C_below HR.out HB.out) i (by omega) q0
      cases e0
      obtain ⟨x, hx⟩ : ∃ x, x = rd_T47 l0 i := ⟨_, rfl⟩
      have HX := Aside0.mk (show x = l0[i] by rw [hx, rd47_eq l0 i (by omega) q0]; rfl)
      rw [← hx] at hx0 hx1
      simp only [Int.toNat_natCast] at hx0 hx1
      clear hx
      obtain ⟨Av, cv, e3⟩ := Kd.R_slice HO.out
      have hl3 : ((l0.take i).map entS).length = i := by simp; omega
      rw [hl3] at e3
      subst e3
      go_wp2_with fail
      have HB1 := Aside0.mk (HB.out.alloc HB.out.size (.cells #[.string x.f0, .string x.f1] 47))
      have HO1 := Aside0.mk (Kd.R_below HO.out ((Below.refl wr.heap.size wr).alloc (Nat.le_refl _) (.cells #[.string x.f0, .string x.f1] 47)))
      have z0 : (wr.alloc (.cells #[.string x.f0, .string x.f1] 47)).cell? ⟨wr.heap.size, 0, none⟩ = some (.string x.f0) := by rw [World.cell?_alloc_new]; rfl
      have z1 : (wr.alloc (.cells #[.string x.f0, .string x.f1] 47)).cell? ⟨wr.heap.size, 1, none⟩ = some (.string x.f1) := by rw [World.cell?_alloc_new]; rfl
      have HS1 := Aside0.mk (show wr.heap.size < (wr.alloc (.cells #[.string x.f0, .string x.f1] 47)).heap.size by rw [World.size_alloc]; omega)
      have HBB := Aside0.mk HB.out.size
      have HNE := Aside0.mk (show some wr.heap.size ≠ (Value.slice Av i cv).ownBlock from fun e => by have := Kd.R_lt HO.out _ e.symm; omega)
      clear HB HO hx0 hx1
      generalize wr.alloc (.cells #[.string x.f0, .string x.f1] 47) = wA at HB1 HO1 z0 z1 HS1 ⊢
      generalize wr.heap.size = B at z0 z1 HS1 HBB HNE ⊢
      have hnn := World.new_ne wA ⟨B, 0, none⟩ z0
      have HW := Aside0.mk (fun W => Kd.C_drew (words_C W))
      have HZ := Aside0.mk (fun o : Obj => show ((wA.alloc o).drew).cell? ⟨B, 0, none⟩ = some (.string x.f0) ∧ ((wA.alloc o).drew).cell? ⟨B, 1, none⟩ = some (.string x.f1) ∧ B < ((wA.alloc o).drew).heap.size by
        have hb : Below wA.heap.size wA ((wA.alloc o).drew) := below_drew1 ((Below.refl _ _).alloc (Nat.le_refl _) _)
        exact ⟨(hb.cell (p := ⟨B, 0, none⟩) HS1.out).trans z0, (hb.cell (p := ⟨B, 1, none⟩) HS1.out).trans z1, Nat.lt_of_lt_of_le HS1.out hb.size⟩)
      have HZ2 := Aside0.mk (fun (o : Obj) (w4 : World) (hb : Below ((wA.alloc o).drew).heap.size ((wA.alloc o).drew) w4) => show Below wA.heap.size wA w4 from (below_drew1 ((Below.refl _ _).alloc (Nat.le_refl _) o)).trans (hb.mono (by simp)))
      have HZ3 := Aside0.mk (fun (o : Obj) => show wA.heap.size ≤ ((wA.alloc o).drew).heap.size by simp)
      have hs0 : x.f0.size ≤ 65536 := by rw [HX.out]; exact (HF.out.2 _ (List.getElem_mem _)).1
      have hs1 : x.f1.size ≤ 65536 := by rw [HX.out]; exact (HF.out.2 _ (List.getElem_mem _)).2
      have hs2 : (escB x.f1).size ≤ 131072 := by
        have h1 := escL_length x.f1.data.toList
        have h2 := nEsc_le x.f1.data.toList
        have h3 : x.f1.data.toList.length = x.f1.size := rfl
        have h4 : (escB x.f1).size = (escL x.f1.data.toList).length := by unfold escB; simp [ByteArray.size]
        omega
      have hq1 : ¬ 9223372036854775807 < x.f0.size + 2 := by omega
      have hq2 : ¬ 9223372036854775807 < x.f0.size + 2 + (escB x.f1).size := by omega
      have hq3 : ¬ 9223372036854775807 < x.f0.size + 2 + (escB x.f1).size + 1 := by omega
      go_region_held3 (fun w' => w'.cell? ⟨B, 0, none⟩ = some (.string x.f0) ∧ w'.cell? ⟨B, 1, none⟩ = some (.string x.f1)) (go_keep) (first | (go_at_call 53; refine (new_replacer _ 4 words _ (HW.out _)).mono ?_; rintro e w4 ⟨g, h, cv4, rfl, hle, hn, hb⟩; have HN := Aside0.mk hn; have HB4 := Aside0.mk hb; have HLE := Aside0.mk hle; have z4 := (hb.cell (p := ⟨B, 0, none⟩) (HZ.out _).2.2).trans (HZ.out _).1; have z5 := (hb.cell (p := ⟨B, 1, none⟩) (HZ.out _).2.2).trans (HZ.out _).2.1; clear hn hb hle) | (go_at_call 54; refine (replace_call _ _ _ _ HN.out _ (by omega)).mono ?_; rintro e w5 ⟨rfl, hb5⟩; have hBg : B < g := Nat.lt_trans (Nat.lt_of_lt_of_le (HZ.out _).2.2 HLE.out) HN.out.lt; have y4 := (hb5.cell (p := ⟨B, 0, none⟩) hBg).trans z4; have y5 := (hb5.cell (p := ⟨B, 1, none⟩) hBg).trans z5; have HB5 := Aside0.mk ((HZ2.out _ _ HB4.out).trans (hb5.mono (Nat.le_trans (Nat.le_trans (HZ3.out _) HLE.out) (Nat.le_of_lt HN.out.lt)))); clear hb5 z4 z5 HN HB4 HLE) | (refine Kd.R_append_step Kd.string (w0 := w) w.heap.size (by rfl) (.tmp 12) (.tmp 23) 41 9 (.string ⟨#[]⟩) 16 rfl Tryz.underlying41 info9 rfl (by decide) (by omega) (.slice Av i cv) ((l0.take i).map entS) (entS x) [.string (entS x)] (fun _ => True) (fun _ => False) rfl rfl rfl (fun _ hk => hk.elim) (fun _ _ => trivial) (Kd.R_below HO1.out HB5.out) (HB1.out.trans (HB5.out.mono HB1.out.size)) (Nat.le_trans HB1.out.size HB5.out.size) (by simp; omega) ?_; intro v1 w6 ho hb hg hat; have y6 := (hg.cell_far ⟨B, 0, none⟩ (block_lt_of_cell y4) HNE.out).trans y4; have y7 := (hg.cell_far ⟨B, 1, none⟩ (block_lt_of_cell y5) HNE.out).trans y5; have HO6 := Aside0.mk ho; have HB6 := Aside0.mk hb; clear ho hb hg hat y4 y5))
      all_goals
        have HTK := Aside0.mk (show (l0.take i).map entS ++ [entS x] = (l0.take (i + 1)).map entS by rw [List.take_succ_eq_append_getElem hlt, List.map_append, HX.out]; rfl)
        rw [HTK.out] at HO6
        clear y6 y7 hs0 hs1 hs2 hq1 hq2 hq3 HTK hnn hBg
        go_wp2_with fail
        go_roundg (l0.length - (i + 1))
        case measure => omega
        case rel => exact ⟨i + 1, by go_num, by omega, by omega, ⟨HB6.out⟩, ⟨HO6.out⟩⟩
    · have hle : ¬ (i : Int) < (l0.length : Int) := by omega
      have hT : l0.take i = l0 := List.take_of_length_le (by omega)
      rw [hT] at HO
      have HK := Aside0.mk (show keyB l0 = ⟨#[123]⟩ ++ ⟨(Lib.join ((l0.map entS).map (·.data.toList)) [44]).toArray⟩ ++ ⟨#[125]⟩ from rfl)
      have HJ := Aside0.mk (join_le l0 HF.out)
      by_cases h0 : 0 < l0.length
      · obtain ⟨g, cap, rfl, o1, o2, o3, o4⟩ := strs_open HO.out (by simpa using h0)
        have HC := Aside0.mk (Tryz.strings_Join g 0 cap (l0.map entS) ⟨#[44]⟩ wr (fun j x hj => by
          obtain ⟨hj1, rfl⟩ := List.getElem?_eq_some_iff.1 hj
          rw [Nat.zero_add, o4 j hj1, List.getD_eq_getElem?_getD, List.getElem?_eq_getElem hj1]; rfl) o2 (by simp; omega) o3 (Nat.le_trans HJ.out (by omega)))
        clear o1 o2 o3 o4 HO
        have hj : (⟨(Lib.join ((l0.map entS).map (·.data.toList)) [44]).toArray⟩ : ByteArray).size ≤ 21474967296 := by have := HJ.out; simpa [ByteArray.size] using this
        have HC2 := Aside0.mk HC.out
        rw [HK.out] at HH
        have hlen : (l0.map entS).length = l0.length := by simp
        rw [hlen] at HC2
        have hsep : (⟨#[44]⟩ : ByteArray).data.toList = [44] := rfl
        rw [hsep] at HC2
        clear HC HK HJ hlen hsep
        generalize (⟨(Lib.join ((l0.map entS).map (·.data.toList)) [44]).toArray⟩ : ByteArray) = J at hj HH HC2
        have hll : (List.map entS l0).length = l0.length := by simp
        rw [hll]
        clear hll
        go_wp2_with (go_at_call 55; refine HC2.out.mono ?_; clear HC2; rintro e w2 ⟨rfl, hb2⟩)
        go_ret
        exact ⟨by rw [← HH.out]; rfl, HB.out.trans (hb2.mono HB.out.size)⟩
      · have hnil : l0 = [] := List.eq_nil_of_length_eq_zero (by omega)
        subst hnil
        obtain ⟨Av, cv, rfl⟩ := Kd.R_slice HO.out
        have HC := Aside0.mk (Tryz.strings_Join_none Av cv ⟨#[44]⟩ wr)
        go_wp2_with (go_at_call 55; refine HC.out.mono ?_; clear HC; rintro e w2 ⟨rfl, rfl⟩)
        go_ret
        exact ⟨by rw [← HH.out, HK.out]; rfl, HB.out⟩
  · rw [if_neg hf] at h; cases h
end Go.Proofs.YtmhilolgjcfhjaaGreat.X
