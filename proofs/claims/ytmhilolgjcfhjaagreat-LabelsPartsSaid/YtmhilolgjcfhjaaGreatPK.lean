/- labels.Compare; unlike sets have unlike keys. -/
import Derived.Test.YtmhilolgjcfhjaaGreatPA
import Derived.Test.YtmhilolgjcfhjaaGreatPJ
set_option linter.unusedVariables false
set_option linter.unusedSimpArgs false

/- labels.Compare: label by label, by name and then by value; then the shorter one is ahead. -/
namespace Go.Proofs.YtmhilolgjcfhjaaGreat.X
open Go.RowKit Go.Proofs.YtmhilolgjcfhjaaGreatW.PrintWords Go.Proofs.YtmhilolgjcfhjaaGreatW.PrintLast Go.Proofs.YtmhilolgjcfhjaaGreatW.PrintMore

def cmp2 (x y : S47) : Int := if cmpS x.f0 y.f0 = 0 then cmpS x.f1 y.f1 else cmpS x.f0 y.f0
def cmpB : List S47 → List S47 → Int
  | [], [] => 0
  | [], _ :: _ => -1
  | _ :: _, [] => 1
  | x :: a, y :: b => if cmp2 x y = 0 then cmpB a b else cmp2 x y
def labels_Compare.f (l0 l1 : List S47) : Option Int := if l0.length ≤ 4611686018427387904 ∧ l1.length ≤ 4611686018427387904 then some (cmpB l0 l1) else none
theorem cmp_1 (x y : S47) (w : World) :
    Calls Tryz.prog 57 #[.agg #[.string x.f0, .string x.f1], .agg #[.string y.f0, .string y.f1]] w fun e w' => e = .returned (.int .i64 (cmp2 x y)) ∧ Below w.heap.size w w' := by
  have hu47 := Tryz.underlying47
  have HB := Aside0.mk (((Below.refl w.heap.size w).alloc (Nat.le_refl _) (.cells #[.string x.f0, .string x.f1] 47)).alloc (by simp) (.cells #[.string y.f0, .string y.f1] 47))
  have hby := fun W => byName x y W
  have HC := Aside0.mk (show cmp2 x y = if cmpS x.f0 y.f0 = 0 then cmpS x.f1 y.f1 else cmpS x.f0 y.f0 from rfl)
  have HY := Aside0.mk hby
  clear hby
  generalize cmp2 x y = r at HC
  generalize cmpS x.f0 y.f0 = c at HC HY
  by_cases hc : c = 0
  · have HE := Aside0.mk (show r = cmpS x.f1 y.f1 by rw [HC.out, if_pos hc])
    subst hc
    go_enter Tryz.func57, Tryz.ntmps57
    go_wp2_with (first | (go_at_call 41; refine (HY.out _).mono ?_; rintro e w1 ⟨rfl, hb1⟩; have hd : ∀ b o, b < w.heap.size + 1 + 1 → w1.cell? ⟨b, o, none⟩ = ((w.alloc (.cells #[.string x.f0, .string x.f1] 47)).alloc (.cells #[.string y.f0, .string y.f1] 47)).cell? ⟨b, o, none⟩ := fun b o h => hb1.cell (p := ⟨b, o, none⟩) (by simpa using h)) | (go_at_call 58; refine (stringsCompare _ _ _).mono ?_; rintro e w' ⟨rfl, rfl⟩))
    go_ret
    exact ⟨by rw [HE.out]; rfl, HB.out.trans (hb1.mono (by simp; omega))⟩
  · have HE := Aside0.mk (show r = c by rw [HC.out, if_neg hc])
    have hc2 : (c != 0) = true := by simpa using hc
    clear hc
    go_enter Tryz.func57, Tryz.ntmps57
    go_wp2_with (first | (go_at_call 41; refine (HY.out _).mono ?_; rintro e w1 ⟨rfl, hb1⟩))
    go_ret
    exact ⟨by rw [HE.out]; rfl, HB.out.trans (hb1.mono (by simp; omega))⟩

theorem drop_rd (l : List S47) (i : Int) (h0 : 0 ≤ i) (h1 : i < (l.length : Int)) : l.drop i.toNat = rd_T47 l i :: l.drop (i + 1).toNat := by
  rw [rd47_eq l i h0 h1, show (i + 1).toNat = i.toNat + 1 by omega]
  exact List.drop_eq_getElem_cons (by omega)

set_option maxHeartbeats 1000000 in
set_option maxRecDepth 100000 in
theorem compareFunc (A0 : Option Addr) (c0 : Nat) (l0 : List (S47)) (A1 : Option Addr) (c1 : Nat) (l1 : List (S47)) (w : World) (hr0 : Kd.C k47 w A0 l0.length l0) (hr1 : Kd.C k47 w A1 l1.length l1) (n0 : l0.length ≤ 4611686018427387904) (n1 : l1.length ≤ 4611686018427387904) :
    Calls Tryz.prog 56 #[.slice A0 l0.length c0, .slice A1 l1.length c1, .func (.func 57) #[] #[]] w fun e w' => e = .returned (.int .i64 (cmpB l0 l1)) ∧ Below w.heap.size w w' := by
  have hu47 := Tryz.underlying47
  have HR0 := Aside0.mk hr0
  have HR1 := Aside0.mk hr1
  clear hr0 hr1
  go_enter Tryz.func56, Tryz.ntmps56
  go_wp2_with fail
  go_loopg [7, 8, 9, 10, 13] l0.length (fun gg _ _ _ _ v13 wr => ∃ i : Int, v13 = .int .i64 i ∧ 0 ≤ i ∧ i ≤ l0.length ∧ i ≤ l1.length ∧ Aside0 ((l0.length - i).toNat ≤ gg) ∧ Aside0 (Below w.heap.size w wr) ∧ Aside0 (cmpB (l0.drop i.toNat) (l1.drop i.toNat) = cmpB l0 l1))
  case atStart => exact ⟨0, rfl, by omega, by omega, by omega, ⟨by omega⟩, ⟨Below.refl _ _⟩, ⟨rfl⟩⟩
  case round =>
    obtain ⟨i, rfl, p0, p1, p2, HG, HB, HI⟩ := hrel
    have hG := HG.out
    by_cases hlt : i < (l0.length : Int)
    · obtain ⟨ad0, e0, hx0, hx1⟩ := at_T47 (Kd.C_below HR0.out HB.out) i p0 hlt
      cases e0
      have HD0 := Aside0.mk (drop_rd l0 i p0 hlt)
      have HB1 := Aside0.mk (HB.out.alloc HB.out.size (.cells #[.string (rd_T47 l0 i).f0, .string (rd_T47 l0 i).f1] 47))
      by_cases hlt1 : i < (l1.length : Int)
      · obtain ⟨ad1, e1, hy0, hy1⟩ := at_T47 (Kd.C_below HR1.out HB1.out) i p0 hlt1
        cases e1
        have HD1 := Aside0.mk (drop_rd l1 i p0 hlt1)
        have hge : ¬ (l1.length : Int) ≤ i := by omega
        have HB2 := Aside0.mk (HB1.out.alloc HB1.out.size (.cells #[.string (rd_T47 l1 i).f0, .string (rd_T47 l1 i).f1] 47))
        have hcmp := fun W => cmp_1 (rd_T47 l0 i) (rd_T47 l1 i) W
        have HC := Aside0.mk hcmp
        clear hcmp
        have HV := Aside0.mk (show cmpB (rd_T47 l0 i :: l0.drop (i + 1).toNat) (rd_T47 l1 i :: l1.drop (i + 1).toNat) = if cmp2 (rd_T47 l0 i) (rd_T47 l1 i) = 0 then cmpB (l0.drop (i + 1).toNat) (l1.drop (i + 1).toNat) else cmp2 (rd_T47 l0 i) (rd_T47 l1 i) by rw [cmpB])
        generalize cmp2 (rd_T47 l0 i) (rd_T47 l1 i) = c at HC HV
        by_cases hc : c = 0
        · subst hc
          have HV0 := Aside0.mk (HV.out.trans (if_pos rfl))
          clear HV
          go_wp2_with (go_at_call 57; refine (HC.out _).mono ?_; rintro e w2 ⟨rfl, hb⟩)
          go_roundg (l0.length - (i + 1)).toNat
          case measure => omega
          case rel => exact ⟨i + 1, by go_num, by omega, by omega, by omega, ⟨Nat.le_refl _⟩, ⟨HB2.out.trans (hb.mono (by have := HB.out.size; simp; omega))⟩, ⟨by rw [← HI.out, HD0.out, HD1.out, HV0.out]⟩⟩
        · have hc2 : (c != 0) = true := by simpa using hc
          have HE := Aside0.mk (show c = cmpB l0 l1 by rw [← HI.out, HD0.out, HD1.out, HV.out, if_neg hc])
          clear hc
          go_wp2_with (go_at_call 57; refine (HC.out _).mono ?_; rintro e w2 ⟨rfl, hb⟩)
          go_ret
          exact ⟨ret_int HE.out, HB2.out.trans (hb.mono (by have := HB.out.size; simp; omega))⟩
      · have hge : (l1.length : Int) ≤ i := by omega
        have HE := Aside0.mk (show 1 = cmpB l0 l1 by rw [← HI.out, HD0.out, show l1.drop i.toNat = [] from List.drop_eq_nil_of_le (by omega)]; rfl)
        go_wp2_with fail
        go_ret
        exact ⟨ret_int HE.out, HB1.out⟩
    · have hle : ¬ i < (l0.length : Int) := hlt
      by_cases hlt1 : (l0.length : Int) < (l1.length : Int)
      · have hlt2 : l0.length < l1.length := by omega
        have HE := Aside0.mk (show -1 = cmpB l0 l1 by
          rw [← HI.out, show l0.drop i.toNat = [] from List.drop_eq_nil_of_le (by omega), drop_rd l1 i p0 (by omega)]; rfl)
        go_wp2_with fail
        go_ret
        exact ⟨ret_int HE.out, HB.out⟩
      · have hlt2 : ¬ l0.length < l1.length := by omega
        have HE := Aside0.mk (show 0 = cmpB l0 l1 by
          rw [← HI.out, show l0.drop i.toNat = [] from List.drop_eq_nil_of_le (by omega), show l1.drop i.toNat = [] from List.drop_eq_nil_of_le (by omega)]; rfl)
        go_wp2_with fail
        go_ret
        exact ⟨ret_int HE.out, HB.out⟩
theorem labels_Compare.calls (A0 : Option Addr) (c0 : Nat) (l0 : List (S47)) (A1 : Option Addr) (c1 : Nat) (l1 : List (S47)) (r : Int) (w : World) (hr0 : Kd.C k47 w A0 l0.length l0) (hc0 : l0.length ≤ c0) (hr1 : Kd.C k47 w A1 l1.length l1) (hc1 : l1.length ≤ c1) (h : labels_Compare.f l0 l1 = some r) :
    Calls Tryz.prog 27 #[.slice A0 l0.length c0, .slice A1 l1.length c1] w fun e w' => e = .returned (.int .i64 r) ∧ Below w.heap.size w w' := by
  unfold labels_Compare.f at h
  by_cases hm : l0.length ≤ 4611686018427387904 ∧ l1.length ≤ 4611686018427387904
  · rw [if_pos hm] at h
    have HH := Aside0.mk (Option.some.inj h)
    have HC := Aside0.mk (compareFunc A0 c0 l0 A1 c1 l1 w hr0 hr1 hm.1 hm.2)
    clear h hr0 hr1 hm
    rw [HH.out] at HC
    go_enter Tryz.func27, Tryz.ntmps27
    go_wp2_with (go_at_call 56; refine HC.out.mono ?_; rintro e w' ⟨rfl, hb⟩)
    go_ret
    exact ⟨rfl, hb⟩
  · rw [if_neg hm] at h; cases h
end Go.Proofs.YtmhilolgjcfhjaaGreat.X

/- Unlike sets have unlike keys. -/
namespace Go.Proofs.YtmhilolgjcfhjaaGreat.X
open Go.RowKit Go.Proofs.YtmhilolgjcfhjaaGreatW.PrintWords Go.Proofs.YtmhilolgjcfhjaaGreatW.PrintLast Go.Proofs.YtmhilolgjcfhjaaGreatW.PrintMore

theorem chFrom_all (s : ByteArray) : ∀ d i : Nat, chFrom s d i = true → ∀ j, i ≤ j → j < i + d → chOK j (bt s j) = true
  | 0, _, _, j, h1, h2 => by omega
  | d + 1, i, h, j, h1, h2 => by
    rw [chFrom, Bool.and_eq_true] at h
    by_cases e : j = i
    · rw [e]; exact h.1
    · exact chFrom_all s d (i + 1) h.2 j (by omega) (by omega)
theorem name_no61 (x : S47) (h : badB x = false) : ∀ c ∈ x.f0.data.toList, c ≠ 61 := by
  intro c hc e
  subst e
  obtain ⟨j, hj, e⟩ := List.getElem_of_mem hc
  have hj' : j < x.f0.size := by simpa using hj
  have := chFrom_all x.f0 x.f0.size 0 (good_sizes x h).2.2.2.2 j (Nat.zero_le _) (by omega)
  have hb : bt x.f0 j = 61 := by
    rw [← bt_at x.f0 j (by simpa using hj')]
    have e2 : x.f0[((j : Int)).toNat]'(by simpa using hj') = 61 := e
    rw [e2]; rfl
  rw [hb] at this
  unfold chOK at this
  have := of_decide_eq_true this
  omega
theorem name_cut : ∀ (u v r r' : List UInt8), (∀ c ∈ u, c ≠ 61) → (∀ c ∈ v, c ≠ 61) → u ++ 61 :: r = v ++ 61 :: r' → u = v ∧ r = r'
  | [], [], r, r', _, _, h => by simpa using h
  | [], d :: v, r, r', _, hv, h => by
    rw [List.nil_append, List.cons_append, List.cons.injEq] at h
    exact absurd h.1.symm (hv d List.mem_cons_self)
  | c :: u, [], r, r', hu, _, h => by
    rw [List.nil_append, List.cons_append, List.cons.injEq] at h
    exact absurd h.1 (hu c List.mem_cons_self)
  | c :: u, d :: v, r, r', hu, hv, h => by
    rw [List.cons_append, List.cons_append, List.cons.injEq] at h
    have := name_cut u v r r' (fun c hc => hu c (List.mem_cons_of_mem _ hc)) (fun c hc => hv c (List.mem_cons_of_mem _ hc)) h.2
    exact ⟨by rw [h.1, this.1], this.2⟩
theorem esc_cut : ∀ (u v r r' : List UInt8), escL u ++ 34 :: r = escL v ++ 34 :: r' → u = v ∧ r = r'
  | [], [], r, r', h => by simpa [escL] using h
  | [], d :: v, r, r', h => by
    rw [escL, escL, List.nil_append] at h
    by_cases c : d = 92 ∨ d = 34
    · rw [if_pos c, List.cons_append, List.cons.injEq] at h
      exact absurd h.1 (by decide)
    · rw [if_neg c, List.cons_append, List.cons.injEq] at h
      exact absurd (.inr h.1.symm) c
  | d :: u, [], r, r', h => by
    rw [escL, escL, List.nil_append] at h
    by_cases c : d = 92 ∨ d = 34
    · rw [if_pos c, List.cons_append, List.cons.injEq] at h
      exact absurd h.1 (by decide)
    · rw [if_neg c, List.cons_append, List.cons.injEq] at h
      exact absurd (.inr h.1) c
  | d :: u, e :: v, r, r', h => by
    rw [escL, escL] at h
    by_cases c : d = 92 ∨ d = 34
    · rw [if_pos c] at h
      by_cases c' : e = 92 ∨ e = 34
      · rw [if_pos c', List.cons_append, List.cons_append, List.cons_append, List.cons_append, List.cons.injEq, List.cons.injEq] at h
        have := esc_cut u v r r' h.2.2
        exact ⟨by rw [h.2.1, this.1], this.2⟩
      · rw [if_neg c', List.cons_append, List.cons_append, List.cons_append, List.cons.injEq] at h
        exact absurd (.inl h.1.symm) c'
    · rw [if_neg c] at h
      by_cases c' : e = 92 ∨ e = 34
      · rw [if_pos c', List.cons_append, List.cons_append, List.cons_append, List.cons.injEq] at h
        exact absurd (.inl h.1) c
      · rw [if_neg c', List.cons_append, List.cons_append, List.cons.injEq] at h
        have := esc_cut u v r r' h.2
        exact ⟨by rw [h.1, this.1], this.2⟩
theorem bytes_ext (a b : ByteArray) (h : a.data.toList = b.data.toList) : a = b := by
  rw [← eqL_iff, ByteArray.toList_eq, ByteArray.toList_eq]; exact h
theorem ent_cut (x y : S47) (hx : badB x = false) (hy : badB y = false) (r r' : List UInt8) (h : entL x ++ r = entL y ++ r') : x = y ∧ r = r' := by
  unfold entL at h
  simp only [List.append_assoc, List.cons_append, List.nil_append] at h
  obtain ⟨h1, h2⟩ := name_cut _ _ _ _ (name_no61 x hx) (name_no61 y hy) h
  rw [List.cons.injEq] at h2
  obtain ⟨h3, h4⟩ := esc_cut _ _ _ _ h2.2
  exact ⟨(s47_ext x y).2 ⟨bytes_ext _ _ h1, bytes_ext _ _ h3⟩, h4⟩
theorem tail_cons (x : S47) (a : List S47) : Lib.joinTail [44] ((x :: a).map entL) = 44 :: (entL x ++ Lib.joinTail [44] (a.map entL)) := by
  unfold Lib.joinTail
  simp
theorem tail_cut : ∀ (a b : List S47), (∀ x ∈ a, badB x = false) → (∀ x ∈ b, badB x = false) → Lib.joinTail [44] (a.map entL) ++ [125] = Lib.joinTail [44] (b.map entL) ++ [125] → a = b
  | [], [], _, _, _ => rfl
  | [], y :: b, _, _, h => by
    rw [tail_cons] at h
    simp [Lib.joinTail] at h
  | x :: a, [], _, _, h => by
    rw [tail_cons] at h
    simp [Lib.joinTail] at h
  | x :: a, y :: b, ha, hb, h => by
    rw [tail_cons, tail_cons, List.cons_append, List.cons_append, List.cons.injEq, List.append_assoc, List.append_assoc] at h
    obtain ⟨h1, h2⟩ := ent_cut x y (ha x List.mem_cons_self) (hb y List.mem_cons_self) _ _ h.2
    rw [h1, tail_cut a b (fun x hx => ha x (List.mem_cons_of_mem _ hx)) (fun x hx => hb x (List.mem_cons_of_mem _ hx)) h2]
theorem ent_long (x : S47) : 3 ≤ (entL x).length := by
  unfold entL
  simp
  omega
theorem keyL_inj (a b : List S47) (ha : ∀ x ∈ a, badB x = false) (hb : ∀ x ∈ b, badB x = false) (h : keyL a = keyL b) : a = b := by
  unfold keyL at h
  rw [List.cons.injEq] at h
  have h := h.2
  match a, b, ha, hb, h with
  | [], [], _, _, _ => rfl
  | [], y :: b, _, hb, h =>
    rw [List.map_cons, Lib.join_cons] at h
    have := congrArg List.length h
    simp [Lib.join_nil] at this
    have := ent_long y
    omega
  | x :: a, [], _, hb, h =>
    rw [List.map_cons, Lib.join_cons] at h
    have := congrArg List.length h
    simp [Lib.join_nil] at this
    have := ent_long x
    omega
  | x :: a, y :: b, ha, hb, h =>
    rw [List.map_cons, List.map_cons, Lib.join_cons, Lib.join_cons, List.append_assoc, List.append_assoc] at h
    obtain ⟨h1, h2⟩ := ent_cut x y (ha x List.mem_cons_self) (hb y List.mem_cons_self) _ _ h
    rw [h1, tail_cut a b (fun x hx => ha x (List.mem_cons_of_mem _ hx)) (fun x hx => hb x (List.mem_cons_of_mem _ hx)) h2]
theorem key_eq (a b : List S47) (ha : IsSet a) (hb : IsSet b) : ((keyB a).toList == (keyB b).toList) = decide (a = b) := by
  rw [keyB_list, keyB_list]
  by_cases e : a = b
  · rw [e]; simp
  · rw [decide_eq_false e]
    simpa using fun q => e (keyL_inj a b ha.good hb.good q)

/-! ### Compare -/
theorem cmp2_self (x : S47) : cmp2 x x = 0 := by unfold cmp2; rw [if_pos (cmpS_self _), cmpS_self]
theorem cmp2_zero (x y : S47) : cmp2 x y = 0 ↔ x = y := by
  constructor
  · intro h
    unfold cmp2 at h
    rw [s47_ext]
    by_cases c : cmpS x.f0 y.f0 = 0
    · rw [if_pos c] at h
      exact ⟨(cmpS_eq _ _).1 c, (cmpS_eq _ _).1 h⟩
    · rw [if_neg c] at h
      exact absurd h c
  · rintro rfl; exact cmp2_self x
theorem cmp2_swap (x y : S47) : cmp2 x y = - cmp2 y x := by
  unfold cmp2
  rw [cmpS_swap x.f0 y.f0, cmpS_swap x.f1 y.f1]
  by_cases c : cmpS y.f0 x.f0 = 0
  · rw [if_pos c, if_pos (by omega)]
  · rw [if_neg c, if_neg (by omega)]
theorem cmp2_range (x y : S47) : cmp2 x y = -1 ∨ cmp2 x y = 0 ∨ cmp2 x y = 1 := by
  unfold cmp2
  split <;> exact cmpL_range _ _
theorem cmpB_zero : ∀ a b : List S47, cmpB a b = 0 ↔ a = b
  | [], [] => by simp [cmpB]
  | [], y :: b => by simp [cmpB]
  | x :: a, [] => by simp [cmpB]
  | x :: a, y :: b => by
    rw [cmpB]
    by_cases c : cmp2 x y = 0
    · rw [if_pos c, cmpB_zero a b, (cmp2_zero x y).1 c]
      simp
    · rw [if_neg c]
      constructor
      · intro h; exact absurd h c
      · intro h; rw [List.cons.injEq] at h; rw [h.1, cmp2_self]
theorem cmpB_swap : ∀ a b : List S47, cmpB a b = - cmpB b a
  | [], [] => by simp [cmpB]
  | [], y :: b => by simp [cmpB]
  | x :: a, [] => by simp [cmpB]
  | x :: a, y :: b => by
    rw [cmpB, cmpB, cmp2_swap x y]
    by_cases c : cmp2 y x = 0
    · rw [if_pos c, if_pos (by omega), cmpB_swap a b]
    · rw [if_neg c, if_neg (by omega)]
theorem cmpB_range : ∀ a b : List S47, cmpB a b = -1 ∨ cmpB a b = 0 ∨ cmpB a b = 1
  | [], [] => by simp [cmpB]
  | [], y :: b => by simp [cmpB]
  | x :: a, [] => by simp [cmpB]
  | x :: a, y :: b => by
    rw [cmpB]
    split
    · exact cmpB_range a b
    · exact cmp2_range x y
end Go.Proofs.YtmhilolgjcfhjaaGreat.X
