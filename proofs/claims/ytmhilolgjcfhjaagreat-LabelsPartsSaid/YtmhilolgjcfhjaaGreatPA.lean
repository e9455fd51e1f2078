/- What single labels and names are: names, order, predicates. No condition beyond each theorem's own. -/
import Derived.Test.YtmhilolgjcfhjaaGreatProg
import Derived.Below
import Derived.Deep.Draws
import Derived.Deep.AppendLies
import Derived.Maps.AppendAt
import Derived.OwnWalk
import Derived.Laws.BytesArg
import Derived.Laws.MakeOwn
import Derived.Laws.OwnMore
import Derived.Deep.OwnRows
import Derived.Tactics
import Derived.Lib.ConvBytes
import Derived.Laws.Slices
import Derived.WalkKit
import Derived.KernelRfl
import Derived.RowKit3
import Derived.Deep.LoopGhost
import Derived.Deep.QuietTactic
import Derived.BigQuiet
import Derived.WideLaws
import Derived.Deep.DeepCutAuto
import Derived.Deep.CutBlock
import Derived.Deep.RegionHeld3
import Derived.Laws.Rows
import Derived.Lib.AppendStr
import Derived.ArgAppend
import Derived.Laws.IdiomCopy
import Derived.OrdersHeld
import Derived.Laws.BitsLemmas
import Derived.RowKit
import Derived.Test.YtmhilolgjcfhjaaGreatWWords
import Derived.Test.YtmhilolgjcfhjaaGreatWLast
import Derived.Test.YtmhilolgjcfhjaaGreatWTab
import Derived.Test.YtmhilolgjcfhjaaGreatWEqStruct
import Derived.Test.YtmhilolgjcfhjaaGreatWRepsOne
import Derived.Test.YtmhilolgjcfhjaaGreatWGuard
import Derived.Lib.Bytealg
import Derived.Lib.Walk
import Derived.Sort.Statements
import Derived.Sort.Lot0
import Derived.Shelf.Abstract
import Derived.WalkLawsBesides
import Derived.WalkSpells
import Derived.Test.YtmhilolgjcfhjaaGreatPW
set_option linter.unusedVariables false
set_option linter.unusedSimpArgs false

namespace Go.Proofs.YtmhilolgjcfhjaaGreat.X
open Go.RowKit Go.Proofs.YtmhilolgjcfhjaaGreatW.PrintWords Go.Proofs.YtmhilolgjcfhjaaGreatW.PrintLast Go.Proofs.YtmhilolgjcfhjaaGreatW.PrintMore
attribute [local go_sem] max2_int min2_int max_two min_two max_three min_three max_four min_four   -- for this text's walks alone
set_option linter.unusedVariables false
set_option linter.unusedSimpArgs false



def errW : Option Int → Value
  | none => .nilIface
  | some c => .iface 0 (.int .i64 c)
theorem errW_none : errW none = .nilIface := rfl
theorem errW_some (c : Int) : errW (some c) = .iface 0 (.int .i64 c) := rfl

theorem info9 : (Tryz.prog.info? 9).map (fun i => (i.zero, i.size, i.bytes)) = some (some (.string ⟨#[]⟩), 1, 16) := by kernel_rfl
theorem info35 : (Tryz.prog.info? 35).map (fun i => (i.zero, i.size, i.bytes)) = some (some (.agg #[(.string ⟨#[]⟩), (.string ⟨#[]⟩), (.string ⟨#[]⟩)]), 3, 48) := by kernel_rfl
theorem info47 : (Tryz.prog.info? 47).map (fun i => (i.zero, i.size, i.bytes)) = some (some (.agg #[(.string ⟨#[]⟩), (.string ⟨#[]⟩)]), 2, 32) := by kernel_rfl
-- the values' own types
/-! #### struct type 47 -/
structure S47 where
  f0 : ByteArray
  f1 : ByteArray
def z47 : S47 := ⟨(⟨#[]⟩ : ByteArray), (⟨#[]⟩ : ByteArray)⟩
def k47 : Kd S47 := Kd.iso (Kd.pair Kd.string Kd.string) (fun x : S47 => (x.f0, x.f1))
theorem k47_open {w : World} {x : S47} {cs : List Value} (h : k47.K w x cs) : cs = [.string x.f0, .string x.f1] := by
  obtain ⟨_, _, rfl, rfl, rfl⟩ := h
  exact rfl
theorem k47_openM {w : World} {base : Nat} {ok : Nat → Prop} {x : S47} {cs : List Value} (h : k47.M w base ok x cs) : cs = [.string x.f0, .string x.f1] := by
  obtain ⟨_, _, rfl, rfl, rfl⟩ := h
  exact rfl
theorem k47_mk (w : World) (x : S47)  : k47.K w x [.string x.f0, .string x.f1] := ⟨[.string x.f0], [.string x.f1], rfl, rfl, rfl⟩
theorem k47_mkM (w : World) (base : Nat) (ok : Nat → Prop) (x : S47)  : k47.M w base ok x [.string x.f0, .string x.f1] := ⟨[.string x.f0], [.string x.f1], rfl, rfl, rfl⟩
def rd_T47 (xs : List S47) (i : Int) : S47 := xs.getD i.toNat z47
theorem at_T47 {w : World} {A : Option Addr} {n : Nat} {xs : List S47} (h : Kd.C k47 w A n xs) (i : Int) (h0 : 0 ≤ i) (h1 : i < n) : ∃ ad , A = some ad ∧ w.cell? (ad.add (i.toNat * 2)) = some (.string (rd_T47 xs i).f0) ∧ w.cell? ⟨(ad.add (i.toNat * 2)).block, (ad.add (i.toNat * 2)).off + 1, none⟩ = some (.string (rd_T47 xs i).f1) := by
  obtain ⟨ad, c, e, _, hK, hc0⟩ := Kd.C_get h z47 i h0 h1
  have hc : ∀ j u, c[j]? = some u → w.cell? (ad.add (i.toNat * 2 + j)) = some u := hc0
  obtain rfl := k47_open hK
  exact ⟨ad, e, hc 0 _ rfl, by rw [← add_field _ _ 1 (by omega)]; exact hc 1 _ rfl⟩

/-! #### struct type 35 -/
structure S35 where
  f0 : ByteArray
  f1 : ByteArray
  f2 : ByteArray
def z35 : S35 := ⟨(⟨#[]⟩ : ByteArray), (⟨#[]⟩ : ByteArray), (⟨#[]⟩ : ByteArray)⟩
def k35 : Kd S35 := Kd.iso (Kd.pair Kd.string (Kd.pair Kd.string Kd.string)) (fun x : S35 => (x.f0, x.f1, x.f2))
theorem k35_open {w : World} {x : S35} {cs : List Value} (h : k35.K w x cs) : cs = [.string x.f0, .string x.f1, .string x.f2] := by
  obtain ⟨_, _, rfl, rfl, ⟨_, _, rfl, rfl, rfl⟩⟩ := h
  exact rfl
theorem k35_openM {w : World} {base : Nat} {ok : Nat → Prop} {x : S35} {cs : List Value} (h : k35.M w base ok x cs) : cs = [.string x.f0, .string x.f1, .string x.f2] := by
  obtain ⟨_, _, rfl, rfl, ⟨_, _, rfl, rfl, rfl⟩⟩ := h
  exact rfl
theorem k35_mk (w : World) (x : S35)  : k35.K w x [.string x.f0, .string x.f1, .string x.f2] := ⟨[.string x.f0], [.string x.f1, .string x.f2], rfl, rfl, ⟨[.string x.f1], [.string x.f2], rfl, rfl, rfl⟩⟩
theorem k35_mkM (w : World) (base : Nat) (ok : Nat → Prop) (x : S35)  : k35.M w base ok x [.string x.f0, .string x.f1, .string x.f2] := ⟨[.string x.f0], [.string x.f1, .string x.f2], rfl, rfl, ⟨[.string x.f1], [.string x.f2], rfl, rfl, rfl⟩⟩
def rd_T35 (xs : List S35) (i : Int) : S35 := xs.getD i.toNat z35
theorem at_T35 {w : World} {A : Option Addr} {n : Nat} {xs : List S35} (h : Kd.C k35 w A n xs) (i : Int) (h0 : 0 ≤ i) (h1 : i < n) : ∃ ad , A = some ad ∧ w.cell? (ad.add (i.toNat * 3)) = some (.string (rd_T35 xs i).f0) ∧ w.cell? ⟨(ad.add (i.toNat * 3)).block, (ad.add (i.toNat * 3)).off + 1, none⟩ = some (.string (rd_T35 xs i).f1) ∧ w.cell? ⟨(ad.add (i.toNat * 3)).block, (ad.add (i.toNat * 3)).off + 2, none⟩ = some (.string (rd_T35 xs i).f2) := by
  obtain ⟨ad, c, e, _, hK, hc0⟩ := Kd.C_get h z35 i h0 h1
  have hc : ∀ j u, c[j]? = some u → w.cell? (ad.add (i.toNat * 3 + j)) = some u := hc0
  obtain rfl := k35_open hK
  exact ⟨ad, e, hc 0 _ rfl, by rw [← add_field _ _ 1 (by omega)]; exact hc 1 _ rfl, by rw [← add_field _ _ 2 (by omega)]; exact hc 2 _ rfl⟩

end Go.Proofs.YtmhilolgjcfhjaaGreat.X

/- strings.Compare, and the order of labels by their names. -/
namespace Go.Proofs.YtmhilolgjcfhjaaGreat.X
open Go.RowKit Go.Proofs.YtmhilolgjcfhjaaGreatW.PrintWords Go.Proofs.YtmhilolgjcfhjaaGreatW.PrintLast Go.Proofs.YtmhilolgjcfhjaaGreatW.PrintMore

def cmpS (a b : ByteArray) : Int := Lib.compareBytes a.data.toList b.data.toList

set_option maxHeartbeats 1000000 in
set_option maxRecDepth 1000000 in
theorem compareString (a b : ByteArray) (w : World) :
    Calls Tryz.prog 70 #[.string a, .string b] w fun e w' => e = .returned (.int .i64 (cmpS a b)) ∧ w' = w := by
  go_enter Tryz.func70, Tryz.ntmps70
  go_wp2
  rw [run_callFunc_extern Tryz.func80 (by kernel_rfl) (by kernel_rfl) (by kernel_rfl) (e := Extern.BytealgCompare.compare) (by kernel_rfl), Lib.run_compareString]
  simp only [Result.andThen]
  rw [Oper.upon_value]
  go_wp2
  go_ret
  exact ⟨rfl, rfl⟩
set_option maxHeartbeats 1000000 in
theorem stringsCompare (a b : ByteArray) (w : World) :
    Calls Tryz.prog 58 #[.string a, .string b] w fun e w' => e = .returned (.int .i64 (cmpS a b)) ∧ w' = w := by
  go_enter Tryz.func58, Tryz.ntmps58
  go_wp2_with (go_at_call 70; refine (compareString _ _ _).mono ?_; rintro e w' ⟨rfl, rfl⟩)
  go_ret
  exact ⟨rfl, rfl⟩
theorem byName (x y : S47) (w : World) :
    Calls Tryz.prog 41 #[.agg #[.string x.f0, .string x.f1], .agg #[.string y.f0, .string y.f1]] w fun e w' => e = .returned (.int .i64 (cmpS x.f0 y.f0)) ∧ Below w.heap.size w w' := by
  have hu47 := Tryz.underlying47
  go_enter Tryz.func41, Tryz.ntmps41
  go_wp2_with (go_at_call 58; refine (stringsCompare _ _ _).mono ?_; rintro e w' ⟨rfl, rfl⟩)
  go_ret
  exact ⟨rfl, ((Below.refl _ w).alloc (Nat.le_refl _) _).alloc (by simp) _⟩

/-! ### the order -/
theorem cmpL_self : ∀ a : List UInt8, Lib.compareBytes a a = 0
  | [] => rfl
  | a :: la => by simp [Lib.compareBytes, cmpL_self la]
theorem cmpL_eq0 : ∀ a b : List UInt8, Lib.compareBytes a b = 0 ↔ a = b
  | [], [] => by simp [Lib.compareBytes]
  | [], b :: bs => by simp [Lib.compareBytes]
  | a :: la, [] => by simp [Lib.compareBytes]
  | a :: la, b :: bs => by
    have ih := cmpL_eq0 la bs
    unfold Lib.compareBytes
    split
    · rename_i h; simp; rintro rfl; exact absurd h (by simp)
    · split
      · rename_i h; simp; rintro rfl; exact absurd h (by simp)
      · rename_i h1 h2
        have : a = b := UInt8.le_antisymm (UInt8.not_lt.mp h2) (UInt8.not_lt.mp h1)
        simp [this, ih]
theorem cmpL_swap : ∀ a b : List UInt8, Lib.compareBytes a b = - Lib.compareBytes b a
  | [], [] => by simp [Lib.compareBytes]
  | [], b :: bs => by simp [Lib.compareBytes]
  | a :: la, [] => by simp [Lib.compareBytes]
  | a :: la, b :: bs => by
    have ih := cmpL_swap la bs
    unfold Lib.compareBytes
    by_cases h1 : a < b
    · have h2 : ¬ b < a := fun h => absurd (UInt8.lt_trans h1 h) (by simp)
      simp [h1, h2]
    · by_cases h2 : b < a
      · simp [h1, h2]
      · simp [h1, h2, ih]
theorem cmpL_range : ∀ a b : List UInt8, Lib.compareBytes a b = -1 ∨ Lib.compareBytes a b = 0 ∨ Lib.compareBytes a b = 1
  | [], [] => by simp [Lib.compareBytes]
  | [], b :: bs => by simp [Lib.compareBytes]
  | a :: la, [] => by simp [Lib.compareBytes]
  | a :: la, b :: bs => by
    have ih := cmpL_range la bs
    unfold Lib.compareBytes
    split
    · simp
    · split
      · simp
      · exact ih
theorem cmpL_trans : ∀ a b c : List UInt8, Lib.compareBytes a b ≤ 0 → Lib.compareBytes b c ≤ 0 → Lib.compareBytes a c ≤ 0 ∧ (Lib.compareBytes a c = 0 → Lib.compareBytes a b = 0 ∧ Lib.compareBytes b c = 0)
  | [], [], c => by cases c <;> simp [Lib.compareBytes]
  | [], b :: bs, [] => by simp [Lib.compareBytes]
  | [], b :: bs, c :: cs => by simp [Lib.compareBytes]
  | a :: la, [], c => by simp [Lib.compareBytes]
  | a :: la, b :: bs, [] => by simp [Lib.compareBytes]
  | a :: la, b :: bs, c :: cs => by
    have ih := cmpL_trans la bs cs
    simp only [Lib.compareBytes]
    intro h1 h2
    by_cases hab : a < b
    · by_cases hbc : b < c
      · have := UInt8.lt_trans hab hbc
        simp [this]
      · by_cases hcb : c < b
        · simp [hbc, hcb] at h2
        · have : b = c := UInt8.le_antisymm (UInt8.not_lt.mp hcb) (UInt8.not_lt.mp hbc)
          subst this
          simp [hab]
    · by_cases hba : b < a
      · simp [hab, hba] at h1
      · have : a = b := UInt8.le_antisymm (UInt8.not_lt.mp hba) (UInt8.not_lt.mp hab)
        subst this
        by_cases hbc : a < c
        · simp [hbc]
        · by_cases hcb : c < a
          · simp [hbc, hcb] at h2
          · simp only [hab, hba, hbc, hcb, if_false] at h1 h2 ⊢
            exact ih h1 h2

def ltN (x y : S47) : Bool := decide (cmpS x.f0 y.f0 < 0)
theorem ltN_true (x y : S47) : ltN x y = true ↔ cmpS x.f0 y.f0 < 0 := by unfold ltN; exact decide_eq_true_iff
theorem cmpS_swap (a b : ByteArray) : cmpS a b = - cmpS b a := cmpL_swap _ _
theorem cmpS_self (a : ByteArray) : cmpS a a = 0 := cmpL_self _
theorem cmpS_trans (a b c : ByteArray) (h1 : cmpS a b ≤ 0) (h2 : cmpS b c ≤ 0) : cmpS a c ≤ 0 ∧ (cmpS a c = 0 → cmpS a b = 0 ∧ cmpS b c = 0) := cmpL_trans _ _ _ h1 h2
theorem ltN_false (x y : S47) : ltN x y = false ↔ cmpS y.f0 x.f0 ≤ 0 := by
  have := cmpS_swap x.f0 y.f0
  unfold ltN
  rw [decide_eq_false_iff_not]
  omega
theorem ltN_swo : Go.Sort.SWO ltN where
  irrefl x := by rw [ltN_false, cmpS_self]; omega
  trans x y z h1 h2 := by
    rw [ltN_true] at *
    have h := cmpS_trans _ _ _ (Int.le_of_lt h1) (Int.le_of_lt h2)
    rcases Int.lt_or_eq_of_le h.1 with h3 | h3
    · exact h3
    · have := h.2 h3; omega
  ntrans x y z h1 h2 := by
    rw [ltN_false] at *
    exact (cmpS_trans _ _ _ h2 h1).1
theorem cmpS_eq (a b : ByteArray) : cmpS a b = 0 ↔ a = b := by
  unfold cmpS
  rw [cmpL_eq0]
  constructor
  · intro h
    cases a; cases b
    simp only [Array.toList_inj] at h
    rw [h]
  · rintro rfl; rfl
end Go.Proofs.YtmhilolgjcfhjaaGreat.X

/- A row of labels of the call's own, written in place: what is known of the world while only that row and new blocks are written. -/
namespace Go.Proofs.YtmhilolgjcfhjaaGreat.X
open Go.RowKit Go.Proofs.YtmhilolgjcfhjaaGreatW.PrintWords Go.Proofs.YtmhilolgjcfhjaaGreatW.PrintLast Go.Proofs.YtmhilolgjcfhjaaGreatW.PrintMore

instance : Inhabited S47 := ⟨z47⟩
def cs47 (x : S47) : List Value := [.string x.f0, .string x.f1]
def flat47 (l : List S47) : List Value := l.flatMap cs47
theorem flat47_length (l : List S47) : (flat47 l).length = l.length * 2 := by
  induction l with
  | nil => rfl
  | cons x l ih => simp only [flat47, List.flatMap_cons, List.length_append] at ih ⊢; rw [ih]; simp [cs47]; omega
theorem flat47_at (l : List S47) (i : Nat) (h : i < l.length) : (flat47 l)[i * 2]? = some (.string (l[i]).f0) ∧ (flat47 l)[i * 2 + 1]? = some (.string (l[i]).f1) := by
  induction l generalizing i with
  | nil => simp at h
  | cons x l ih =>
    cases i with
    | zero => exact ⟨rfl, rfl⟩
    | succ i =>
      have e : flat47 (x :: l) = .string x.f0 :: .string x.f1 :: flat47 l := rfl
      have h' : i < l.length := by simpa using h
      rw [e, show (i + 1) * 2 = i * 2 + 1 + 1 by omega]
      exact ⟨(ih i h').1, (ih i h').2⟩
theorem flat47_set (l : List S47) (i : Nat) (x : S47) (h : i < l.length) : flat47 (l.set i x) = ((flat47 l).set (i * 2) (.string x.f0)).set (i * 2 + 1) (.string x.f1) := by
  induction l generalizing i with
  | nil => simp at h
  | cons y l ih =>
    cases i with
    | zero => rfl
    | succ i =>
      have e : ∀ (y : S47) (l : List S47), flat47 (y :: l) = .string y.f0 :: .string y.f1 :: flat47 l := fun _ _ => rfl
      have h' : i < l.length := by simpa using h
      rw [List.set_cons_succ, e, e, ih i h', show (i + 1) * 2 = i * 2 + 1 + 1 by omega]
      rfl

/-- Block g holds the labels d, then tl; of what was there in w0 nothing else is written. -/
structure SRow (w0 : World) (g : Nat) (tl : List Value) (d : Array S47) (W : World) : Prop where
  os : W.os = w0.os
  tape : W.tape = w0.tape
  output : W.output = w0.output
  size : w0.heap.size ≤ W.heap.size
  block : ∀ k, k < w0.heap.size → k ≠ g → W.heap[k]? = w0.heap[k]?
  row : W.heap[g]? = some (.cells (flat47 d.toList ++ tl).toArray 47 (0, 0))
namespace SRow
variable {w0 W W' : World} {g : Nat} {tl : List Value} {d : Array S47}
theorem lt (h : SRow w0 g tl d W) : g < W.heap.size := (Array.getElem?_eq_some_iff.1 h.row).1
theorem below (h : SRow w0 g tl d W) (hb : Below W.heap.size W W') : SRow w0 g tl d W' :=
  ⟨hb.os.trans h.os, hb.tape.trans h.tape, hb.output.trans h.output, Nat.le_trans h.size hb.size, fun k hk hne => (hb.block k (Nat.lt_of_lt_of_le hk h.size)).trans (h.block k hk hne), (hb.block g h.lt).trans h.row⟩
theorem drewN (h : SRow w0 g tl d W) (n : Nat) : SRow w0 g tl d (W.drewN n) := ⟨h.os, h.tape, h.output, h.size, h.block, h.row⟩
theorem drew (h : SRow w0 g tl d W) : SRow w0 g tl d W.drew := ⟨h.os, h.tape, h.output, h.size, h.block, h.row⟩
theorem cells (h : SRow w0 g tl d W) (i : Nat) (hi : i < d.size) : W.cell? ⟨g, i * 2, none⟩ = some (.string (d[i]!).f0) ∧ W.cell? ⟨g, i * 2 + 1, none⟩ = some (.string (d[i]!).f1) := by
  have hl : i < d.toList.length := by simpa using hi
  have hf := flat47_at d.toList i hl
  have hn := flat47_length d.toList
  have e : d[i]! = d.toList[i] := by rw [getElem!_pos d i hi]; simp
  rw [e]
  simp only [World.cell?, h.row, Option.isSome_none, Bool.false_eq_true, if_false, List.getElem?_toArray]
  rw [List.getElem?_append_left (by omega), List.getElem?_append_left (by omega)]
  exact hf
theorem frozen (h : SRow w0 g tl d W) (j : Nat) : W.frozen? ⟨g, j, none⟩ = false := by
  simp [World.frozen?, h.row]
theorem store (h : SRow w0 g tl d W) (i : Nat) (hi : i < d.size) (x : S47) : SRow w0 g tl (d.setIfInBounds i x) ((W.setCell ⟨g, i * 2, none⟩ (.string x.f0)).setCell ⟨g, i * 2 + 1, none⟩ (.string x.f1)) := by
  have hl : i < d.toList.length := by simpa using hi
  have hn := flat47_length d.toList
  refine ⟨h.os, h.tape, h.output, by simpa using h.size, fun k hk hne => ?_, ?_⟩
  · rw [heap_setCell_other _ _ _ _ (by exact hne), heap_setCell_other _ _ _ _ (by exact hne)]
    exact h.block k hk hne
  · have h1 := heap_setCell_same W g (i * 2) _ 47 (.string x.f0) h.row
    have h2 := heap_setCell_same (W.setCell ⟨g, i * 2, none⟩ (.string x.f0)) g (i * 2 + 1) _ 47 (.string x.f1) h1
    rw [h2, Array.toList_setIfInBounds, flat47_set _ _ _ hl]
    congr 2
    rw [List.setIfInBounds_toArray, List.setIfInBounds_toArray, List.set_append_left _ _ (by omega), List.set_append_left _ _ (by simp; omega)]
end SRow
end Go.Proofs.YtmhilolgjcfhjaaGreat.X

/- The library's IndexFunc and ContainsFunc at labels and at matchers, over whatever predicate reads and boxes alone: the first index, or -1. -/
namespace Go.Proofs.YtmhilolgjcfhjaaGreat.X
open Go.RowKit Go.Proofs.YtmhilolgjcfhjaaGreatW.PrintWords Go.Proofs.YtmhilolgjcfhjaaGreatW.PrintLast Go.Proofs.YtmhilolgjcfhjaaGreatW.PrintMore
theorem ret_int {k : IntKind} {a b : Int} (h : a = b) : Ending.returned (.int k a) = .returned (.int k b) := by rw [h]
def enc47 (x : S47) : Value := .agg #[.string x.f0, .string x.f1]
def PB47 (g : Nat) (lb : Array Value) (p : S47 → Bool) (l : List S47) (w : World) : Prop :=
  ∀ (W : World) (x : S47), x ∈ l → Below w.heap.size w W → Calls Tryz.prog g (#[enc47 x] ++ lb) W fun e w' => e = .returned (.bool (p x)) ∧ Below w.heap.size w w'

def idxOf (p : S47 → Bool) (l : List S47) : Int := match l.findIdx? p with | some i => (i : Int) | none => -1

theorem rd47_eq (l : List S47) (i : Int) (h0 : 0 ≤ i) (h1 : i < (l.length : Int)) : rd_T47 l i = l[i.toNat]'(by omega) := by
  unfold rd_T47; rw [List.getD_eq_getElem?_getD, List.getElem?_eq_getElem (by omega)]; rfl
theorem rd47_mem (l : List S47) (i : Int) (h0 : 0 ≤ i) (h1 : i < (l.length : Int)) : rd_T47 l i ∈ l := by
  rw [rd47_eq l i h0 h1]; exact List.getElem_mem _
theorem take_succ47 (l : List S47) (i : Int) (h0 : 0 ≤ i) (h1 : i < (l.length : Int)) : l.take (i + 1).toNat = l.take i.toNat ++ [rd_T47 l i] := by
  rw [rd47_eq l i h0 h1, show (i + 1).toNat = i.toNat + 1 by omega, List.take_succ_eq_append_getElem (by omega)]
theorem idx_found (p : S47 → Bool) (l : List S47) (i : Int) (h0 : 0 ≤ i) (h1 : i < (l.length : Int)) (ha : ∀ x ∈ l.take i.toNat, p x = false) (hq : p (rd_T47 l i) = true) : i = idxOf p l := by
  unfold idxOf
  have : l.findIdx? p = some i.toNat := by
    rw [List.findIdx?_eq_some_iff_getElem]
    refine ⟨by omega, by rw [← rd47_eq l i h0 h1]; exact hq, fun j hj => ?_⟩
    have := ha (l[j]'(by omega)) (by rw [List.mem_take_iff_getElem]; exact ⟨j, by omega, rfl⟩)
    simp [this]
  rw [this]; simp; omega
theorem idx_none (p : S47 → Bool) (l : List S47) (i : Int) (h1 : ¬ i < (l.length : Int)) (ha : ∀ x ∈ l.take i.toNat, p x = false) : (-1 : Int) = idxOf p l := by
  unfold idxOf
  have : l.findIdx? p = none := by
    rw [List.findIdx?_eq_none_iff]
    intro x hx
    exact ha x (by rw [List.take_of_length_le (by omega)]; exact hx)
  rw [this]

theorem idx47 (p : S47 → Bool) (g : Nat) (lb : Array Value) (eg : ∀ args w, (callFunc g args).run Tryz.prog w = .ok (.enter g args) w) (A : Option Addr) (c : Nat) (l : List S47) (w : World)
    (hr : Kd.C k47 w A l.length l) (hc : l.length ≤ c) (hm : l.length ≤ 4611686018427387904) (hp : PB47 g lb p l w) :
    Calls Tryz.prog 51 #[.slice A l.length c, .func (.func g) #[] lb] w fun e w' => e = .returned (.int .i64 (idxOf p l)) ∧ Below w.heap.size w w' := by
  have hu47 := Tryz.underlying47
  have HR := Aside0.mk hr
  have HC := Aside0.mk hc
  have HP := Aside0.mk hp
  clear hr hc hp
  go_enter Tryz.func51, Tryz.ntmps51
  go_wp2
  go_loopg [5, 8] l.length (fun gg _ s8 wr => ∃ i : Int, s8 = .int .i64 i ∧ 0 ≤ i ∧ i ≤ l.length ∧ Aside0 ((l.length - i).toNat ≤ gg) ∧ Aside0 (Below w.heap.size w wr) ∧ Aside0 (∀ x ∈ l.take i.toNat, p x = false))
  case atStart => exact ⟨0, rfl, by omega, by omega, ⟨by omega⟩, ⟨Below.refl _ w⟩, ⟨by simp⟩⟩
  case round =>
    obtain ⟨i, rfl, h0, hi, HG, HB, HA⟩ := hrel
    by_cases hlt : i < (l.length : Int)
    · obtain ⟨ad, e, hx0, hx1⟩ := at_T47 (Kd.C_below HR.out HB.out) i h0 hlt
      cases e
      have hmem := rd47_mem l i h0 hlt
      have htk := take_succ47 l i h0 hlt
      have hcall := HP.out wr (rd_T47 l i) hmem HB.out
      have HF := idx_found p l i h0 hlt
      cases hq : p (rd_T47 l i) with
      | true =>
        rw [hq] at hcall
        have HQ := Aside0.mk hq
        clear hq
        have HT := Aside0.mk htk
        have HFF := Aside0.mk HF
        clear htk HF
        go_wp2_with (go_at_fn g; refine hcall.mono ?_; rintro e w' ⟨rfl, hb'⟩)
        go_ret
        exact ⟨ret_int (HFF.out HA.out HQ.out), hb'⟩
      | false =>
        rw [hq] at hcall
        have HQ := Aside0.mk hq
        clear hq
        have HT := Aside0.mk htk
        clear htk HF
        go_wp2_with (go_at_fn g; refine hcall.mono ?_; rintro e w' ⟨rfl, hb'⟩)
        have hG := HG.out
        go_roundg (l.length - (i + 1)).toNat
        case measure => omega
        case rel => exact ⟨i + 1, by go_num, by omega, by omega, ⟨Nat.le_refl _⟩, ⟨hb'⟩, ⟨by rw [HT.out]; intro x hx; rcases List.mem_append.1 hx with hx | hx; exact HA.out x hx; rw [List.mem_singleton.1 hx]; exact HQ.out⟩⟩
    · have hle : ¬ i < (l.length : Int) := hlt
      go_wp2
      go_ret
      exact ⟨ret_int (idx_none p l i (by omega) HA.out), HB.out⟩

theorem idxOf_nonneg (p : S47 → Bool) (l : List S47) : decide (0 ≤ idxOf p l) = l.any p := by
  unfold idxOf
  cases h : l.findIdx? p with
  | none => rw [List.findIdx?_eq_none_iff] at h; simp; exact fun x hx => by simpa using h x hx
  | some i =>
    rw [List.findIdx?_eq_some_iff_getElem] at h
    obtain ⟨h1, h2, _⟩ := h
    simp
    exact ⟨_, List.getElem_mem h1, h2⟩
theorem contains47 (p : S47 → Bool) (g : Nat) (lb : Array Value) (eg : ∀ args w, (callFunc g args).run Tryz.prog w = .ok (.enter g args) w) (A : Option Addr) (c : Nat) (l : List S47) (w : World)
    (hr : Kd.C k47 w A l.length l) (hc : l.length ≤ c) (hm : l.length ≤ 4611686018427387904) (hp : PB47 g lb p l w) :
    Calls Tryz.prog 36 #[.slice A l.length c, .func (.func g) #[] lb] w fun e w' => e = .returned (.bool (l.any p)) ∧ Below w.heap.size w w' := by
  have hcon := idx47 p g lb eg A c l w hr hc hm hp
  have HN := Aside0.mk (idxOf_nonneg p l)
  clear hr hp
  generalize idxOf p l = r at hcon HN
  go_enter Tryz.func36, Tryz.ntmps36
  go_wp2_with (go_at_call 51; refine hcon.mono ?_; rintro e w' ⟨rfl, hb'⟩)
  go_ret
  exact ⟨by rw [← HN.out]; rfl, hb'⟩
def enc35 (x : S35) : Value := .agg #[.string x.f0, .string x.f1, .string x.f2]
def PB35 (g : Nat) (lb : Array Value) (p : S35 → Bool) (l : List S35) (w : World) : Prop :=
  ∀ (W : World) (x : S35), x ∈ l → Below w.heap.size w W → Calls Tryz.prog g (#[enc35 x] ++ lb) W fun e w' => e = .returned (.bool (p x)) ∧ Below w.heap.size w w'

def idxOf35 (p : S35 → Bool) (l : List S35) : Int := match l.findIdx? p with | some i => (i : Int) | none => -1

theorem rd35_eq (l : List S35) (i : Int) (h0 : 0 ≤ i) (h1 : i < (l.length : Int)) : rd_T35 l i = l[i.toNat]'(by omega) := by
  unfold rd_T35; rw [List.getD_eq_getElem?_getD, List.getElem?_eq_getElem (by omega)]; rfl
theorem rd35_mem (l : List S35) (i : Int) (h0 : 0 ≤ i) (h1 : i < (l.length : Int)) : rd_T35 l i ∈ l := by
  rw [rd35_eq l i h0 h1]; exact List.getElem_mem _
theorem take_succ35 (l : List S35) (i : Int) (h0 : 0 ≤ i) (h1 : i < (l.length : Int)) : l.take (i + 1).toNat = l.take i.toNat ++ [rd_T35 l i] := by
  rw [rd35_eq l i h0 h1, show (i + 1).toNat = i.toNat + 1 by omega, List.take_succ_eq_append_getElem (by omega)]
theorem idx_found35 (p : S35 → Bool) (l : List S35) (i : Int) (h0 : 0 ≤ i) (h1 : i < (l.length : Int)) (ha : ∀ x ∈ l.take i.toNat, p x = false) (hq : p (rd_T35 l i) = true) : i = idxOf35 p l := by
  unfold idxOf35
  have : l.findIdx? p = some i.toNat := by
    rw [List.findIdx?_eq_some_iff_getElem]
    refine ⟨by omega, by rw [← rd35_eq l i h0 h1]; exact hq, fun j hj => ?_⟩
    have := ha (l[j]'(by omega)) (by rw [List.mem_take_iff_getElem]; exact ⟨j, by omega, rfl⟩)
    simp [this]
  rw [this]; simp; omega
theorem idx_none35 (p : S35 → Bool) (l : List S35) (i : Int) (h1 : ¬ i < (l.length : Int)) (ha : ∀ x ∈ l.take i.toNat, p x = false) : (-1 : Int) = idxOf35 p l := by
  unfold idxOf35
  have : l.findIdx? p = none := by
    rw [List.findIdx?_eq_none_iff]
    intro x hx
    exact ha x (by rw [List.take_of_length_le (by omega)]; exact hx)
  rw [this]

theorem idx35 (p : S35 → Bool) (g : Nat) (lb : Array Value) (eg : ∀ args w, (callFunc g args).run Tryz.prog w = .ok (.enter g args) w) (A : Option Addr) (c : Nat) (l : List S35) (w : World)
    (hr : Kd.C k35 w A l.length l) (hc : l.length ≤ c) (hm : l.length ≤ 4611686018427387904) (hp : PB35 g lb p l w) :
    Calls Tryz.prog 63 #[.slice A l.length c, .func (.func g) #[] lb] w fun e w' => e = .returned (.int .i64 (idxOf35 p l)) ∧ Below w.heap.size w w' := by
  have hu35 := Tryz.underlying35
  have HR := Aside0.mk hr
  have HC := Aside0.mk hc
  have HP := Aside0.mk hp
  clear hr hc hp
  go_enter Tryz.func63, Tryz.ntmps63
  go_wp2
  go_loopg [5, 8] l.length (fun gg _ s8 wr => ∃ i : Int, s8 = .int .i64 i ∧ 0 ≤ i ∧ i ≤ l.length ∧ Aside0 ((l.length - i).toNat ≤ gg) ∧ Aside0 (Below w.heap.size w wr) ∧ Aside0 (∀ x ∈ l.take i.toNat, p x = false))
  case atStart => exact ⟨0, rfl, by omega, by omega, ⟨by omega⟩, ⟨Below.refl _ w⟩, ⟨by simp⟩⟩
  case round =>
    obtain ⟨i, rfl, h0, hi, HG, HB, HA⟩ := hrel
    by_cases hlt : i < (l.length : Int)
    · obtain ⟨ad, e, hx0, hx1, hx2⟩ := at_T35 (Kd.C_below HR.out HB.out) i h0 hlt
      cases e
      have hmem := rd35_mem l i h0 hlt
      have htk := take_succ35 l i h0 hlt
      have hcall := HP.out wr (rd_T35 l i) hmem HB.out
      have HF := idx_found35 p l i h0 hlt
      cases hq : p (rd_T35 l i) with
      | true =>
        rw [hq] at hcall
        have HQ := Aside0.mk hq
        clear hq
        have HT := Aside0.mk htk
        have HFF := Aside0.mk HF
        clear htk HF
        go_wp2_with (go_at_fn g; refine hcall.mono ?_; rintro e w' ⟨rfl, hb'⟩)
        go_ret
        exact ⟨ret_int (HFF.out HA.out HQ.out), hb'⟩
      | false =>
        rw [hq] at hcall
        have HQ := Aside0.mk hq
        clear hq
        have HT := Aside0.mk htk
        clear htk HF
        go_wp2_with (go_at_fn g; refine hcall.mono ?_; rintro e w' ⟨rfl, hb'⟩)
        have hG := HG.out
        go_roundg (l.length - (i + 1)).toNat
        case measure => omega
        case rel => exact ⟨i + 1, by go_num, by omega, by omega, ⟨Nat.le_refl _⟩, ⟨hb'⟩, ⟨by rw [HT.out]; intro x hx; rcases List.mem_append.1 hx with hx | hx; exact HA.out x hx; rw [List.mem_singleton.1 hx]; exact HQ.out⟩⟩
    · have hle : ¬ i < (l.length : Int) := hlt
      go_wp2
      go_ret
      exact ⟨ret_int (idx_none35 p l i (by omega) HA.out), HB.out⟩

theorem idxOf35_nonneg (p : S35 → Bool) (l : List S35) : decide (0 ≤ idxOf35 p l) = l.any p := by
  unfold idxOf35
  cases h : l.findIdx? p with
  | none => rw [List.findIdx?_eq_none_iff] at h; simp; exact fun x hx => by simpa using h x hx
  | some i =>
    rw [List.findIdx?_eq_some_iff_getElem] at h
    obtain ⟨h1, h2, _⟩ := h
    simp
    exact ⟨_, List.getElem_mem h1, h2⟩
theorem contains35 (p : S35 → Bool) (g : Nat) (lb : Array Value) (eg : ∀ args w, (callFunc g args).run Tryz.prog w = .ok (.enter g args) w) (A : Option Addr) (c : Nat) (l : List S35) (w : World)
    (hr : Kd.C k35 w A l.length l) (hc : l.length ≤ c) (hm : l.length ≤ 4611686018427387904) (hp : PB35 g lb p l w) :
    Calls Tryz.prog 45 #[.slice A l.length c, .func (.func g) #[] lb] w fun e w' => e = .returned (.bool (l.any p)) ∧ Below w.heap.size w w' := by
  have hcon := idx35 p g lb eg A c l w hr hc hm hp
  have HN := Aside0.mk (idxOf35_nonneg p l)
  clear hr hp
  generalize idxOf35 p l = r at hcon HN
  go_enter Tryz.func45, Tryz.ntmps45
  go_wp2_with (go_at_call 63; refine hcon.mono ?_; rintro e w' ⟨rfl, hb'⟩)
  go_ret
  exact ⟨by rw [← HN.out]; rfl, hb'⟩
end Go.Proofs.YtmhilolgjcfhjaaGreat.X

/- The document's order of two texts is the library's. -/
namespace Go.Proofs.YtmhilolgjcfhjaaGreat.X
open Go.RowKit Go.Proofs.YtmhilolgjcfhjaaGreatW.PrintWords Go.Proofs.YtmhilolgjcfhjaaGreatW.PrintLast Go.Proofs.YtmhilolgjcfhjaaGreatW.PrintMore
theorem less_cmp : ∀ a b : List UInt8, Op.bytesLess a b = decide (Lib.compareBytes a b < 0)
  | [], [] => by simp [Op.bytesLess, Lib.compareBytes]
  | [], b :: bs => by simp [Op.bytesLess, Lib.compareBytes]
  | a :: la, [] => by simp [Op.bytesLess, Lib.compareBytes]
  | a :: la, b :: bs => by
    have ih := less_cmp la bs
    unfold Op.bytesLess Lib.compareBytes
    by_cases h1 : a < b
    · simp [h1]
    · by_cases h2 : b < a
      · have : (a == b) = false := by rw [beq_eq_false_iff_ne]; rintro rfl; exact absurd h2 h1
        simp [h1, h2, this]
      · have : a = b := UInt8.le_antisymm (UInt8.not_lt.mp h2) (UInt8.not_lt.mp h1)
        subst this
        simp [ih]
theorem less_cmpS (a b : ByteArray) : Op.bytesLess a.toList b.toList = decide (cmpS a b < 0) := by
  rw [less_cmp, ByteArray.toList_eq, ByteArray.toList_eq]; rfl
theorem eqL_cmpS (a b : ByteArray) : (a.toList == b.toList) = decide (cmpS a b = 0) := by
  rw [ByteArray.toList_eq, ByteArray.toList_eq]
  by_cases h : cmpS a b = 0
  · rw [decide_eq_true h, (cmpS_eq a b).1 h]; simp
  · rw [decide_eq_false h, beq_eq_false_iff_ne]
    intro e
    exact h ((cmpS_eq a b).2 (Go.WideShapes.bytes_inj e))
def klaxonref09_order.f (a0 a1 : ByteArray) : Option Int := some (cmpS a0 a1)
theorem klaxonref09_order.calls (a0 : ByteArray) (a1 : ByteArray) (r : Int) (w : World) (h : klaxonref09_order.f a0 a1 = some r) :
    Calls Tryz.prog 60 #[.string a0, .string a1] w fun e w' => e = .returned (.int .i64 r) ∧ Drawn0 w w' := by
  have HH := Aside0.mk (Option.some.inj h)
  have h1 := less_cmpS a0 a1
  have h2 := eqL_cmpS a0 a1
  have h4 := cmpL_range a0.data.toList a1.data.toList
  have h5 : cmpS a0 a1 = -1 ∨ cmpS a0 a1 = 0 ∨ cmpS a0 a1 = 1 := h4
  clear h h4
  rcases h5 with h5 | h5 | h5
  · rw [decide_eq_true (by omega)] at h1
    have H5 := Aside0.mk h5
    clear h2 h5
    go_enter Tryz.func60, Tryz.ntmps60
    go_wp2
    go_ret
    exact ⟨by rw [← HH.out, H5.out]; rfl, Drawn0.refl _⟩
  · rw [decide_eq_false (by omega)] at h1
    rw [decide_eq_true (by omega)] at h2
    have H5 := Aside0.mk h5
    clear h5
    go_enter Tryz.func60, Tryz.ntmps60
    go_wp2
    go_ret
    exact ⟨by rw [← HH.out, H5.out]; rfl, Drawn0.refl _⟩
  · rw [decide_eq_false (by omega)] at h1
    rw [decide_eq_false (by omega)] at h2
    have H5 := Aside0.mk h5
    clear h5
    go_enter Tryz.func60, Tryz.ntmps60
    go_wp2
    go_ret
    exact ⟨by rw [← HH.out, H5.out]; rfl, Drawn0.refl _⟩
end Go.Proofs.YtmhilolgjcfhjaaGreat.X

namespace Go.Proofs.YtmhilolgjcfhjaaGreat.X
open Go.RowKit Go.Proofs.YtmhilolgjcfhjaaGreatW.PrintWords Go.Proofs.YtmhilolgjcfhjaaGreatW.PrintLast Go.Proofs.YtmhilolgjcfhjaaGreatW.PrintMore
attribute [local go_sem] max2_int min2_int max_two min_two max_three min_three max_four min_four   -- for this text's walks alone
set_option linter.unusedVariables false
set_option linter.unusedSimpArgs false

/-! ### labels_nameOK: function 38 -/
mutual
def labels_nameOK.l0 : Nat → ByteArray → Int → Int → Option (Bool)
  | 0, _, _, _ => none
  | k + 1, x0, x6, x7 => if x7 < x6 then (if 0 ≤ x7 then (if x7 < (x0.size : Int) then (if (bt x0 x7) ≥ 97 then (labels_nameOK.j1 k x0 x7 (bt x0 x7) x6 x7 (decide ((bt x0 x7) ≤ 122))) else (labels_nameOK.j1 k x0 x7 (bt x0 x7) x6 x7 false)) else (none)) else (none)) else (if x0.toList = ([] : List UInt8) then (some false) else (some (decide ((x0.size : Int) ≤ 64))))
def labels_nameOK.j1 : Nat → ByteArray → Int → Int → Int → Int → Bool → Option (Bool)
  | 0, _, _, _, _, _, _ => none
  | k + 1, x0, x3, x4, x6, x7, x13 => if x13 = true then (labels_nameOK.l0 k x0 x6 (wrap64 (x7 + 1))) else (if x4 ≥ 65 then (labels_nameOK.j2 k x0 x3 x4 x6 x7 (decide (x4 ≤ 90))) else (labels_nameOK.j2 k x0 x3 x4 x6 x7 false))
def labels_nameOK.j2 : Nat → ByteArray → Int → Int → Int → Int → Bool → Option (Bool)
  | 0, _, _, _, _, _, _ => none
  | k + 1, x0, x3, x4, x6, x7, x13 => if x13 = true then (labels_nameOK.l0 k x0 x6 (wrap64 (x7 + 1))) else (if x4 = 95 then (labels_nameOK.l0 k x0 x6 (wrap64 (x7 + 1))) else (if x3 > 0 then (if x4 ≥ 48 then (if x4 ≤ 57 then (labels_nameOK.l0 k x0 x6 (wrap64 (x7 + 1))) else (some false)) else (some false)) else (some false)))
end
def labels_nameOK.f (k : Nat) (a0 : ByteArray) : Option (Bool) := labels_nameOK.l0 k a0 (a0.size : Int) 0
theorem labels_nameOK.mono_l : ∀ k, (∀ y0 y1 y2, LeO (labels_nameOK.l0 k y0 y1 y2) (labels_nameOK.l0 (k + 1) y0 y1 y2)) ∧ (∀ y0 y1 y2 y3 y4 y5, LeO (labels_nameOK.j1 k y0 y1 y2 y3 y4 y5) (labels_nameOK.j1 (k + 1) y0 y1 y2 y3 y4 y5)) ∧ (∀ y0 y1 y2 y3 y4 y5, LeO (labels_nameOK.j2 k y0 y1 y2 y3 y4 y5) (labels_nameOK.j2 (k + 1) y0 y1 y2 y3 y4 y5))
  | 0 => ⟨fun _ _ _ r h => by simp [labels_nameOK.l0] at h, fun _ _ _ _ _ _ r h => by simp [labels_nameOK.j1] at h, fun _ _ _ _ _ _ r h => by simp [labels_nameOK.j2] at h⟩
  | k + 1 => by
    obtain ⟨ih0, ih1, ih2⟩ := labels_nameOK.mono_l k
    refine ⟨?_, ?_, ?_⟩
    · intro y0 y1 y2
      unfold labels_nameOK.l0
      repeat' first
      | (with_reducible exact ih0 _ _ _)
      | (with_reducible exact ih1 _ _ _ _ _ _)
      | (with_reducible exact ih2 _ _ _ _ _ _)
      | (with_reducible exact LeO.refl _)
      | (with_reducible exact LeO.none _)
      | (with_reducible refine LeO.ite ?_ ?_)
      | (with_reducible refine LeO.bind ?_ (fun _ => ?_))
      | exact ih0 _ _ _
      | exact ih1 _ _ _ _ _ _
      | exact ih2 _ _ _ _ _ _
      | exact LeO.none _
      | refine LeO.ite ?_ ?_
      | refine LeO.bind ?_ (fun _ => ?_)
    · intro y0 y1 y2 y3 y4 y5
      unfold labels_nameOK.j1
      repeat' first
      | (with_reducible exact ih0 _ _ _)
      | (with_reducible exact ih1 _ _ _ _ _ _)
      | (with_reducible exact ih2 _ _ _ _ _ _)
      | (with_reducible exact LeO.refl _)
      | (with_reducible exact LeO.none _)
      | (with_reducible refine LeO.ite ?_ ?_)
      | (with_reducible refine LeO.bind ?_ (fun _ => ?_))
      | exact ih0 _ _ _
      | exact ih1 _ _ _ _ _ _
      | exact ih2 _ _ _ _ _ _
      | exact LeO.none _
      | refine LeO.ite ?_ ?_
      | refine LeO.bind ?_ (fun _ => ?_)
    · intro y0 y1 y2 y3 y4 y5
      unfold labels_nameOK.j2
      repeat' first
      | (with_reducible exact ih0 _ _ _)
      | (with_reducible exact ih1 _ _ _ _ _ _)
      | (with_reducible exact ih2 _ _ _ _ _ _)
      | (with_reducible exact LeO.refl _)
      | (with_reducible exact LeO.none _)
      | (with_reducible refine LeO.ite ?_ ?_)
      | (with_reducible refine LeO.bind ?_ (fun _ => ?_))
      | exact ih0 _ _ _
      | exact ih1 _ _ _ _ _ _
      | exact ih2 _ _ _ _ _ _
      | exact LeO.none _
      | refine LeO.ite ?_ ?_
      | refine LeO.bind ?_ (fun _ => ?_)
theorem labels_nameOK.mono : ∀ a0 k, LeO (labels_nameOK.f k a0) (labels_nameOK.f (k + 1) a0) := by
  intro a0 k
  obtain ⟨ih0, ih1, ih2⟩ := labels_nameOK.mono_l k
  unfold labels_nameOK.f
  repeat' first
      | (with_reducible exact ih0 _ _ _)
      | (with_reducible exact ih1 _ _ _ _ _ _)
      | (with_reducible exact ih2 _ _ _ _ _ _)
      | (with_reducible exact LeO.refl _)
      | (with_reducible exact LeO.none _)
      | (with_reducible refine LeO.ite ?_ ?_)
      | (with_reducible refine LeO.bind ?_ (fun _ => ?_))
      | exact ih0 _ _ _
      | exact ih1 _ _ _ _ _ _
      | exact ih2 _ _ _ _ _ _
      | exact LeO.none _
      | refine LeO.ite ?_ ?_
      | refine LeO.bind ?_ (fun _ => ?_)
set_option maxHeartbeats 8000000 in
set_option maxRecDepth 100000 in
theorem labels_nameOK.calls (k : Nat) (a0 : ByteArray) (r : Bool) (w : World) (h : labels_nameOK.f k a0 = some r) :
    Calls Tryz.prog 38 #[.string a0] w fun e w' => e = .returned (.bool r) ∧ Drawn0 w w' := by
  have H : (labels_nameOK.l0 k a0 (a0.size : Int) 0) = some r := h
  clear h
  have H' := Aside0.mk H
  clear H
  go_enter Tryz.func38, Tryz.ntmps38
  go_wp2
  go_loopg [7] k (fun kq v7 w' => ∃ (x7_1 : Int), v7 = .int .i64 x7_1 ∧ Aside0 (labels_nameOK.l0 kq a0 (a0.size : Int) x7_1 = some r) ∧ Aside0 (kq ≤ k) ∧ Drawn0 w w')
  case atStart => exact ⟨(0), (by first | rfl | (simp; done) | (simp [*]; done)), H', ⟨Nat.le_refl _⟩, by repeat (first | exact Drawn0.refl _ | apply Drawn0.step)⟩
  case round =>
    clear H'
    obtain ⟨x7_1, rfl, HA, HK1, ⟨m1, rfl⟩⟩ := hrel
    cases gk with
    | zero => exact absurd HA.out (by simp [labels_nameOK.l0])
    | succ k1 =>
      have H := HA.out
      clear HA
      simp only [labels_nameOK.l0] at H
      by_cases c2 : x7_1 < (a0.size : Int)
      · rw [if_pos c2] at H
        have c2b0 : decide (x7_1 < (a0.size : Int)) = true := decide_eq_true c2
        clear c2
        by_cases c3 : 0 ≤ x7_1
        · rw [if_pos c3] at H
          have c3b0 : decide (0 ≤ x7_1) = true := decide_eq_true c3
          clear c3
          by_cases c4 : x7_1 < (a0.size : Int)
          · rw [if_pos c4] at H
            have c4b0 : decide (x7_1 < (a0.size : Int)) = true := decide_eq_true c4
            clear c4
            have HC6 := Aside0.mk H
            clear H
            have p5 : 0 ≤ (x7_1 : Int) := of_decide_eq_true (by first | (with_reducible assumption) | assumption)
            have q5 : x7_1 < (a0.size : Int) := of_decide_eq_true (by first | (with_reducible assumption) | assumption)
            have hx5 := bt_at a0 x7_1
            replace p5 := eq_true p5
            replace q5 := eq_true q5
            go_upto_region 6 with (fail)
            go_cut [13] (fun v13 wc => ∃ (kq : Nat) (x13_5 : Bool), v13 = .bool x13_5 ∧ Aside0 (labels_nameOK.j1 kq a0 x7_1 (bt a0 x7_1) (a0.size : Int) x7_1 x13_5 = some r) ∧ Aside0 (kq ≤ k1) ∧ Drawn0 w wc)
            case first =>
              have H := HC6.out
              clear HC6
              by_cases c7 : (bt a0 x7_1) ≥ 97
              · rw [if_pos c7] at H
                have c7b0 : decide (97 ≤ (bt a0 x7_1)) = true := decide_eq_true c7
                clear c7
                (first | rw [c7b0] | (simp only [i64_w, i32_w]; rw [c7b0]) | skip)
                have H' := Aside0.mk H
                clear H
                go_wp2
                go_meet
                case rel => exact ⟨_, (decide ((bt a0 x7_1) ≤ 122)), (by first | rfl | (simp; done) | (simp [*]; done)), H', ⟨by have := HK1.out; first | omega | exact Nat.le_refl _⟩, by repeat (first | exact Drawn0.refl _ | apply Drawn0.step)⟩
              · rw [if_neg c7] at H
                have c7b0 : decide (97 ≤ (bt a0 x7_1)) = false := decide_eq_false c7
                clear c7
                (first | rw [c7b0] | (simp only [i64_w, i32_w]; rw [c7b0]) | skip)
                have H' := Aside0.mk H
                clear H
                go_wp2
                go_meet
                case rel => exact ⟨_, (false), (by first | rfl | (simp; done) | (simp [*]; done)), H', ⟨by have := HK1.out; first | omega | exact Nat.le_refl _⟩, by repeat (first | exact Drawn0.refl _ | apply Drawn0.step)⟩
            case rest =>
              clear HC6
              try clear c2
              try clear c2b0
              try clear p2
              try clear c3
              try clear c3b0
              try clear c4
              try clear c4b0
              try clear p5
              try clear q5
              try clear hx5
              try clear c7
              try clear c7b0
              try clear p5
              try clear q5
              obtain ⟨kq, x13_5, rfl, HA, HJ5, ⟨mc5, rfl⟩⟩ := hcut
              cases kq with
              | zero => exact absurd HA.out (by simp [labels_nameOK.j1])
              | succ kj5 =>
                have H := HA.out
                clear HA
                simp only [labels_nameOK.j1] at H
                by_cases c8 : x13_5 = true
                · subst c8
                  have H1 : (labels_nameOK.l0 kj5 a0 (a0.size : Int) (wrap64 (x7_1 + 1))) = some r := by rw [if_pos rfl] at H; exact H
                  clear H
                  have H := H1
                  clear H1
                  have H' := Aside0.mk H
                  clear H
                  go_wp2
                  go_roundg kj5
                  case measure => have := HK1.out; have := HJ5.out; omega
                  case rel => exact ⟨(wrap64 (x7_1 + 1)), (by first | rfl | (simp; done) | (simp [*]; done)), H', ⟨by have := HK1.out; have := HJ5.out; omega⟩, by repeat (first | exact Drawn0.refl _ | apply Drawn0.step)⟩
                · replace c8 := Bool.eq_false_iff.mpr c8
                  subst c8
                  have H1 : (if (bt a0 x7_1) ≥ 65 then (labels_nameOK.j2 kj5 a0 x7_1 (bt a0 x7_1) (a0.size : Int) x7_1 (decide ((bt a0 x7_1) ≤ 90))) else (labels_nameOK.j2 kj5 a0 x7_1 (bt a0 x7_1) (a0.size : Int) x7_1 false)) = some r := by rw [if_neg (show ¬ (false = true) by decide)] at H; exact H
                  clear H
                  have H := H1
                  clear H1
                  have HC9 := Aside0.mk H
                  clear H
                  go_upto_region 7 with (fail)
                  go_cut [13] (fun v13 wc => ∃ (kq : Nat) (x13_8 : Bool), v13 = .bool x13_8 ∧ Aside0 (labels_nameOK.j2 kq a0 x7_1 (bt a0 x7_1) (a0.size : Int) x7_1 x13_8 = some r) ∧ Aside0 (kq ≤ kj5) ∧ Drawn0 w wc)
                  case first =>
                    have H := HC9.out
                    clear HC9
                    by_cases c10 : (bt a0 x7_1) ≥ 65
                    · rw [if_pos c10] at H
                      have c10b0 : decide (65 ≤ (bt a0 x7_1)) = true := decide_eq_true c10
                      clear c10
                      (first | rw [c10b0] | (simp only [i64_w, i32_w]; rw [c10b0]) | skip)
                      have H' := Aside0.mk H
                      clear H
                      go_wp2
                      go_meet
                      case rel => exact ⟨_, (decide ((bt a0 x7_1) ≤ 90)), (by first | rfl | (simp; done) | (simp [*]; done)), H', ⟨by have := HK1.out; have := HJ5.out; first | omega | exact Nat.le_refl _⟩, by repeat (first | exact Drawn0.refl _ | apply Drawn0.step)⟩
                    · rw [if_neg c10] at H
                      have c10b0 : decide (65 ≤ (bt a0 x7_1)) = false := decide_eq_false c10
                      clear c10
                      (first | rw [c10b0] | (simp only [i64_w, i32_w]; rw [c10b0]) | skip)
                      have H' := Aside0.mk H
                      clear H
                      go_wp2
                      go_meet
                      case rel => exact ⟨_, (false), (by first | rfl | (simp; done) | (simp [*]; done)), H', ⟨by have := HK1.out; have := HJ5.out; first | omega | exact Nat.le_refl _⟩, by repeat (first | exact Drawn0.refl _ | apply Drawn0.step)⟩
                  case rest =>
                    clear HC9
                    try clear c1
                    try clear c2
                    try clear c2b0
                    try clear p2
                    try clear c3
                    try clear c3b0
                    try clear c4
                    try clear c4b0
                    try clear c5
                    try clear p5
                    try clear q5
                    try clear hx5
                    try clear p6
                    try clear c7
                    try clear c7b0
                    try clear c8
                    try clear c10
                    try clear c10b0
                    try clear p2
                    try clear p5
                    try clear q5
                    obtain ⟨kq, x13_8, rfl, HA, HJ8, ⟨mc8, rfl⟩⟩ := hcut
                    cases kq with
                    | zero => exact absurd HA.out (by simp [labels_nameOK.j2])
                    | succ kj8 =>
                      have H := HA.out
                      clear HA
                      simp only [labels_nameOK.j2] at H
                      by_cases c11 : x13_8 = true
                      · subst c11
                        have H1 : (labels_nameOK.l0 kj8 a0 (a0.size : Int) (wrap64 (x7_1 + 1))) = some r := by rw [if_pos rfl] at H; exact H
                        clear H
                        have H := H1
                        clear H1
                        have H' := Aside0.mk H
                        clear H
                        go_wp2
                        go_roundg kj8
                        case measure => have := HK1.out; have := HJ5.out; have := HJ8.out; omega
                        case rel => exact ⟨(wrap64 (x7_1 + 1)), (by first | rfl | (simp; done) | (simp [*]; done)), H', ⟨by have := HK1.out; have := HJ5.out; have := HJ8.out; omega⟩, by repeat (first | exact Drawn0.refl _ | apply Drawn0.step)⟩
                      · replace c11 := Bool.eq_false_iff.mpr c11
                        subst c11
                        have H1 : (if (bt a0 x7_1) = 95 then (labels_nameOK.l0 kj8 a0 (a0.size : Int) (wrap64 (x7_1 + 1))) else (if x7_1 > 0 then (if (bt a0 x7_1) ≥ 48 then (if (bt a0 x7_1) ≤ 57 then (labels_nameOK.l0 kj8 a0 (a0.size : Int) (wrap64 (x7_1 + 1))) else (some false)) else (some false)) else (some false))) = some r := by rw [if_neg (show ¬ (false = true) by decide)] at H; exact H
                        clear H
                        have H := H1
                        clear H1
                        by_cases c12 : (bt a0 x7_1) = 95
                        · rw [if_pos c12] at H
                          have c12b0 : ((bt a0 x7_1) == 95) = true := beq_iff_eq.mpr c12
                          have c12b1 : ((bt a0 x7_1) != 95) = false := bne_eq_false_iff_eq.mpr c12
                          clear c12
                          have H' := Aside0.mk H
                          clear H
                          go_wp2
                          go_roundg kj8
                          case measure => have := HK1.out; have := HJ5.out; have := HJ8.out; omega
                          case rel => exact ⟨(wrap64 (x7_1 + 1)), (by first | rfl | (simp; done) | (simp [*]; done)), H', ⟨by have := HK1.out; have := HJ5.out; have := HJ8.out; omega⟩, by repeat (first | exact Drawn0.refl _ | apply Drawn0.step)⟩
                        · rw [if_neg c12] at H
                          have c12b0 : ((bt a0 x7_1) == 95) = false := beq_eq_false_iff_ne.mpr c12
                          have c12b1 : ((bt a0 x7_1) != 95) = true := bne_iff_ne.mpr c12
                          by_cases c13 : x7_1 > 0
                          · rw [if_pos c13] at H
                            have c13b0 : decide (0 < x7_1) = true := decide_eq_true c13
                            clear c13
                            by_cases c14 : (bt a0 x7_1) ≥ 48
                            · rw [if_pos c14] at H
                              have c14b0 : decide (48 ≤ (bt a0 x7_1)) = true := decide_eq_true c14
                              clear c14
                              by_cases c15 : (bt a0 x7_1) ≤ 57
                              · rw [if_pos c15] at H
                                have c15b0 : decide ((bt a0 x7_1) ≤ 57) = true := decide_eq_true c15
                                clear c15
                                have H' := Aside0.mk H
                                clear H
                                go_wp2
                                go_roundg kj8
                                case measure => have := HK1.out; have := HJ5.out; have := HJ8.out; omega
                                case rel => exact ⟨(wrap64 (x7_1 + 1)), (by first | rfl | (simp; done) | (simp [*]; done)), H', ⟨by have := HK1.out; have := HJ5.out; have := HJ8.out; omega⟩, by repeat (first | exact Drawn0.refl _ | apply Drawn0.step)⟩
                              · rw [if_neg c15] at H
                                have c15b0 : decide ((bt a0 x7_1) ≤ 57) = false := decide_eq_false c15
                                clear c15
                                obtain rfl := Option.some.inj H
                                go_wp2
                                go_ret
                                exact ⟨by first | rfl | (simp; done) | (simp [*]; done), by repeat (first | exact Drawn0.refl _ | apply Drawn0.step)⟩
                            · rw [if_neg c14] at H
                              have c14b0 : decide (48 ≤ (bt a0 x7_1)) = false := decide_eq_false c14
                              clear c14
                              obtain rfl := Option.some.inj H
                              go_wp2
                              go_ret
                              exact ⟨by first | rfl | (simp; done) | (simp [*]; done), by repeat (first | exact Drawn0.refl _ | apply Drawn0.step)⟩
                          · rw [if_neg c13] at H
                            have c13b0 : decide (0 < x7_1) = false := decide_eq_false c13
                            clear c13
                            obtain rfl := Option.some.inj H
                            go_wp2
                            go_ret
                            exact ⟨by first | rfl | (simp; done) | (simp [*]; done), by repeat (first | exact Drawn0.refl _ | apply Drawn0.step)⟩
          · rw [if_neg c4] at H
            exact absurd H (by simp)
        · rw [if_neg c3] at H
          exact absurd H (by simp)
      · rw [if_neg c2] at H
        have c2b0 : decide (x7_1 < (a0.size : Int)) = false := decide_eq_false c2
        clear c2
        by_cases c16 : a0.toList = ([] : List UInt8)
        · rw [if_pos c16] at H
          have c16b0 : (a0.toList == ([] : List UInt8)) = true := beq_iff_eq.mpr c16
          have c16b1 : (a0.toList != ([] : List UInt8)) = false := bne_eq_false_iff_eq.mpr c16
          clear c16
          obtain rfl := Option.some.inj H
          go_wp2
          go_ret
          exact ⟨by first | rfl | (simp; done) | (simp [*]; done), by repeat (first | exact Drawn0.refl _ | apply Drawn0.step)⟩
        · rw [if_neg c16] at H
          have c16b0 : (a0.toList == ([] : List UInt8)) = false := beq_eq_false_iff_ne.mpr c16
          have c16b1 : (a0.toList != ([] : List UInt8)) = true := bne_iff_ne.mpr c16
          obtain rfl := Option.some.inj H
          go_wp2
          go_ret
          exact ⟨by first | rfl | (simp; done) | (simp [*]; done), by repeat (first | exact Drawn0.refl _ | apply Drawn0.step)⟩

end Go.Proofs.YtmhilolgjcfhjaaGreat.X

namespace Go.Proofs.YtmhilolgjcfhjaaGreat.X
open Go.RowKit Go.Proofs.YtmhilolgjcfhjaaGreatW.PrintWords Go.Proofs.YtmhilolgjcfhjaaGreatW.PrintLast Go.Proofs.YtmhilolgjcfhjaaGreatW.PrintMore
attribute [local go_sem] max2_int min2_int max_two min_two max_three min_three max_four min_four   -- for this text's walks alone
set_option linter.unusedVariables false
set_option linter.unusedSimpArgs false

/-! ### klaxonref09_Name: function 44 -/
mutual
def klaxonref09_Name.j0 : Nat → ByteArray → Bool → Option (Bool)
  | 0, _, _ => none
  | k + 1, x0, x12 => if x12 = true then (some false) else (klaxonref09_Name.l0 k x0 0)
def klaxonref09_Name.l0 : Nat → ByteArray → Int → Option (Bool)
  | 0, _, _ => none
  | k + 1, x0, x3 => if x3 < (x0.size : Int) then (if 0 ≤ x3 then (if (bt x0 x3) ≥ 97 then (if (bt x0 x3) ≤ 122 then (klaxonref09_Name.l0 k x0 (wrap64 (x3 + 1))) else (if (bt x0 x3) ≥ 65 then (if (bt x0 x3) ≤ 90 then (klaxonref09_Name.l0 k x0 (wrap64 (x3 + 1))) else (if (bt x0 x3) = 95 then (klaxonref09_Name.l0 k x0 (wrap64 (x3 + 1))) else (if x3 > 0 then (if (bt x0 x3) ≥ 48 then (if ((bt x0 x3) ≤ 57) then (klaxonref09_Name.l0 k x0 (wrap64 (x3 + 1))) else (some false)) else (some false)) else (some false)))) else (if (bt x0 x3) = 95 then (klaxonref09_Name.l0 k x0 (wrap64 (x3 + 1))) else (if x3 > 0 then (if (bt x0 x3) ≥ 48 then (if ((bt x0 x3) ≤ 57) then (klaxonref09_Name.l0 k x0 (wrap64 (x3 + 1))) else (some false)) else (some false)) else (some false))))) else (if (bt x0 x3) ≥ 65 then (if (bt x0 x3) ≤ 90 then (klaxonref09_Name.l0 k x0 (wrap64 (x3 + 1))) else (if (bt x0 x3) = 95 then (klaxonref09_Name.l0 k x0 (wrap64 (x3 + 1))) else (if x3 > 0 then (if (bt x0 x3) ≥ 48 then (if ((bt x0 x3) ≤ 57) then (klaxonref09_Name.l0 k x0 (wrap64 (x3 + 1))) else (some false)) else (some false)) else (some false)))) else (if (bt x0 x3) = 95 then (klaxonref09_Name.l0 k x0 (wrap64 (x3 + 1))) else (if x3 > 0 then (if (bt x0 x3) ≥ 48 then (if ((bt x0 x3) ≤ 57) then (klaxonref09_Name.l0 k x0 (wrap64 (x3 + 1))) else (some false)) else (some false)) else (some false))))) else (none)) else (some true)
end
def klaxonref09_Name.f (k : Nat) (a0 : ByteArray) : Option (Bool) := if (a0.size : Int) < 1 then (klaxonref09_Name.j0 k a0 true) else (klaxonref09_Name.j0 k a0 (decide ((a0.size : Int) > 64)))
theorem klaxonref09_Name.mono_l : ∀ k, (∀ y0 y1, LeO (klaxonref09_Name.j0 k y0 y1) (klaxonref09_Name.j0 (k + 1) y0 y1)) ∧ (∀ y0 y1, LeO (klaxonref09_Name.l0 k y0 y1) (klaxonref09_Name.l0 (k + 1) y0 y1))
  | 0 => ⟨fun _ _ r h => by simp [klaxonref09_Name.j0] at h, fun _ _ r h => by simp [klaxonref09_Name.l0] at h⟩
  | k + 1 => by
    obtain ⟨ih0, ih1⟩ := klaxonref09_Name.mono_l k
    refine ⟨?_, ?_⟩
    · intro y0 y1
      unfold klaxonref09_Name.j0
      repeat' first
      | (with_reducible exact ih0 _ _)
      | (with_reducible exact ih1 _ _)
      | (with_reducible exact LeO.refl _)
      | (with_reducible exact LeO.none _)
      | (with_reducible refine LeO.ite ?_ ?_)
      | (with_reducible refine LeO.bind ?_ (fun _ => ?_))
      | exact ih0 _ _
      | exact ih1 _ _
      | exact LeO.none _
      | refine LeO.ite ?_ ?_
      | refine LeO.bind ?_ (fun _ => ?_)
    · intro y0 y1
      unfold klaxonref09_Name.l0
      repeat' first
      | (with_reducible exact ih0 _ _)
      | (with_reducible exact ih1 _ _)
      | (with_reducible exact LeO.refl _)
      | (with_reducible exact LeO.none _)
      | (with_reducible refine LeO.ite ?_ ?_)
      | (with_reducible refine LeO.bind ?_ (fun _ => ?_))
      | exact ih0 _ _
      | exact ih1 _ _
      | exact LeO.none _
      | refine LeO.ite ?_ ?_
      | refine LeO.bind ?_ (fun _ => ?_)
theorem klaxonref09_Name.mono : ∀ a0 k, LeO (klaxonref09_Name.f k a0) (klaxonref09_Name.f (k + 1) a0) := by
  intro a0 k
  obtain ⟨ih0, ih1⟩ := klaxonref09_Name.mono_l k
  unfold klaxonref09_Name.f
  repeat' first
      | (with_reducible exact ih0 _ _)
      | (with_reducible exact ih1 _ _)
      | (with_reducible exact LeO.refl _)
      | (with_reducible exact LeO.none _)
      | (with_reducible refine LeO.ite ?_ ?_)
      | (with_reducible refine LeO.bind ?_ (fun _ => ?_))
      | exact ih0 _ _
      | exact ih1 _ _
      | exact LeO.none _
      | refine LeO.ite ?_ ?_
      | refine LeO.bind ?_ (fun _ => ?_)
set_option maxHeartbeats 8000000 in
set_option maxRecDepth 100000 in
theorem klaxonref09_Name.calls (k : Nat) (a0 : ByteArray) (r : Bool) (w : World) (h : klaxonref09_Name.f k a0 = some r) :
    Calls Tryz.prog 44 #[.string a0] w fun e w' => e = .returned (.bool r) ∧ Drawn0 w w' := by
  have H : (if (a0.size : Int) < 1 then (klaxonref09_Name.j0 k a0 true) else (klaxonref09_Name.j0 k a0 (decide ((a0.size : Int) > 64)))) = some r := h
  clear h
  have HC2 := Aside0.mk H
  clear H
  go_enter Tryz.func44, Tryz.ntmps44
  go_upto_region 1 with (fail)
  go_cut [12] (fun v12 wc => ∃ (kq : Nat) (x12_1 : Bool), v12 = .bool x12_1 ∧ Aside0 (klaxonref09_Name.j0 kq a0 x12_1 = some r) ∧ Aside0 (kq ≤ k) ∧ Drawn0 w wc)
  case first =>
    have H := HC2.out
    clear HC2
    by_cases c3 : (a0.size : Int) < 1
    · rw [if_pos c3] at H
      have c3b0 : decide ((a0.size : Int) < 1) = true := decide_eq_true c3
      have c3b1 : decide (a0.size < 1) = true := decide_eq_true (by omega)
      clear c3
      (first | rw [c3b0] | (simp only [i64_w, i32_w]; rw [c3b0]) | skip)
      have H' := Aside0.mk H
      clear H
      go_wp2
      go_meet
      case rel => exact ⟨_, (true), (by first | rfl | (simp; done) | (simp [*]; done)), H', ⟨by first | omega | exact Nat.le_refl _⟩, by repeat (first | exact Drawn0.refl _ | apply Drawn0.step)⟩
    · rw [if_neg c3] at H
      have c3b0 : decide ((a0.size : Int) < 1) = false := decide_eq_false c3
      have c3b1 : decide (a0.size < 1) = false := decide_eq_false (by omega)
      clear c3
      (first | rw [c3b0] | (simp only [i64_w, i32_w]; rw [c3b0]) | skip)
      have H' := Aside0.mk H
      clear H
      go_wp2
      go_meet
      case rel => exact ⟨_, (decide ((a0.size : Int) > 64)), (by first | rfl | (simp; done) | (simp [*]; done)), H', ⟨by first | omega | exact Nat.le_refl _⟩, by repeat (first | exact Drawn0.refl _ | apply Drawn0.step)⟩
  case rest =>
    clear HC2
    try clear p2
    try clear c3
    try clear c3b0
    try clear c3b1
    obtain ⟨kq, x12_1, rfl, HA, HJ1, ⟨mc1, rfl⟩⟩ := hcut
    cases kq with
    | zero => exact absurd HA.out (by simp [klaxonref09_Name.j0])
    | succ kj1 =>
      have H := HA.out
      clear HA
      simp only [klaxonref09_Name.j0] at H
      by_cases c4 : x12_1 = true
      · subst c4
        have H1 : (some false) = some r := by rw [if_pos rfl] at H; exact H
        clear H
        have H := H1
        clear H1
        obtain rfl := Option.some.inj H
        go_wp2
        go_ret
        exact ⟨by first | rfl | (simp; done) | (simp [*]; done), by repeat (first | exact Drawn0.refl _ | apply Drawn0.step)⟩
      · replace c4 := Bool.eq_false_iff.mpr c4
        subst c4
        have H1 : (klaxonref09_Name.l0 kj1 a0 0) = some r := by rw [if_neg (show ¬ (false = true) by decide)] at H; exact H
        clear H
        have H := H1
        clear H1
        have H' := Aside0.mk H
        clear H
        go_wp2
        go_loopg [3] kj1 (fun kq v3 w' => ∃ (x3_2 : Int), v3 = .int .i64 x3_2 ∧ Aside0 (klaxonref09_Name.l0 kq a0 x3_2 = some r) ∧ Aside0 (kq ≤ kj1) ∧ Drawn0 w w')
        case atStart => exact ⟨(0), (by first | rfl | (simp; done) | (simp [*]; done)), H', ⟨Nat.le_refl _⟩, by repeat (first | exact Drawn0.refl _ | apply Drawn0.step)⟩
        case round =>
          clear H'
          try clear c1
          try clear p2
          try clear c3
          try clear c3b0
          try clear c3b1
          try clear c4
          try clear p2
          obtain ⟨x3_2, rfl, HA, HK2, ⟨m2, rfl⟩⟩ := hrel
          cases gk with
          | zero => exact absurd HA.out (by simp [klaxonref09_Name.l0])
          | succ k2 =>
            have H := HA.out
            clear HA
            simp only [klaxonref09_Name.l0] at H
            by_cases c5 : x3_2 < (a0.size : Int)
            · rw [if_pos c5] at H
              have c5b0 : decide (x3_2 < (a0.size : Int)) = true := decide_eq_true c5
              clear c5
              by_cases c6 : 0 ≤ x3_2
              · rw [if_pos c6] at H
                have c6b0 : decide (0 ≤ x3_2) = true := decide_eq_true c6
                clear c6
                by_cases c8 : (bt a0 x3_2) ≥ 97
                · rw [if_pos c8] at H
                  have c8b0 : decide (97 ≤ (bt a0 x3_2)) = true := decide_eq_true c8
                  clear c8
                  by_cases c9 : (bt a0 x3_2) ≤ 122
                  · rw [if_pos c9] at H
                    have c9b0 : decide ((bt a0 x3_2) ≤ 122) = true := decide_eq_true c9
                    clear c9
                    have H' := Aside0.mk H
                    clear H
                    have p7 : 0 ≤ (x3_2 : Int) := of_decide_eq_true (by first | (with_reducible assumption) | assumption)
                    have q7 : x3_2 < (a0.size : Int) := of_decide_eq_true (by first | (with_reducible assumption) | assumption)
                    have hx7 := bt_at a0 x3_2
                    replace p7 := eq_true p7
                    replace q7 := eq_true q7
                    go_wp2
                    go_roundg k2
                    case measure => have := HJ1.out; have := HK2.out; omega
                    case rel => exact ⟨(wrap64 (x3_2 + 1)), (by first | rfl | (simp; done) | (simp [*]; done)), H', ⟨by have := HJ1.out; have := HK2.out; omega⟩, by repeat (first | exact Drawn0.refl _ | apply Drawn0.step)⟩
                  · rw [if_neg c9] at H
                    have c9b0 : decide ((bt a0 x3_2) ≤ 122) = false := decide_eq_false c9
                    clear c9
                    by_cases c10 : (bt a0 x3_2) ≥ 65
                    · rw [if_pos c10] at H
                      have c10b0 : decide (65 ≤ (bt a0 x3_2)) = true := decide_eq_true c10
                      clear c10
                      by_cases c11 : (bt a0 x3_2) ≤ 90
                      · rw [if_pos c11] at H
                        have c11b0 : decide ((bt a0 x3_2) ≤ 90) = true := decide_eq_true c11
                        clear c11
                        have H' := Aside0.mk H
                        clear H
                        have p7 : 0 ≤ (x3_2 : Int) := of_decide_eq_true (by first | (with_reducible assumption) | assumption)
                        have q7 : x3_2 < (a0.size : Int) := of_decide_eq_true (by first | (with_reducible assumption) | assumption)
                        have hx7 := bt_at a0 x3_2
                        replace p7 := eq_true p7
                        replace q7 := eq_true q7
                        go_wp2
                        go_roundg k2
                        case measure => have := HJ1.out; have := HK2.out; omega
                        case rel => exact ⟨(wrap64 (x3_2 + 1)), (by first | rfl | (simp; done) | (simp [*]; done)), H', ⟨by have := HJ1.out; have := HK2.out; omega⟩, by repeat (first | exact Drawn0.refl _ | apply Drawn0.step)⟩
                      · rw [if_neg c11] at H
                        have c11b0 : decide ((bt a0 x3_2) ≤ 90) = false := decide_eq_false c11
                        clear c11
                        by_cases c12 : (bt a0 x3_2) = 95
                        · rw [if_pos c12] at H
                          have c12b0 : ((bt a0 x3_2) == 95) = true := beq_iff_eq.mpr c12
                          have c12b1 : ((bt a0 x3_2) != 95) = false := bne_eq_false_iff_eq.mpr c12
                          clear c12
                          have H' := Aside0.mk H
                          clear H
                          have p7 : 0 ≤ (x3_2 : Int) := of_decide_eq_true (by first | (with_reducible assumption) | assumption)
                          have q7 : x3_2 < (a0.size : Int) := of_decide_eq_true (by first | (with_reducible assumption) | assumption)
                          have hx7 := bt_at a0 x3_2
                          replace p7 := eq_true p7
                          replace q7 := eq_true q7
                          go_wp2
                          go_roundg k2
                          case measure => have := HJ1.out; have := HK2.out; omega
                          case rel => exact ⟨(wrap64 (x3_2 + 1)), (by first | rfl | (simp; done) | (simp [*]; done)), H', ⟨by have := HJ1.out; have := HK2.out; omega⟩, by repeat (first | exact Drawn0.refl _ | apply Drawn0.step)⟩
                        · rw [if_neg c12] at H
                          have c12b0 : ((bt a0 x3_2) == 95) = false := beq_eq_false_iff_ne.mpr c12
                          have c12b1 : ((bt a0 x3_2) != 95) = true := bne_iff_ne.mpr c12
                          by_cases c13 : x3_2 > 0
                          · rw [if_pos c13] at H
                            have c13b0 : decide (0 < x3_2) = true := decide_eq_true c13
                            clear c13
                            by_cases c14 : (bt a0 x3_2) ≥ 48
                            · rw [if_pos c14] at H
                              have c14b0 : decide (48 ≤ (bt a0 x3_2)) = true := decide_eq_true c14
                              clear c14
                              by_cases c15 : ((bt a0 x3_2) ≤ 57)
                              · rw [if_pos c15] at H
                                have c15b0 : decide ((bt a0 x3_2) ≤ 57) = true := decide_eq_true c15
                                clear c15
                                have H' := Aside0.mk H
                                clear H
                                have p7 : 0 ≤ (x3_2 : Int) := of_decide_eq_true (by first | (with_reducible assumption) | assumption)
                                have q7 : x3_2 < (a0.size : Int) := of_decide_eq_true (by first | (with_reducible assumption) | assumption)
                                have hx7 := bt_at a0 x3_2
                                replace p7 := eq_true p7
                                replace q7 := eq_true q7
                                go_wp2
                                go_roundg k2
                                case measure => have := HJ1.out; have := HK2.out; omega
                                case rel => exact ⟨(wrap64 (x3_2 + 1)), (by first | rfl | (simp; done) | (simp [*]; done)), H', ⟨by have := HJ1.out; have := HK2.out; omega⟩, by repeat (first | exact Drawn0.refl _ | apply Drawn0.step)⟩
                              · rw [if_neg c15] at H
                                have c15b0 : decide ((bt a0 x3_2) ≤ 57) = false := decide_eq_false c15
                                clear c15
                                obtain rfl := Option.some.inj H
                                have p7 : 0 ≤ (x3_2 : Int) := of_decide_eq_true (by first | (with_reducible assumption) | assumption)
                                have q7 : x3_2 < (a0.size : Int) := of_decide_eq_true (by first | (with_reducible assumption) | assumption)
                                have hx7 := bt_at a0 x3_2
                                replace p7 := eq_true p7
                                replace q7 := eq_true q7
                                go_wp2
                                go_ret
                                exact ⟨by first | rfl | (simp; done) | (simp [*]; done), by repeat (first | exact Drawn0.refl _ | apply Drawn0.step)⟩
                            · rw [if_neg c14] at H
                              have c14b0 : decide (48 ≤ (bt a0 x3_2)) = false := decide_eq_false c14
                              clear c14
                              obtain rfl := Option.some.inj H
                              have p7 : 0 ≤ (x3_2 : Int) := of_decide_eq_true (by first | (with_reducible assumption) | assumption)
                              have q7 : x3_2 < (a0.size : Int) := of_decide_eq_true (by first | (with_reducible assumption) | assumption)
                              have hx7 := bt_at a0 x3_2
                              replace p7 := eq_true p7
                              replace q7 := eq_true q7
                              go_wp2
                              go_ret
                              exact ⟨by first | rfl | (simp; done) | (simp [*]; done), by repeat (first | exact Drawn0.refl _ | apply Drawn0.step)⟩
                          · rw [if_neg c13] at H
                            have c13b0 : decide (0 < x3_2) = false := decide_eq_false c13
                            clear c13
                            obtain rfl := Option.some.inj H
                            have p7 : 0 ≤ (x3_2 : Int) := of_decide_eq_true (by first | (with_reducible assumption) | assumption)
                            have q7 : x3_2 < (a0.size : Int) := of_decide_eq_true (by first | (with_reducible assumption) | assumption)
                            have hx7 := bt_at a0 x3_2
                            replace p7 := eq_true p7
                            replace q7 := eq_true q7
                            go_wp2
                            go_ret
                            exact ⟨by first | rfl | (simp; done) | (simp [*]; done), by repeat (first | exact Drawn0.refl _ | apply Drawn0.step)⟩
                    · rw [if_neg c10] at H
                      have c10b0 : decide (65 ≤ (bt a0 x3_2)) = false := decide_eq_false c10
                      clear c10
                      by_cases c16 : (bt a0 x3_2) = 95
                      · rw [if_pos c16] at H
                        have c16b0 : ((bt a0 x3_2) == 95) = true := beq_iff_eq.mpr c16
                        have c16b1 : ((bt a0 x3_2) != 95) = false := bne_eq_false_iff_eq.mpr c16
                        clear c16
                        have H' := Aside0.mk H
                        clear H
                        have p7 : 0 ≤ (x3_2 : Int) := of_decide_eq_true (by first | (with_reducible assumption) | assumption)
                        have q7 : x3_2 < (a0.size : Int) := of_decide_eq_true (by first | (with_reducible assumption) | assumption)
                        have hx7 := bt_at a0 x3_2
                        replace p7 := eq_true p7
                        replace q7 := eq_true q7
                        go_wp2
                        go_roundg k2
                        case measure => have := HJ1.out; have := HK2.out; omega
                        case rel => exact ⟨(wrap64 (x3_2 + 1)), (by first | rfl | (simp; done) | (simp [*]; done)), H', ⟨by have := HJ1.out; have := HK2.out; omega⟩, by repeat (first | exact Drawn0.refl _ | apply Drawn0.step)⟩
                      · rw [if_neg c16] at H
                        have c16b0 : ((bt a0 x3_2) == 95) = false := beq_eq_false_iff_ne.mpr c16
                        have c16b1 : ((bt a0 x3_2) != 95) = true := bne_iff_ne.mpr c16
                        by_cases c17 : x3_2 > 0
                        · rw [if_pos c17] at H
                          have c17b0 : decide (0 < x3_2) = true := decide_eq_true c17
                          clear c17
                          by_cases c18 : (bt a0 x3_2) ≥ 48
                          · rw [if_pos c18] at H
                            have c18b0 : decide (48 ≤ (bt a0 x3_2)) = true := decide_eq_true c18
                            clear c18
                            by_cases c19 : ((bt a0 x3_2) ≤ 57)
                            · rw [if_pos c19] at H
                              have c19b0 : decide ((bt a0 x3_2) ≤ 57) = true := decide_eq_true c19
                              clear c19
                              have H' := Aside0.mk H
                              clear H
                              have p7 : 0 ≤ (x3_2 : Int) := of_decide_eq_true (by first | (with_reducible assumption) | assumption)
                              have q7 : x3_2 < (a0.size : Int) := of_decide_eq_true (by first | (with_reducible assumption) | assumption)
                              have hx7 := bt_at a0 x3_2
                              replace p7 := eq_true p7
                              replace q7 := eq_true q7
                              go_wp2
                              go_roundg k2
                              case measure => have := HJ1.out; have := HK2.out; omega
                              case rel => exact ⟨(wrap64 (x3_2 + 1)), (by first | rfl | (simp; done) | (simp [*]; done)), H', ⟨by have := HJ1.out; have := HK2.out; omega⟩, by repeat (first | exact Drawn0.refl _ | apply Drawn0.step)⟩
                            · rw [if_neg c19] at H
                              have c19b0 : decide ((bt a0 x3_2) ≤ 57) = false := decide_eq_false c19
                              clear c19
                              obtain rfl := Option.some.inj H
                              have p7 : 0 ≤ (x3_2 : Int) := of_decide_eq_true (by first | (with_reducible assumption) | assumption)
                              have q7 : x3_2 < (a0.size : Int) := of_decide_eq_true (by first | (with_reducible assumption) | assumption)
                              have hx7 := bt_at a0 x3_2
                              replace p7 := eq_true p7
                              replace q7 := eq_true q7
                              go_wp2
                              go_ret
                              exact ⟨by first | rfl | (simp; done) | (simp [*]; done), by repeat (first | exact Drawn0.refl _ | apply Drawn0.step)⟩
                          · rw [if_neg c18] at H
                            have c18b0 : decide (48 ≤ (bt a0 x3_2)) = false := decide_eq_false c18
                            clear c18
                            obtain rfl := Option.some.inj H
                            have p7 : 0 ≤ (x3_2 : Int) := of_decide_eq_true (by first | (with_reducible assumption) | assumption)
                            have q7 : x3_2 < (a0.size : Int) := of_decide_eq_true (by first | (with_reducible assumption) | assumption)
                            have hx7 := bt_at a0 x3_2
                            replace p7 := eq_true p7
                            replace q7 := eq_true q7
                            go_wp2
                            go_ret
                            exact ⟨by first | rfl | (simp; done) | (simp [*]; done), by repeat (first | exact Drawn0.refl _ | apply Drawn0.step)⟩
                        · rw [if_neg c17] at H
                          have c17b0 : decide (0 < x3_2) = false := decide_eq_false c17
                          clear c17
                          obtain rfl := Option.some.inj H
                          have p7 : 0 ≤ (x3_2 : Int) := of_decide_eq_true (by first | (with_reducible assumption) | assumption)
                          have q7 : x3_2 < (a0.size : Int) := of_decide_eq_true (by first | (with_reducible assumption) | assumption)
                          have hx7 := bt_at a0 x3_2
                          replace p7 := eq_true p7
                          replace q7 := eq_true q7
                          go_wp2
                          go_ret
                          exact ⟨by first | rfl | (simp; done) | (simp [*]; done), by repeat (first | exact Drawn0.refl _ | apply Drawn0.step)⟩
                · rw [if_neg c8] at H
                  have c8b0 : decide (97 ≤ (bt a0 x3_2)) = false := decide_eq_false c8
                  clear c8
                  by_cases c20 : (bt a0 x3_2) ≥ 65
                  · rw [if_pos c20] at H
                    have c20b0 : decide (65 ≤ (bt a0 x3_2)) = true := decide_eq_true c20
                    clear c20
                    by_cases c21 : (bt a0 x3_2) ≤ 90
                    · rw [if_pos c21] at H
                      have c21b0 : decide ((bt a0 x3_2) ≤ 90) = true := decide_eq_true c21
                      clear c21
                      have H' := Aside0.mk H
                      clear H
                      have p7 : 0 ≤ (x3_2 : Int) := of_decide_eq_true (by first | (with_reducible assumption) | assumption)
                      have q7 : x3_2 < (a0.size : Int) := of_decide_eq_true (by first | (with_reducible assumption) | assumption)
                      have hx7 := bt_at a0 x3_2
                      replace p7 := eq_true p7
                      replace q7 := eq_true q7
                      go_wp2
                      go_roundg k2
                      case measure => have := HJ1.out; have := HK2.out; omega
                      case rel => exact ⟨(wrap64 (x3_2 + 1)), (by first | rfl | (simp; done) | (simp [*]; done)), H', ⟨by have := HJ1.out; have := HK2.out; omega⟩, by repeat (first | exact Drawn0.refl _ | apply Drawn0.step)⟩
                    · rw [if_neg c21] at H
                      have c21b0 : decide ((bt a0 x3_2) ≤ 90) = false := decide_eq_false c21
                      clear c21
                      by_cases c22 : (bt a0 x3_2) = 95
                      · rw [if_pos c22] at H
                        have c22b0 : ((bt a0 x3_2) == 95) = true := beq_iff_eq.mpr c22
                        have c22b1 : ((bt a0 x3_2) != 95) = false := bne_eq_false_iff_eq.mpr c22
                        clear c22
                        have H' := Aside0.mk H
                        clear H
                        have p7 : 0 ≤ (x3_2 : Int) := of_decide_eq_true (by first | (with_reducible assumption) | assumption)
                        have q7 : x3_2 < (a0.size : Int) := of_decide_eq_true (by first | (with_reducible assumption) | assumption)
                        have hx7 := bt_at a0 x3_2
                        replace p7 := eq_true p7
                        replace q7 := eq_true q7
                        go_wp2
                        go_roundg k2
                        case measure => have := HJ1.out; have := HK2.out; omega
                        case rel => exact ⟨(wrap64 (x3_2 + 1)), (by first | rfl | (simp; done) | (simp [*]; done)), H', ⟨by have := HJ1.out; have := HK2.out; omega⟩, by repeat (first | exact Drawn0.refl _ | apply Drawn0.step)⟩
                      · rw [if_neg c22] at H
                        have c22b0 : ((bt a0 x3_2) == 95) = false := beq_eq_false_iff_ne.mpr c22
                        have c22b1 : ((bt a0 x3_2) != 95) = true := bne_iff_ne.mpr c22
                        by_cases c23 : x3_2 > 0
                        · rw [if_pos c23] at H
                          have c23b0 : decide (0 < x3_2) = true := decide_eq_true c23
                          clear c23
                          by_cases c24 : (bt a0 x3_2) ≥ 48
                          · rw [if_pos c24] at H
                            have c24b0 : decide (48 ≤ (bt a0 x3_2)) = true := decide_eq_true c24
                            clear c24
                            by_cases c25 : ((bt a0 x3_2) ≤ 57)
                            · rw [if_pos c25] at H
                              have c25b0 : decide ((bt a0 x3_2) ≤ 57) = true := decide_eq_true c25
                              clear c25
                              have H' := Aside0.mk H
                              clear H
                              have p7 : 0 ≤ (x3_2 : Int) := of_decide_eq_true (by first | (with_reducible assumption) | assumption)
                              have q7 : x3_2 < (a0.size : Int) := of_decide_eq_true (by first | (with_reducible assumption) | assumption)
                              have hx7 := bt_at a0 x3_2
                              replace p7 := eq_true p7
                              replace q7 := eq_true q7
                              go_wp2
                              go_roundg k2
                              case measure => have := HJ1.out; have := HK2.out; omega
                              case rel => exact ⟨(wrap64 (x3_2 + 1)), (by first | rfl | (simp; done) | (simp [*]; done)), H', ⟨by have := HJ1.out; have := HK2.out; omega⟩, by repeat (first | exact Drawn0.refl _ | apply Drawn0.step)⟩
                            · rw [if_neg c25] at H
                              have c25b0 : decide ((bt a0 x3_2) ≤ 57) = false := decide_eq_false c25
                              clear c25
                              obtain rfl := Option.some.inj H
                              have p7 : 0 ≤ (x3_2 : Int) := of_decide_eq_true (by first | (with_reducible assumption) | assumption)
                              have q7 : x3_2 < (a0.size : Int) := of_decide_eq_true (by first | (with_reducible assumption) | assumption)
                              have hx7 := bt_at a0 x3_2
                              replace p7 := eq_true p7
                              replace q7 := eq_true q7
                              go_wp2
                              go_ret
                              exact ⟨by first | rfl | (simp; done) | (simp [*]; done), by repeat (first | exact Drawn0.refl _ | apply Drawn0.step)⟩
                          · rw [if_neg c24] at H
                            have c24b0 : decide (48 ≤ (bt a0 x3_2)) = false := decide_eq_false c24
                            clear c24
                            obtain rfl := Option.some.inj H
                            have p7 : 0 ≤ (x3_2 : Int) := of_decide_eq_true (by first | (with_reducible assumption) | assumption)
                            have q7 : x3_2 < (a0.size : Int) := of_decide_eq_true (by first | (with_reducible assumption) | assumption)
                            have hx7 := bt_at a0 x3_2
                            replace p7 := eq_true p7
                            replace q7 := eq_true q7
                            go_wp2
                            go_ret
                            exact ⟨by first | rfl | (simp; done) | (simp [*]; done), by repeat (first | exact Drawn0.refl _ | apply Drawn0.step)⟩
                        · rw [if_neg c23] at H
                          have c23b0 : decide (0 < x3_2) = false := decide_eq_false c23
                          clear c23
                          obtain rfl := Option.some.inj H
                          have p7 : 0 ≤ (x3_2 : Int) := of_decide_eq_true (by first | (with_reducible assumption) | assumption)
                          have q7 : x3_2 < (a0.size : Int) := of_decide_eq_true (by first | (with_reducible assumption) | assumption)
                          have hx7 := bt_at a0 x3_2
                          replace p7 := eq_true p7
                          replace q7 := eq_true q7
                          go_wp2
                          go_ret
                          exact ⟨by first | rfl | (simp; done) | (simp [*]; done), by repeat (first | exact Drawn0.refl _ | apply Drawn0.step)⟩
                  · rw [if_neg c20] at H
                    have c20b0 : decide (65 ≤ (bt a0 x3_2)) = false := decide_eq_false c20
                    clear c20
                    by_cases c26 : (bt a0 x3_2) = 95
                    · rw [if_pos c26] at H
                      have c26b0 : ((bt a0 x3_2) == 95) = true := beq_iff_eq.mpr c26
                      have c26b1 : ((bt a0 x3_2) != 95) = false := bne_eq_false_iff_eq.mpr c26
                      clear c26
                      have H' := Aside0.mk H
                      clear H
                      have p7 : 0 ≤ (x3_2 : Int) := of_decide_eq_true (by first | (with_reducible assumption) | assumption)
                      have q7 : x3_2 < (a0.size : Int) := of_decide_eq_true (by first | (with_reducible assumption) | assumption)
                      have hx7 := bt_at a0 x3_2
                      replace p7 := eq_true p7
                      replace q7 := eq_true q7
                      go_wp2
                      go_roundg k2
                      case measure => have := HJ1.out; have := HK2.out; omega
                      case rel => exact ⟨(wrap64 (x3_2 + 1)), (by first | rfl | (simp; done) | (simp [*]; done)), H', ⟨by have := HJ1.out; have := HK2.out; omega⟩, by repeat (first | exact Drawn0.refl _ | apply Drawn0.step)⟩
                    · rw [if_neg c26] at H
                      have c26b0 : ((bt a0 x3_2) == 95) = false := beq_eq_false_iff_ne.mpr c26
                      have c26b1 : ((bt a0 x3_2) != 95) = true := bne_iff_ne.mpr c26
                      by_cases c27 : x3_2 > 0
                      · rw [if_pos c27] at H
                        have c27b0 : decide (0 < x3_2) = true := decide_eq_true c27
                        clear c27
                        by_cases c28 : (bt a0 x3_2) ≥ 48
                        · rw [if_pos c28] at H
                          have c28b0 : decide (48 ≤ (bt a0 x3_2)) = true := decide_eq_true c28
                          clear c28
                          by_cases c29 : ((bt a0 x3_2) ≤ 57)
                          · rw [if_pos c29] at H
                            have c29b0 : decide ((bt a0 x3_2) ≤ 57) = true := decide_eq_true c29
                            clear c29
                            have H' := Aside0.mk H
                            clear H
                            have p7 : 0 ≤ (x3_2 : Int) := of_decide_eq_true (by first | (with_reducible assumption) | assumption)
                            have q7 : x3_2 < (a0.size : Int) := of_decide_eq_true (by first | (with_reducible assumption) | assumption)
                            have hx7 := bt_at a0 x3_2
                            replace p7 := eq_true p7
                            replace q7 := eq_true q7
                            go_wp2
                            go_roundg k2
                            case measure => have := HJ1.out; have := HK2.out; omega
                            case rel => exact ⟨(wrap64 (x3_2 + 1)), (by first | rfl | (simp; done) | (simp [*]; done)), H', ⟨by have := HJ1.out; have := HK2.out; omega⟩, by repeat (first | exact Drawn0.refl _ | apply Drawn0.step)⟩
                          · rw [if_neg c29] at H
                            have c29b0 : decide ((bt a0 x3_2) ≤ 57) = false := decide_eq_false c29
                            clear c29
                            obtain rfl := Option.some.inj H
                            have p7 : 0 ≤ (x3_2 : Int) := of_decide_eq_true (by first | (with_reducible assumption) | assumption)
                            have q7 : x3_2 < (a0.size : Int) := of_decide_eq_true (by first | (with_reducible assumption) | assumption)
                            have hx7 := bt_at a0 x3_2
                            replace p7 := eq_true p7
                            replace q7 := eq_true q7
                            go_wp2
                            go_ret
                            exact ⟨by first | rfl | (simp; done) | (simp [*]; done), by repeat (first | exact Drawn0.refl _ | apply Drawn0.step)⟩
                        · rw [if_neg c28] at H
                          have c28b0 : decide (48 ≤ (bt a0 x3_2)) = false := decide_eq_false c28
                          clear c28
                          obtain rfl := Option.some.inj H
                          have p7 : 0 ≤ (x3_2 : Int) := of_decide_eq_true (by first | (with_reducible assumption) | assumption)
                          have q7 : x3_2 < (a0.size : Int) := of_decide_eq_true (by first | (with_reducible assumption) | assumption)
                          have hx7 := bt_at a0 x3_2
                          replace p7 := eq_true p7
                          replace q7 := eq_true q7
                          go_wp2
                          go_ret
                          exact ⟨by first | rfl | (simp; done) | (simp [*]; done), by repeat (first | exact Drawn0.refl _ | apply Drawn0.step)⟩
                      · rw [if_neg c27] at H
                        have c27b0 : decide (0 < x3_2) = false := decide_eq_false c27
                        clear c27
                        obtain rfl := Option.some.inj H
                        have p7 : 0 ≤ (x3_2 : Int) := of_decide_eq_true (by first | (with_reducible assumption) | assumption)
                        have q7 : x3_2 < (a0.size : Int) := of_decide_eq_true (by first | (with_reducible assumption) | assumption)
                        have hx7 := bt_at a0 x3_2
                        replace p7 := eq_true p7
                        replace q7 := eq_true q7
                        go_wp2
                        go_ret
                        exact ⟨by first | rfl | (simp; done) | (simp [*]; done), by repeat (first | exact Drawn0.refl _ | apply Drawn0.step)⟩
              · rw [if_neg c6] at H
                exact absurd H (by simp)
            · rw [if_neg c5] at H
              have c5b0 : decide (x3_2 < (a0.size : Int)) = false := decide_eq_false c5
              clear c5
              obtain rfl := Option.some.inj H
              go_wp2
              go_ret
              exact ⟨by first | rfl | (simp; done) | (simp [*]; done), by repeat (first | exact Drawn0.refl _ | apply Drawn0.step)⟩

end Go.Proofs.YtmhilolgjcfhjaaGreat.X

/- What a name is: the program's answer and the document's are one plain test. -/
namespace Go.Proofs.YtmhilolgjcfhjaaGreat.X
open Go.RowKit Go.Proofs.YtmhilolgjcfhjaaGreatW.PrintWords Go.Proofs.YtmhilolgjcfhjaaGreatW.PrintLast Go.Proofs.YtmhilolgjcfhjaaGreatW.PrintMore

theorem Ev.ifp {α : Type} {c : Prop} [Decidable c] {f g : Nat → Option α} {r : α} (h : c) (k : Ev f r) : Ev (fun n => if c then f n else g n) r := Ev.congr (fun _ => if_pos h) k
theorem Ev.ifn {α : Type} {c : Prop} [Decidable c] {f g : Nat → Option α} {r : α} (h : ¬ c) (k : Ev g r) : Ev (fun n => if c then f n else g n) r := Ev.congr (fun _ => if_neg h) k

def chOK (i c : Int) : Bool := decide (97 ≤ c ∧ c ≤ 122 ∨ 65 ≤ c ∧ c ≤ 90 ∨ c = 95 ∨ 0 < i ∧ 48 ≤ c ∧ c ≤ 57)
def chFrom (s : ByteArray) : Nat → Nat → Bool
  | 0, _ => true
  | d + 1, i => chOK i (bt s i) && chFrom s d (i + 1)
/-- Is it a name? -/
def nameB (s : ByteArray) : Bool := decide (1 ≤ s.size) && decide (s.size ≤ 64) && chFrom s s.size 0

theorem nm_wrap {i n : Int} (h0 : 0 ≤ i) (h : i < n) (hn : n ≤ 4611686018427387904) : wrap64 (i + 1) = i + 1 := by unfold wrap64; omega
theorem toList_nil (s : ByteArray) : s.toList = [] ↔ s.size = 0 := by
  rw [← List.length_eq_zero_iff]
  have : s.toList.length = s.size := by rw [ByteArray.toList_eq]; simp
  rw [this]

theorem nameOK_l0 (s : ByteArray) (hs : s.size ≤ 4611686018427387904) : ∀ d i : Nat, i + d = s.size →
    Ev (fun k => labels_nameOK.l0 k s s.size i) (chFrom s d i && (decide (1 ≤ s.size) && decide (s.size ≤ 64)))
  | 0, i, h => by
    refine Ev.step (fun k => by rw [labels_nameOK.l0]) ?_
    refine Ev.ifn (by omega) ?_
    by_cases c : s.toList = []
    · refine Ev.ifp c ?_
      have : s.size = 0 := (toList_nil s).1 c
      simp only [chFrom, this]
      exact Ev.now _
    · refine Ev.ifn c ?_
      have h1 : ¬ s.size = 0 := fun e => c ((toList_nil s).2 e)
      have : (chFrom s 0 i && (decide (1 ≤ s.size) && decide (s.size ≤ 64))) = decide ((s.size : Int) ≤ 64) := by
        rw [show decide (1 ≤ s.size) = true from decide_eq_true (by omega)]
        simp only [chFrom, Bool.true_and]
        exact decide_eq_decide.2 (by omega)
      rw [this]
      exact Ev.now _
  | d + 1, i, h => by
    have ih := nameOK_l0 s hs d (i + 1) (by omega)
    have hw : wrap64 ((i : Int) + 1) = ((i + 1 : Nat) : Int) := by rw [nm_wrap (n := s.size) (by omega) (by omega) (by omega)]; omega
    have hj2 : ∀ b : Bool, (b = false → ¬ (97 ≤ bt s i ∧ bt s i ≤ 122) ∧ ¬ (65 ≤ bt s i ∧ bt s i ≤ 90)) → (b = true → chOK i (bt s i) = true) →
        Ev (fun k => labels_nameOK.j2 k s i (bt s i) s.size i b) (chFrom s (d + 1) i && (decide (1 ≤ s.size) && decide (s.size ≤ 64))) := by
      intro b hb hb2
      refine Ev.step (fun k => by rw [labels_nameOK.j2]) ?_
      rw [hw, chFrom]
      cases b with
      | true => rw [hb2 rfl, Bool.true_and]; exact Ev.ifp rfl ih
      | false =>
        have hb := hb rfl
        refine Ev.ifn (by simp) ?_
        by_cases c1 : bt s i = 95
        · have : chOK i (bt s i) = true := decide_eq_true (by omega)
          rw [this, Bool.true_and]; exact Ev.ifp c1 ih
        · refine Ev.ifn c1 ?_
          by_cases c2 : (i : Int) > 0
          · refine Ev.ifp c2 ?_
            by_cases c3 : bt s i ≥ 48
            · refine Ev.ifp c3 ?_
              by_cases c4 : bt s i ≤ 57
              · have : chOK i (bt s i) = true := decide_eq_true (by omega)
                rw [this, Bool.true_and]; exact Ev.ifp c4 ih
              · have : chOK i (bt s i) = false := decide_eq_false (by omega)
                rw [this, Bool.false_and, Bool.false_and]; exact Ev.ifn c4 (Ev.now _)
            · have : chOK i (bt s i) = false := decide_eq_false (by omega)
              rw [this, Bool.false_and, Bool.false_and]; exact Ev.ifn c3 (Ev.now _)
          · have : chOK i (bt s i) = false := decide_eq_false (by omega)
            rw [this, Bool.false_and, Bool.false_and]; exact Ev.ifn c2 (Ev.now _)
    have hj1 : ∀ b : Bool, (b = false → ¬ (97 ≤ bt s i ∧ bt s i ≤ 122)) → (b = true → chOK i (bt s i) = true) →
        Ev (fun k => labels_nameOK.j1 k s i (bt s i) s.size i b) (chFrom s (d + 1) i && (decide (1 ≤ s.size) && decide (s.size ≤ 64))) := by
      intro b hb hb2
      refine Ev.step (fun k => by rw [labels_nameOK.j1]) ?_
      cases b with
      | true => rw [hw, chFrom, hb2 rfl, Bool.true_and]; exact Ev.ifp rfl ih
      | false =>
        have hb := hb rfl
        refine Ev.ifn (by simp) ?_
        by_cases c1 : bt s i ≥ 65
        · refine Ev.ifp c1 ?_
          refine hj2 _ (fun e => ⟨hb, ?_⟩) (fun e => ?_)
          · have := of_decide_eq_false e; omega
          · have := of_decide_eq_true e; exact decide_eq_true (by omega)
        · refine Ev.ifn c1 ?_
          exact hj2 _ (fun e => ⟨hb, by omega⟩) (fun e => by cases e)
    refine Ev.step (fun k => by rw [labels_nameOK.l0]) ?_
    refine Ev.ifp (by omega) (Ev.ifp (by omega) (Ev.ifp (by omega) ?_))
    by_cases c1 : bt s i ≥ 97
    · refine Ev.ifp c1 (hj1 _ (fun e => ?_) (fun e => ?_))
      · have := of_decide_eq_false e; omega
      · have := of_decide_eq_true e; exact decide_eq_true (by omega)
    · exact Ev.ifn c1 (hj1 _ (fun e => by omega) (fun e => by cases e))
theorem nameOK_ev (s : ByteArray) (hs : s.size ≤ 4611686018427387904) : Ev (fun k => labels_nameOK.f k s) (nameB s) := by
  have h := nameOK_l0 s hs s.size 0 (by omega)
  have e : (chFrom s s.size 0 && (decide (1 ≤ s.size) && decide (s.size ≤ 64))) = nameB s := by unfold nameB; rw [Bool.and_comm]
  rw [e] at h
  exact h
theorem nameOK_call (s : ByteArray) (hs : s.size ≤ 4611686018427387904) (w : World) : Calls Tryz.prog 38 #[.string s] w fun e w' => e = .returned (.bool (nameB s)) ∧ Drawn0 w w' := by
  obtain ⟨k, h⟩ := (nameOK_ev s hs).rounds
  exact labels_nameOK.calls k s _ w h
end Go.Proofs.YtmhilolgjcfhjaaGreat.X

/- What Make makes of labels, in plain Lean: refused, or one name twice, or too many, or all in order. -/
namespace Go.Proofs.YtmhilolgjcfhjaaGreat.X
open Go.RowKit Go.Proofs.YtmhilolgjcfhjaaGreatW.PrintWords Go.Proofs.YtmhilolgjcfhjaaGreatW.PrintLast Go.Proofs.YtmhilolgjcfhjaaGreatW.PrintMore

def badB (x : S47) : Bool := !nameB x.f0 || decide (x.f1.size = 0) || decide (128 < x.f1.size)
def leN (x y : S47) : Bool := !ltN y x
def srt (l : List S47) : List S47 := l.mergeSort leN
def makeB (l : List S47) : List S47 × Int :=
  if l.any badB then ([], 90) else if ¬ (l.map (·.f0)).Nodup then ([], 8) else if 16 < l.length then ([], 6) else (srt l, 0)
/-- Not too many, and no name that is too long for the machine. -/
def fits47 (l : List S47) : Prop := l.length < 4398046511104 ∧ ∀ x ∈ l, x.f0.size ≤ 4611686018427387904
instance (l : List S47) : Decidable (fits47 l) := by unfold fits47; infer_instance

theorem leN_iff (x y : S47) : leN x y = true ↔ cmpS x.f0 y.f0 ≤ 0 := by
  unfold leN
  rw [Bool.not_eq_true', ltN_false]
theorem leN_trans (x y z : S47) (h1 : leN x y = true) (h2 : leN y z = true) : leN x z = true := by
  rw [leN_iff] at *
  exact (cmpS_trans _ _ _ h1 h2).1
theorem leN_total (x y : S47) : (leN x y || leN y x) = true := by
  rw [Bool.or_eq_true, leN_iff, leN_iff]
  have := cmpS_swap x.f0 y.f0
  omega
theorem srt_perm (l : List S47) : (srt l).Perm l := List.mergeSort_perm _ _
theorem srt_sorted (l : List S47) : (srt l).Pairwise (fun x y => leN x y = true) := List.pairwise_mergeSort leN_trans leN_total l
/-- In order, and no name twice: there is one such list. -/
theorem srt_unique (l d : List S47) (hn : (l.map (·.f0)).Nodup) (hp : d.Perm l) (hs : d.Pairwise (fun x y => leN x y = true)) : d = srt l := by
  refine List.Perm.eq_of_pairwise (le := fun x y => leN x y = true) ?_ hs (srt_sorted l) (hp.trans (srt_perm l).symm)
  intro a b ha hb h1 h2
  rw [leN_iff] at h1 h2
  have h3 := cmpS_swap a.f0 b.f0
  have e : a.f0 = b.f0 := (cmpS_eq _ _).1 (by omega)
  have ha' := hp.mem_iff.1 ha
  have hb' := (srt_perm l).mem_iff.1 hb
  obtain ⟨i, hi, rfl⟩ := List.getElem_of_mem ha'
  obtain ⟨j, hj, rfl⟩ := List.getElem_of_mem hb'
  have : i = j := by
    have := (List.getElem_inj (xs := l.map (·.f0)) (h₀ := by simpa using hi) (h₁ := by simpa using hj) hn).1 (by simpa using e)
    exact this
  subst this
  rfl
/-- In order, and no two neighbours of one name: no name twice. -/
theorem nodup_of_steps (d : List S47) (hs : d.Pairwise (fun x y => leN x y = true)) (h : ∀ i, (hi : i + 1 < d.length) → d[i].f0 ≠ d[i + 1].f0) : (d.map (·.f0)).Nodup := by
  have hlt : ∀ i j, (hij : i < j) → (hj : j < d.length) → cmpS d[i].f0 d[j].f0 < 0 := by
    intro i j hij hj
    have hs' := List.pairwise_iff_getElem.1 hs
    have h1 := hs' i (i + 1) (by omega) (by omega) (by omega)
    rw [leN_iff] at h1
    have h2 : cmpS d[i].f0 d[i + 1].f0 ≠ 0 := fun e => h i (by omega) ((cmpS_eq _ _).1 e)
    by_cases e : i + 1 = j
    · subst e; omega
    · have h3 := hs' (i + 1) j (by omega) hj (by omega)
      rw [leN_iff] at h3
      have := cmpS_trans _ _ _ h1 h3
      rcases Int.lt_or_eq_of_le this.1 with h4 | h4
      · exact h4
      · exact absurd (this.2 h4).1 h2
  rw [List.nodup_iff_pairwise_ne, List.pairwise_map, List.pairwise_iff_getElem]
  intro i j hi hj hij e
  have := hlt i j hij hj
  rw [e, cmpS_self] at this
  omega
theorem sorted_pairwise (d : Array S47) (h : Go.Sort.SortedIn ltN 0 d.size d) : d.toList.Pairwise (fun x y => leN x y = true) := by
  rw [List.pairwise_iff_getElem]
  intro i j hi hj hij
  have := h i j (Nat.zero_le _) hij (by simpa using hj)
  rw [getElem!_pos d i (by simpa using hi), getElem!_pos d j (by simpa using hj)] at this
  unfold leN
  rw [Bool.not_eq_true']
  simpa using this
theorem perm_list (d d' : Array S47) (h : Go.Sort.PermIn 0 d.size d d') : d'.toList.Perm d.toList := by
  have := h.2.2
  rw [Array.extract_size, ← h.1, Array.extract_size] at this
  exact this
end Go.Proofs.YtmhilolgjcfhjaaGreat.X

/- The predicate that labels.Make asks of each label; the stable sort of no label at all. -/
namespace Go.Proofs.YtmhilolgjcfhjaaGreat.X
open Go.RowKit Go.Proofs.YtmhilolgjcfhjaaGreatW.PrintWords Go.Proofs.YtmhilolgjcfhjaaGreatW.PrintLast Go.Proofs.YtmhilolgjcfhjaaGreatW.PrintMore

set_option maxHeartbeats 1000000 in
theorem make1 (x : S47) (w : World) (hs : x.f0.size ≤ 4611686018427387904) :
    Calls Tryz.prog 37 #[.agg #[.string x.f0, .string x.f1]] w fun e w' => e = .returned (.bool (badB x)) ∧ Below w.heap.size w w' := by
  have hu47 := Tryz.underlying47
  have HC := Aside0.mk (nameOK_call x.f0 hs)
  have HB := Aside0.mk (show badB x = (!nameB x.f0 || decide (x.f1.size = 0) || decide (128 < x.f1.size)) from rfl)
  have HW := Aside0.mk ((Below.refl w.heap.size w).alloc (Nat.le_refl _) (.cells #[.string x.f0, .string x.f1] 47))
  clear hs
  generalize badB x = r at HB
  generalize nameB x.f0 = nb at HC HB
  cases nb with
  | false =>
    go_enter Tryz.func37, Tryz.ntmps37
    go_wp2_with (go_at_call 38; refine (HC.out _).mono ?_; rintro e w' ⟨rfl, ⟨m1, rfl⟩⟩)
    go_ret
    exact ⟨by rw [HB.out]; rfl, pw_below_drewN HW.out _⟩
  | true =>
    by_cases h1 : x.f1.toList = []
    · have hz := Aside0.mk ((toList_nil _).1 h1)
      have h2 : (x.f1.toList == []) = true := by rw [h1]; rfl
      go_enter Tryz.func37, Tryz.ntmps37
      go_wp2_with (go_at_call 38; refine (HC.out _).mono ?_; rintro e w' ⟨rfl, ⟨m1, rfl⟩⟩)
      go_ret
      exact ⟨by rw [HB.out, hz.out]; rfl, pw_below_drewN HW.out _⟩
    · have hz := Aside0.mk (fun e => h1 ((toList_nil _).2 e))
      have h2 : (x.f1.toList == []) = false := by simpa using h1
      go_enter Tryz.func37, Tryz.ntmps37
      go_wp2_with (go_at_call 38; refine (HC.out _).mono ?_; rintro e w' ⟨rfl, ⟨m1, rfl⟩⟩)
      go_ret
      exact ⟨by rw [HB.out, decide_eq_false hz.out]; simp; omega, pw_below_drewN HW.out _⟩

theorem insertion0 (A : Option Addr) (cap : Nat) (w : World) :
    Calls Tryz.prog 72 #[.slice A 0 cap, .int .i64 0, .int .i64 0, .func (.func 41) #[] #[]] w fun e w' => e = .returned (.tuple #[]) ∧ w' = w := by
  go_enter Tryz.func72, Tryz.ntmps72
  go_wp2
  go_loop [8] (fun i => i = .int .i64 1) (fun _ => 0)
  case atStart => rfl
  case round =>
    obtain rfl := hrel
    go_wp2
    go_end0
    exact ⟨rfl, rfl⟩
theorem sortStable0 (A : Option Addr) (cap : Nat) (w : World) :
    Calls Tryz.prog 40 #[.slice A 0 cap, .func (.func 41) #[] #[]] w fun e w' => e = .returned (.tuple #[]) ∧ w' = w := by
  have h61 : Calls Tryz.prog 61 #[.slice A 0 cap, .int .i64 0, .func (.func 41) #[] #[]] w fun e w' => e = .returned (.tuple #[]) ∧ w' = w := by
    go_enter Tryz.func61, Tryz.ntmps61
    go_wp2_with fail
    go_loop [7, 8] (fun a b => a = .int .i64 0 ∧ b = .int .i64 20) (fun _ _ => 0)
    case atStart => exact ⟨rfl, rfl⟩
    case round =>
      obtain ⟨rfl, rfl⟩ := hrel
      go_wp2_with (go_at_call 72; refine (insertion0 A cap _).mono ?_; rintro e w' ⟨rfl, rfl⟩)
      go_loop [6] (fun b => b = .int .i64 20) (fun _ => 0)
      case atStart => rfl
      case round =>
        obtain rfl := hrel
        go_wp2_with fail
        go_end0
        exact ⟨rfl, rfl⟩
  go_enter Tryz.func40, Tryz.ntmps40
  go_wp2_with (go_at_call 61; refine h61.mono ?_; rintro e w' ⟨rfl, rfl⟩)
  go_end0
  exact ⟨rfl, rfl⟩
end Go.Proofs.YtmhilolgjcfhjaaGreat.X

/- The document's tests of one label: its Name and its Is are the program's plain tests. -/
namespace Go.Proofs.YtmhilolgjcfhjaaGreat.X
open Go.RowKit Go.Proofs.YtmhilolgjcfhjaaGreatW.PrintWords Go.Proofs.YtmhilolgjcfhjaaGreatW.PrintLast Go.Proofs.YtmhilolgjcfhjaaGreatW.PrintMore

theorem refName_step (s : ByteArray) (i : Int) (k : Nat) (h0 : 0 ≤ i) : klaxonref09_Name.l0 (k + 1) s i = if i < (s.size : Int) then (if chOK i (bt s i) = true then klaxonref09_Name.l0 k s (wrap64 (i + 1)) else some false) else some true := by
  rw [klaxonref09_Name.l0]
  generalize bt s i = c
  generalize klaxonref09_Name.l0 k s (wrap64 (i + 1)) = X
  unfold chOK
  simp only [decide_eq_true_eq, if_pos h0]
  repeat' split
  all_goals first | rfl | (exfalso; omega)
theorem refName_l0 (s : ByteArray) (hs : s.size ≤ 4611686018427387904) : ∀ d i : Nat, i + d = s.size →
    Ev (fun k => klaxonref09_Name.l0 k s i) (chFrom s d i)
  | 0, i, h => by
    refine Ev.step (fun k => refName_step s i k (by omega)) ?_
    exact Ev.ifn (by omega) (Ev.now _)
  | d + 1, i, h => by
    have ih := refName_l0 s hs d (i + 1) (by omega)
    have hw : wrap64 ((i : Int) + 1) = ((i + 1 : Nat) : Int) := by rw [nm_wrap (n := s.size) (by omega) (by omega) (by omega)]; omega
    refine Ev.step (fun k => refName_step s i k (by omega)) ?_
    refine Ev.ifp (by omega) ?_
    rw [hw, chFrom]
    by_cases c : chOK i (bt s i) = true
    · rw [c, Bool.true_and]; exact Ev.ifp rfl ih
    · have c2 : chOK i (bt s i) = false := by simpa using c
      rw [c2, Bool.false_and]; exact Ev.ifn (by simp) (Ev.now _)
theorem refName_ev (s : ByteArray) (hs : s.size ≤ 4611686018427387904) : Ev (fun k => klaxonref09_Name.f k s) (nameB s) := by
  unfold klaxonref09_Name.f nameB
  by_cases c : (s.size : Int) < 1
  · refine Ev.ifp c (Ev.step (fun k => by rw [klaxonref09_Name.j0]) (Ev.ifp rfl ?_))
    rw [show decide (1 ≤ s.size) = false from decide_eq_false (by omega), Bool.false_and, Bool.false_and]
    exact Ev.now _
  · refine Ev.ifn c (Ev.step (fun k => by rw [klaxonref09_Name.j0]) ?_)
    rw [show decide (1 ≤ s.size) = true from decide_eq_true (by omega), Bool.true_and]
    by_cases c2 : (s.size : Int) > 64
    · refine Ev.ifp (decide_eq_true c2) ?_
      rw [show decide (s.size ≤ 64) = false from decide_eq_false (by omega), Bool.false_and]
      exact Ev.now _
    · refine Ev.ifn (by simpa using c2) ?_
      rw [show decide (s.size ≤ 64) = true from decide_eq_true (by omega), Bool.true_and]
      exact refName_l0 s hs s.size 0 (by omega)
theorem refName_call (s : ByteArray) (hs : s.size ≤ 4611686018427387904) (w : World) : Calls Tryz.prog 44 #[.string s] w fun e w' => e = .returned (.bool (nameB s)) ∧ Drawn0 w w' := by
  obtain ⟨k, h⟩ := (refName_ev s hs).rounds
  exact klaxonref09_Name.calls k s _ w h

set_option maxHeartbeats 1000000 in
set_option maxRecDepth 100000 in
theorem refIs_call (x : S47) (w : World) (hs : x.f0.size ≤ 4611686018427387904) :
    Calls Tryz.prog 42 #[.agg #[.string x.f0, .string x.f1]] w fun e w' => e = .returned (.bool (!badB x)) ∧ Below w.heap.size w w' := by
  have hu47 := Tryz.underlying47
  have HC := Aside0.mk (refName_call x.f0 hs)
  have HB := Aside0.mk (show (!badB x) = (nameB x.f0 && decide (1 ≤ x.f1.size) && decide (x.f1.size ≤ 128)) by
    unfold badB
    rw [show decide (1 ≤ x.f1.size) = !decide (x.f1.size = 0) by rw [← decide_not]; exact decide_eq_decide.2 (by omega), show decide (x.f1.size ≤ 128) = !decide (128 < x.f1.size) by rw [← decide_not]; exact decide_eq_decide.2 (by omega)]
    simp)
  have HW := Aside0.mk ((Below.refl w.heap.size w).alloc (Nat.le_refl _) (.cells #[.string x.f0, .string x.f1] 47))
  clear hs
  generalize (!badB x) = r at HB
  generalize nameB x.f0 = nb at HC HB
  cases nb with
  | false =>
    go_enter Tryz.func42, Tryz.ntmps42
    go_wp2_with (go_at_call 44; refine (HC.out _).mono ?_; rintro e w' ⟨rfl, ⟨m1, rfl⟩⟩)
    go_ret
    exact ⟨by rw [HB.out]; rfl, pw_below_drewN HW.out _⟩
  | true =>
    by_cases h1 : (1 : Int) ≤ (x.f1.size : Int)
    · have hz := Aside0.mk h1
      go_enter Tryz.func42, Tryz.ntmps42
      go_wp2_with (go_at_call 44; refine (HC.out _).mono ?_; rintro e w' ⟨rfl, ⟨m1, rfl⟩⟩)
      go_ret
      exact ⟨by rw [HB.out, decide_eq_true (show 1 ≤ x.f1.size by have := hz.out; omega)]; simp; omega, pw_below_drewN HW.out _⟩
    · have hz := Aside0.mk h1
      go_enter Tryz.func42, Tryz.ntmps42
      go_wp2_with (go_at_call 44; refine (HC.out _).mono ?_; rintro e w' ⟨rfl, ⟨m1, rfl⟩⟩)
      go_ret
      exact ⟨by rw [HB.out, decide_eq_false (show ¬ 1 ≤ x.f1.size by have := hz.out; omega)]; rfl, pw_below_drewN HW.out _⟩
end Go.Proofs.YtmhilolgjcfhjaaGreat.X

/- slices.Clone at labels: the same labels in memory of the call's own; and how such a row is laid open and shut. -/
namespace Go.Proofs.YtmhilolgjcfhjaaGreat.X
open Go.RowKit Go.Proofs.YtmhilolgjcfhjaaGreatW.PrintWords Go.Proofs.YtmhilolgjcfhjaaGreatW.PrintLast Go.Proofs.YtmhilolgjcfhjaaGreatW.PrintMore

theorem reps_flat (w : World) (base : Nat) (ok : Nat → Prop) (l : List S47) : Reps (k47.M w base ok) 2 l (flat47 l) := by
  refine ⟨flat47_length l, fun j p hj => ?_⟩
  obtain ⟨hl, rfl⟩ := List.getElem?_eq_some_iff.1 hj
  have h := flat47_at l j hl
  have hn := flat47_length l
  have e : ((flat47 l).drop (j * 2)).take 2 = [.string (l[j]).f0, .string (l[j]).f1] := by
    have h1 : j * 2 < (flat47 l).length := by omega
    have h2 : j * 2 + 1 < (flat47 l).length := by omega
    rw [List.drop_eq_getElem_cons h1, List.drop_eq_getElem_cons h2]
    rw [List.getElem?_eq_getElem h1, List.getElem?_eq_getElem h2] at h
    simp only [List.take_succ_cons, List.take_zero]
    rw [Option.some.inj h.1, Option.some.inj h.2]
  rw [e]
  exact k47_mkM _ _ _ _
theorem flat_of_reps {w : World} {base : Nat} {ok : Nat → Prop} : ∀ {l : List S47} {cs : List Value}, Reps (k47.M w base ok) 2 l cs → cs = flat47 l
  | [], cs, h => by have := h.1; simp at this; rw [this]; rfl
  | x :: l, cs, h => by
    have hl : cs.length = l.length * 2 + 2 := by have := h.1; simp at this; omega
    have h0 := k47_openM (h.2 0 x rfl)
    have ih : cs.drop 2 = flat47 l := flat_of_reps ⟨by rw [List.length_drop, hl]; omega, fun j p hj => by
      have := h.2 (j + 1) p (by simpa using hj)
      rw [List.drop_drop, show 2 + j * 2 = (j + 1) * 2 by omega]
      exact this⟩
    rw [Nat.zero_mul, List.drop_zero] at h0
    rw [← List.take_append_drop 2 cs, h0, ih]
    rfl

/-- A row of the call's own, laid open. -/
theorem row_open {W : World} {base : Nat} {ok : Nat → Prop} {v : Value} {l : List S47} (h : Kd.R k47 47 W base ok v l) (hl : l ≠ []) :
    ∃ g cap tl, v = .slice (some ⟨g, 0, none⟩) l.length cap ∧ base ≤ g ∧ l.length ≤ cap ∧ cap ≤ maxLen ∧ (flat47 l ++ tl).length = cap * 2 ∧ SRow W g tl l.toArray W := by
  obtain ⟨_, inner, ho, hr⟩ := h
  have hi : inner = flat47 l := flat_of_reps hr
  subst hi
  rcases ho.2 with ⟨_, h0⟩ | ⟨g, cap, cur, rfl, hb, hh, h1, h2, h3, h4⟩
  · exact absurd (List.eq_nil_of_length_eq_zero h0) hl
  · refine ⟨g, cap, cur.toList.drop (l.length * 2), rfl, hb, h1, h2, ?_, ⟨rfl, rfl, rfl, Nat.le_refl _, fun _ _ _ => rfl, ?_⟩⟩
    · have e : k47.sz = 2 := rfl
      rw [e] at h3 h4
      rw [← h4, List.take_append_drop]; simpa using h3
    · have e : k47.sz = 2 := rfl
      rw [e] at h3 h4
      rw [hh]
      congr 2
      show cur = _
      rw [List.toList_toArray, ← h4, List.take_append_drop]
/-- .. and shut: the first labels of the row. -/
theorem row_shut {w0 W : World} {base g cap : Nat} {tl : List Value} {d : Array S47} (h : SRow w0 g tl d W) (hb : base ≤ g) (n : Nat) (hn : n ≤ d.size) (hc : n ≤ cap) (hm : cap ≤ maxLen) (hl : (flat47 d.toList ++ tl).length = cap * 2) :
    Kd.R k47 47 W base (fun _ => True) (.slice (some ⟨g, 0, none⟩) n cap) (d.toList.take n) := by
  have hlen : (d.toList.take n).length = n := by simp; omega
  have hl2 : ((flat47 d.toList ++ tl).toArray).size = cap * k47.sz := by rw [show k47.sz = 2 from rfl, ← hl]; simp
  refine ⟨fun _ _ => trivial, flat47 (d.toList.take n), ⟨by rw [flat47_length, hlen]; rfl, .inr ⟨g, cap, _, by rw [hlen], hb, h.row, by rw [hlen]; exact hc, hm, hl2, ?_⟩⟩, reps_flat _ _ _ _⟩
  rw [hlen]
  show ((flat47 d.toList ++ tl).toArray.toList).take (n * 2) = _
  rw [List.toList_toArray]
  conv => lhs; rw [← List.take_append_drop n d.toList]
  have e : flat47 (d.toList.take n ++ d.toList.drop n) = flat47 (d.toList.take n) ++ flat47 (d.toList.drop n) := by unfold flat47; rw [← List.flatMap_append]
  rw [e, List.append_assoc]
  have e2 : n * 2 = (flat47 (d.toList.take n)).length := by rw [flat47_length, hlen]
  rw [e2, List.take_left']
  rfl
theorem row_below {w0 w W : World} {g : Nat} {tl : List Value} {d : Array S47} (h : SRow w0 g tl d W) (hb : Below w.heap.size w w0) (hg : w.heap.size ≤ g) : Below w.heap.size w W :=
  ⟨h.os.trans hb.os, h.tape.trans hb.tape, h.output.trans hb.output, Nat.le_trans hb.size h.size, fun k hk => (h.block k (Nat.lt_of_lt_of_le hk hb.size) (by omega)).trans (hb.block k hk)⟩

def slices_Clone_Label.f (l0 : List S47) : Option (List S47) := if l0.length < 4398046511104 then some l0 else none

set_option maxHeartbeats 2000000 in
set_option maxRecDepth 100000 in
theorem slices_Clone_Label.calls (A0 : Option Addr) (c0 : Nat) (l0 : List (S47)) (r : List (S47)) (w : World) (hr0 : Kd.C k47 w A0 l0.length l0) (hc0 : l0.length ≤ c0) (h : slices_Clone_Label.f l0 = some r) :
    Calls Tryz.prog 39 #[.slice A0 l0.length c0] w fun e w' => ∃ v0_ : Value, e = .returned (v0_) ∧ Kd.R k47 47 w' w.heap.size (fun _ => True) v0_ r ∧ Below w.heap.size w w' := by
  unfold slices_Clone_Label.f at h
  by_cases hlt : l0.length < 4398046511104
  · rw [if_pos hlt] at h
    obtain rfl := Option.some.inj h
    have LM := Aside0.mk hlt
    have HR0 := Aside0.mk hr0
    have HC0 := Aside0.mk hc0
    have HB := Aside0.mk (Below.refl w.heap.size w)
    clear hr0 hc0 h hlt
    have hnil := fun W => Lib.run_eql_slice_nil (P := Tryz.prog) W 22 47 A0 l0.length c0 0 0 Tryz.underlying22
    cases A0 with
    | none =>
      have HE := Aside0.mk (show l0 = [] by
        rcases Nat.eq_zero_or_pos l0.length with h | h
        · exact List.eq_nil_of_length_eq_zero h
        · obtain ⟨ad, e, _⟩ := HR0.out.2.2 h
          cases e)
      go_enter Tryz.func39, Tryz.ntmps39
      go_wp2
      go_ret
      exact ⟨_, rfl, by rw [HE.out]; exact Kd.R_nil _ _ _ _ _, HB.out⟩
    | some ad =>
      obtain ⟨yA, hyA⟩ : ∃ y_ : List (S47), y_ = (([] : List (S47))) := ⟨_, rfl⟩
      have NyA := Aside0.mk hyA
      have LM2 := Aside0.mk (show yA.length + l0.length < 4398046511104 by rw [hyA]; simpa using LM.out)
      obtain ⟨yB, hyB⟩ : ∃ y_ : List (S47), y_ = (yA ++ l0) := ⟨_, rfl⟩
      have NyB := Aside0.mk hyB
      have NyC := Aside0.mk (show yB = l0 by rw [hyB, hyA]; rfl)
      clear hyA hyB
      go_enter Tryz.func39, Tryz.ntmps39
      go_wp2_with (first | ((with_reducible refine gate_dst (N := 5) rfl ?_); refine Kd.R_lit k47 _ 47 ?hg (N := 5) ?hd (xs := ([] : List (S47))) (inner := []) (ok := fun _ => True) (okp := fun _ => True) ?hr ?hp (fun _ hk => hk) trivial (Below.refl _ _) (Nat.le_refl _) (by simp) ?_; (case hd => rfl); (case hg => rfl); (case hr => first | (go_simp; done) | (go_simp; rfl)); (case hp => exact (Reps.none _ _)); intro v165 w3 ho4 hb hg_ hnew_; clear hg_ hnew_; (first | rw [← NyA.out] at ho4 | (simp only [Int.reduceToNat] at ho4; rw [← NyA.out] at ho4)); have n0_ := Aside0.mk (Kd.R_lower ho4 (below_size (by repeat (first | (with_reducible first | exact HB.out | apply below_alloc | apply pw_below_drewN | apply below_drew1) | exact HB.out)))); have n1_ := Aside0.mk (below_step (by repeat (first | (with_reducible first | exact HB.out | apply below_alloc | apply pw_below_drewN | apply below_drew1) | exact HB.out)) hb); clear HB; have HO166 := n0_; have HB := n1_; clear n0_ n1_; clear hb ho4) | ((with_reducible refine gate_builtin (b := .append) (xs := #[.tmp 5, .tmp 6]) rfl ?_); at_builtin; refine Kd.R_append_rows k47 (w0 := w) w.heap.size rfl (.tmp 5) (.tmp 6) 22 47 (.agg #[(.string ⟨#[]⟩), (.string ⟨#[]⟩)]) 32 rfl Tryz.underlying22 info47 rfl (by decide) (by omega) v165 yA l0 _ _ _ (fun _ => True) (fun _ => False) rfl rfl ?aO ?aR (fun _ _ h => h) (fun _ h => h.elim) ?aF ?aB ?aS ?aL ?_; (case aR => repeat (first | exact (Kd.C_below HR0.out HB.out) | (with_reducible refine Kd.C_alloc ?_ _) | (with_reducible refine Kd.C_drewN ?_ _) | (with_reducible refine Kd.C_drew ?_))); (case aB => exact (by repeat (first | (with_reducible first | exact HB.out | apply below_alloc | apply pw_below_drewN | apply below_drew1) | exact HB.out))); (case aF => exact (fun _ _ => trivial)); (case aO => exact (by (with_reducible repeat (first | apply Kd.R_alloc | apply Kd.R_drewN | apply Kd.R_drew)); exact HO166.out)); (case aS => exact (below_size (by repeat (first | (with_reducible first | exact HB.out | apply below_alloc | apply pw_below_drewN | apply below_drew1) | exact HB.out)))); (case aL => have := LM2.out; omega); intro v168 w5 ho hb hg hat; rw [← NyB.out] at ho; have n0_ := Aside0.mk (hb); have n1_ := Aside0.mk (ho); clear HB; clear HO166; have HB := n0_; have HO169 := n1_; clear n0_ n1_; clear ho hb hg hat))
      go_ret
      exact ⟨_, rfl, by rw [← NyC.out]; exact HO169.out, HB.out⟩
  · rw [if_neg hlt] at h; cases h
end Go.Proofs.YtmhilolgjcfhjaaGreat.X

/- labels.Get: the value of the first label of that name, or nothing. labels.Match: every matcher is met. -/
namespace Go.Proofs.YtmhilolgjcfhjaaGreat.X
open Go.RowKit Go.Proofs.YtmhilolgjcfhjaaGreatW.PrintWords Go.Proofs.YtmhilolgjcfhjaaGreatW.PrintLast Go.Proofs.YtmhilolgjcfhjaaGreatW.PrintMore

def eqN (name : ByteArray) (x : S47) : Bool := x.f0.toList == name.toList
def getB (l : List S47) (name : ByteArray) : ByteArray := match l.find? (eqN name) with | some x => x.f1 | none => ⟨#[]⟩
def labels_Get.f (l0 : List S47) (a1 : ByteArray) : Option ByteArray := if l0.length ≤ 4611686018427387904 then some (getB l0 a1) else none

theorem get1 (name : ByteArray) (B : Nat) (x : S47) (w : World) (hB : B < w.heap.size) (hcell : w.cell? ⟨B, 0, none⟩ = some (.string name)) :
    Calls Tryz.prog 52 #[.agg #[.string x.f0, .string x.f1], .pointer (some ⟨B, 0, none⟩)] w fun e w' => e = .returned (.bool (eqN name x)) ∧ Below w.heap.size w w' := by
  have hne : B ≠ w.heap.size := by omega
  have hu47 := Tryz.underlying47
  go_enter Tryz.func52, Tryz.ntmps52
  go_wp2
  go_ret
  exact ⟨rfl, (Below.refl _ w).alloc (Nat.le_refl _) _⟩
theorem get_idx (l : List S47) (name : ByteArray) (A : Option Addr) (c : Nat) (w : World) (hr : Kd.C k47 w A l.length l) (hc : l.length ≤ c) (hm : l.length ≤ 4611686018427387904) :
    Calls Tryz.prog 51 #[.slice A l.length c, .func (.func 52) #[] #[.pointer (some ⟨w.heap.size, 0, none⟩)]] (w.alloc (.cells #[.string name] 9)) fun e w' => e = .returned (.int .i64 (idxOf (eqN name) l)) ∧ Below (w.heap.size + 1) (w.alloc (.cells #[.string name] 9)) w' := by
  have hb0 : Below w.heap.size w (w.alloc (.cells #[.string name] 9)) := (Below.refl _ w).alloc (Nat.le_refl _) _
  have hcell : (w.alloc (.cells #[.string name] 9)).cell? ⟨w.heap.size, 0, none⟩ = some (.string name) := by rw [World.cell?_alloc_new]; rfl
  have h := idx47 (eqN name) 52 #[.pointer (some ⟨w.heap.size, 0, none⟩)] (enters_of Tryz.func52 (by kernel_rfl) rfl) A c l (w.alloc (.cells #[.string name] 9)) (Kd.C_below hr hb0) hc hm
    (fun W x hx hb => (get1 name w.heap.size x W (Nat.lt_of_lt_of_le (by simp) hb.size) ((hb.cell (p := ⟨w.heap.size, 0, none⟩) (by simp)).trans hcell)).mono fun e w' ⟨he, h⟩ => ⟨he, hb.trans (h.mono hb.size)⟩)
  exact h.mono fun e w' ⟨he, hb⟩ => ⟨he, by rw [World.size_alloc] at hb; exact hb⟩
theorem getB_none (l : List S47) (name : ByteArray) (h : idxOf (eqN name) l < 0) : getB l name = ⟨#[]⟩ := by
  unfold idxOf at h
  unfold getB
  cases hf : l.findIdx? (eqN name) with
  | none =>
    rw [List.findIdx?_eq_none_iff] at hf
    rw [List.find?_eq_none.2 (fun x hx => by rw [hf x hx]; simp)]
  | some i => rw [hf] at h; simp at h; omega
theorem getB_some (l : List S47) (name : ByteArray) (h : ¬ idxOf (eqN name) l < 0) : 0 ≤ idxOf (eqN name) l ∧ idxOf (eqN name) l < l.length ∧ getB l name = (rd_T47 l (idxOf (eqN name) l)).f1 := by
  unfold idxOf at h ⊢
  unfold getB
  cases hf : l.findIdx? (eqN name) with
  | none => rw [hf] at h; simp at h
  | some i =>
    have hf2 := hf
    rw [List.findIdx?_eq_some_iff_getElem] at hf
    obtain ⟨hi, h1, h2⟩ := hf
    simp only
    refine ⟨by omega, by omega, ?_⟩
    rw [rd47_eq l i (by omega) (by omega)]
    have : l.find? (eqN name) = some l[i] := by
      rw [List.find?_eq_some_iff_getElem]
      exact ⟨h1, i, hi, rfl, fun j hj => by have := h2 j hj; simpa using this⟩
    rw [this]
    simp

set_option maxHeartbeats 1000000 in
set_option maxRecDepth 100000 in
theorem labels_Get.calls (A0 : Option Addr) (c0 : Nat) (l0 : List (S47)) (a1 : ByteArray) (r : ByteArray) (w : World) (hr0 : Kd.C k47 w A0 l0.length l0) (hc0 : l0.length ≤ c0) (h : labels_Get.f l0 a1 = some r) :
    Calls Tryz.prog 25 #[.slice A0 l0.length c0, .string a1] w fun e w' => e = .returned (.string r) ∧ Below w.heap.size w w' := by
  unfold labels_Get.f at h
  by_cases hm : l0.length ≤ 4611686018427387904
  · rw [if_pos hm] at h
    have HH := Aside0.mk (Option.some.inj h)
    have HI := Aside0.mk (get_idx l0 a1 A0 c0 w hr0 hc0 hm)
    have HR := Aside0.mk hr0
    have hb0 : Below w.heap.size w (w.alloc (.cells #[.string a1] 9)) := (Below.refl _ w).alloc (Nat.le_refl _) _
    have HB0 := Aside0.mk hb0
    clear h hr0 hb0 hm
    have HN := Aside0.mk (getB_none l0 a1)
    have HS := Aside0.mk (getB_some l0 a1)
    have hu47 := Tryz.underlying47
    obtain ⟨i, hi⟩ : ∃ i, idxOf (eqN a1) l0 = i := ⟨_, rfl⟩
    rw [hi] at HI HN HS
    clear hi
    by_cases hlt : i < 0
    · have hg := Aside0.mk (HN.out hlt)
      go_enter Tryz.func25, Tryz.ntmps25
      go_wp2_with (go_at_call 51; refine HI.out.mono ?_; clear HI; rintro e w1 ⟨rfl, hb1⟩)
      go_ret
      exact ⟨by rw [← HH.out, hg.out]; rfl, HB0.out.trans (hb1.mono (by omega))⟩
    · obtain ⟨p1, p2, p3⟩ := HS.out hlt
      have HG := Aside0.mk p3
      have hge : ¬ i < 0 := hlt
      clear p3
      go_enter Tryz.func25, Tryz.ntmps25
      go_wp2_with (go_at_call 51; refine HI.out.mono ?_; clear HI; rintro e w1 ⟨rfl, hb1⟩; obtain ⟨ad, e, hx0, hx1⟩ := at_T47 (Kd.C_below HR.out (HB0.out.trans (hb1.mono (by omega)))) i p1 p2; cases e)
      go_ret
      exact ⟨by rw [← HH.out, HG.out]; rfl, HB0.out.trans (hb1.mono (by omega))⟩
  · rw [if_neg hm] at h; cases h
end Go.Proofs.YtmhilolgjcfhjaaGreat.X
