/- strings.NewReplacer at the words of labels.Key, and Replace. -/
import Derived.Test.YtmhilolgjcfhjaaGreatPA
import Derived.Tactics
import Derived.Tactics2
import Derived.Defers
import Derived.Laws.Pointers
import Derived.Laws.LoneSync
import Derived.RegionTactic
import Derived.RegionCalls
import Derived.ChangeAlike
import Derived.Laws.Tables
import Derived.WalkSpells
import Derived.Lib.Bytealg
import Derived.Deep.RegionLaw
import Derived.Laws.Cover3
import Derived.Shelf.Abstract
set_option linter.unusedVariables false
set_option linter.unusedSimpArgs false

/- sync.Once, one goroutine, the lock free: after the worked proof at the kit's toy (Lazy), turned to this program and to whatever function is handed in. -/
namespace Go.Proofs.YtmhilolgjcfhjaaGreat.X
open Go.RowKit Go.Proofs.YtmhilolgjcfhjaaGreatW.PrintWords Go.Proofs.YtmhilolgjcfhjaaGreatW.PrintLast Go.Proofs.YtmhilolgjcfhjaaGreatW.PrintMore

theorem on_disable (w : World) : (callFunc 97 #[]).run Tryz.prog w = .ok (.value (.tuple #[])) w := run_call_mark0 Tryz.func97 (by kernel_rfl) (by kernel_rfl) (by kernel_rfl) .disable (by kernel_rfl) w
theorem on_enable (w : World) : (callFunc 99 #[]).run Tryz.prog w = .ok (.value (.tuple #[])) w := run_call_mark0 Tryz.func99 (by kernel_rfl) (by kernel_rfl) (by kernel_rfl) .enable (by kernel_rfl) w
theorem on_acquire (a : Addr) (w : World) : (callFunc 100 #[.pointer (some a)]).run Tryz.prog w = .ok (.value (.tuple #[])) w := run_call_marked Tryz.func100 (by kernel_rfl) (by kernel_rfl) (by kernel_rfl) .acquire (by kernel_rfl) a w
theorem on_release (a : Addr) (w : World) : (callFunc 102 #[.pointer (some a)]).run Tryz.prog w = .ok (.value (.tuple #[])) w := run_call_marked Tryz.func102 (by kernel_rfl) (by kernel_rfl) (by kernel_rfl) .releaseMerge (by kernel_rfl) a w

theorem on_b32 (w : World) : Calls Tryz.prog 94 #[.bool true] w fun e w' => e = .returned (.int .u32 1) ∧ w' = w := by
  go_enter Tryz.func94, Tryz.ntmps94
  go_wp2
  go_ret
  exact ⟨rfl, rfl⟩
theorem on_load (a : Addr) (d : Int) (w : World) (h0 : w.cell? a = some (.int .u32 d)) :
    Calls Tryz.prog 75 #[.pointer (some a)] w fun e w' => e = .returned (.bool (d != 0)) ∧ w' = w := by
  have hl := run_call_load (P := Tryz.prog) Tryz.func82 (by kernel_rfl) (by kernel_rfl) (by kernel_rfl) .u32 (by kernel_rfl) h0
  go_enter Tryz.func75, Tryz.ntmps75
  go_wp2
  go_ret
  exact ⟨rfl, rfl⟩
/-- '(*sync/atomic.Bool).Store(true)', ENTERED AS A DEFERRED CALL: the cell holds 1. -/
theorem on_store_deferred (a : Addr) (x : Value) (u : FrameMode) (w : World) (hc : w.cell? a = some x) (hz : w.frozen? a = false) :
    CallsD Tryz.prog 85 #[.pointer (some a), .bool true] u w fun e u' w' => u' = u ∧ (e = .returned (.tuple #[]) ∧ w' = w.drew.setCell a (.int .u32 1)) := by
  have hc' : w.drew.cell? a = some x := by go_simp
  have hz' : w.drew.frozen? a = false := by go_simp
  have hst := run_call_store (P := Tryz.prog) Tryz.func93 (by kernel_rfl) (by kernel_rfl) (by kernel_rfl) (by kernel_rfl) (k := .u32) (y := 1) hc' hz'
  go_enter_d Tryz.func85, Tryz.ntmps85
  go_wp2
  go_region_calls
  all_goals (go_end0; exact ⟨rfl, rfl⟩)

set_option maxRecDepth 100000 in
theorem on_unlock_in (a : Addr) (w : World) (hc : w.cell? a = some (.int .i32 1)) (hz : w.frozen? a = false) :
    Calls Tryz.prog 92 #[.pointer (some a)] w fun e w' => e = .returned (.tuple #[]) ∧ w' = w.setCell a (.int .i32 0) := by
  have hd := on_disable
  have he := on_enable
  have hr := on_release
  have hadd := run_call_add (P := Tryz.prog) Tryz.func103 (by kernel_rfl) (by kernel_rfl) (by kernel_rfl) .i32 (by kernel_rfl) (y := -1) (s := 0) hc hz (by simp [go_sem]; rfl)
  have hcv := run_convert_to_unsafe (P := Tryz.prog) (src := 142) (dst := 125) Tryz.underlying142 Tryz.underlying125 (by kernel_rfl) hc
  go_enter Tryz.func92, Tryz.ntmps92
  go_wp2
  go_end0
  exact ⟨rfl, rfl⟩
theorem on_unlock_deferred (a : Addr) (u : FrameMode) (w : World) (hc : w.cell? a = some (.int .i32 1)) (hz : w.frozen? a = false) :
    CallsD Tryz.prog 84 #[.pointer (some a)] u w fun e u' w' => u' = u ∧ (e = .returned (.tuple #[]) ∧ w' = w.setCell a (.int .i32 0)) := by
  have h := on_unlock_in a w hc hz
  go_enter_d Tryz.func84, Tryz.ntmps84
  go_wp2_with (go_at_call 92; refine h.mono ?_; rintro e w' ⟨rfl, rfl⟩)
  go_end0
  exact ⟨rfl, rfl⟩
set_option maxRecDepth 100000 in
theorem on_lock_in (a : Addr) (w : World) (hc : w.cell? a = some (.int .i32 0)) (hz : w.frozen? a = false) :
    Calls Tryz.prog 91 #[.pointer (some a)] w fun e w' => e = .returned (.tuple #[]) ∧ w' = w.setCell a (.int .i32 1) := by
  have hd := on_disable
  have he := on_enable
  have ha := on_acquire
  have hcas := run_call_cas_hit (P := Tryz.prog) Tryz.func98 (by kernel_rfl) (by kernel_rfl) (by kernel_rfl) .i32 (by kernel_rfl) (y := 1) hc hz
  have hc' : (w.setCell a (.int .i32 1)).cell? a = some (.int .i32 1) := World.cell?_setCell_same w a _ hc
  have hcv := run_convert_to_unsafe (P := Tryz.prog) (src := 142) (dst := 125) Tryz.underlying142 Tryz.underlying125 (by kernel_rfl) hc'
  go_enter Tryz.func91, Tryz.ntmps91
  go_wp2
  first | go_end0 | (simp only [Exit.inBlock, Exit.then]; refine bodyPost_ret (results_none rfl _ _ _) rfl ?_) | refine bodyPost_ret (results_none rfl _ _ _) rfl ?_
  exact ⟨rfl, rfl⟩
theorem on_lock (a : Addr) (w : World) (hc : w.cell? a = some (.int .i32 0)) (hz : w.frozen? a = false) :
    Calls Tryz.prog 83 #[.pointer (some a)] w fun e w' => e = .returned (.tuple #[]) ∧ w' = w.setCell a (.int .i32 1) := by
  have h := on_lock_in a w hc hz
  go_enter Tryz.func83, Tryz.ntmps83
  go_wp2_with (go_at_call 91; refine h.mono ?_; rintro e w' ⟨rfl, rfl⟩)
  go_end0
  exact ⟨rfl, rfl⟩

set_option maxRecDepth 100000 in
set_option maxHeartbeats 1600000 in
/-- '(*sync.Once).doSlow', not yet done, the lock free, the function handed in as it may be. -/
theorem on_slow (b off : Nat) (q : Nat) (fi : Array Value) (Q : World → Prop) (w : World)
    (h0 : w.cell? ⟨b, off, none⟩ = some (.int .u32 0)) (h1 : w.cell? ⟨b, off + 1, none⟩ = some (.int .i32 0))
    (f1 : w.frozen? ⟨b, off + 1, none⟩ = false)
    (eg : ∀ args w, (callFunc q args).run Tryz.prog w = .ok (.enter q args) w)
    (hq : Calls Tryz.prog q fi (w.setCell ⟨b, off + 1, none⟩ (.int .i32 1)) fun e w' => e = .returned (.tuple #[]) ∧ Q w')
    (hQ : ∀ w', Q w' → w'.cell? ⟨b, off, none⟩ = some (.int .u32 0) ∧ w'.cell? ⟨b, off + 1, none⟩ = some (.int .i32 1) ∧ w'.frozen? ⟨b, off, none⟩ = false ∧ w'.frozen? ⟨b, off + 1, none⟩ = false) :
    Calls Tryz.prog 76 #[.pointer (some ⟨b, off, none⟩), .func (.func q) fi #[]] w fun e w' => e = .returned (.tuple #[]) ∧
      ∃ w2, Q w2 ∧ w' = (w2.drew.setCell ⟨b, off, none⟩ (.int .u32 1)).setCell ⟨b, off + 1, none⟩ (.int .i32 0) := by
  have hlk := on_lock ⟨b, off + 1, none⟩ w h1 f1
  have hld := on_load ⟨b, off, none⟩ 0 (w.setCell ⟨b, off + 1, none⟩ (.int .i32 1)) ((World.cell?_setCell_other _ ⟨b, off + 1, none⟩ ⟨b, off, none⟩ _ (by simp)).trans h0)
  have HQ := Aside0.mk hQ
  clear hQ h0 h1 f1
  generalize w.setCell ⟨b, off + 1, none⟩ (.int .i32 1) = w1 at hq hld hlk
  go_enter_defers Tryz.func76, Tryz.ntmps76
  go_wp2_with (go_at_call 83; refine hlk.mono ?_; rintro e w' ⟨rfl, rfl⟩)
  refine hld.mono ?_
  rintro e w3 ⟨rfl, rfl⟩
  clear hlk hld
  have hnot : ((0 : Int) != 0) = false := rfl
  go_wp2
  refine hq.mono ?_
  rintro e w2 ⟨rfl, hw2⟩
  obtain ⟨c0, c1, z0, z1⟩ := HQ.out w2 hw2
  clear hq HQ
  go_wp2
  refine leaves_cons (f := 85) (args := #[.pointer (some ⟨b, off, none⟩), .bool true]) (by simp) (by simp [go_sem]) ?_
  refine (on_store_deferred ⟨b, off, none⟩ (.int .u32 0) .returning _ c0 z0).mono ?_
  rintro e u' w'' ⟨rfl, rfl, rfl⟩
  refine leaves_cons (f := 84) (args := #[.pointer (some ⟨b, off + 1, none⟩)]) (by simp [settle]) (by simp [go_sem]) ?_
  refine (on_unlock_deferred ⟨b, off + 1, none⟩ _ _ ?_ (by simp [z1])).mono ?_
  · refine (World.cell?_setCell_other _ ⟨b, off, none⟩ ⟨b, off + 1, none⟩ _ (by simp)).trans ?_
    rw [World.cell?_drew]
    exact c1
  rintro e u' w'' ⟨rfl, rfl, rfl⟩
  simp [Leaves, settle, results, Tryz.results76]
  exact ⟨w2, hw2, rfl⟩

set_option maxRecDepth 100000 in
set_option maxHeartbeats 1600000 in
/-- '(*sync.Once).Do', not yet done, the lock free. -/
theorem on_do (b off : Nat) (q : Nat) (fi : Array Value) (Q : World → Prop) (w : World)
    (h0 : w.cell? ⟨b, off, none⟩ = some (.int .u32 0)) (h1 : w.cell? ⟨b, off + 1, none⟩ = some (.int .i32 0))
    (f1 : w.frozen? ⟨b, off + 1, none⟩ = false)
    (eg : ∀ args w, (callFunc q args).run Tryz.prog w = .ok (.enter q args) w)
    (hq : Calls Tryz.prog q fi (w.setCell ⟨b, off + 1, none⟩ (.int .i32 1)) fun e w' => e = .returned (.tuple #[]) ∧ Q w')
    (hQ : ∀ w', Q w' → w'.cell? ⟨b, off, none⟩ = some (.int .u32 0) ∧ w'.cell? ⟨b, off + 1, none⟩ = some (.int .i32 1) ∧ w'.frozen? ⟨b, off, none⟩ = false ∧ w'.frozen? ⟨b, off + 1, none⟩ = false) :
    Calls Tryz.prog 65 #[.pointer (some ⟨b, off, none⟩), .func (.func q) fi #[]] w fun e w' => e = .returned (.tuple #[]) ∧
      ∃ w2, Q w2 ∧ w' = (w2.drew.setCell ⟨b, off, none⟩ (.int .u32 1)).setCell ⟨b, off + 1, none⟩ (.int .i32 0) := by
  have hld := on_load ⟨b, off, none⟩ 0 w h0
  have HS := Aside0.mk (on_slow b off q fi Q w h0 h1 f1 eg hq hQ)
  clear hQ h0 h1 f1 hq eg
  have hnot : ((0 : Int) != 0) = false := rfl
  go_enter Tryz.func65, Tryz.ntmps65
  go_wp2_with (go_at_call 75; refine hld.mono ?_; rintro e w' ⟨rfl, rfl⟩)
  refine HS.out.mono ?_
  rintro e w2 ⟨rfl, hw2⟩
  have HW := Aside0.mk hw2
  clear hw2 hld HS
  go_wp2
  go_end0
  exact ⟨rfl, HW.out⟩
end Go.Proofs.YtmhilolgjcfhjaaGreat.X

/- strings.NewReplacer at labels.Key's four words, and what the replacer is when it is built. -/
namespace Go.Proofs.YtmhilolgjcfhjaaGreat.X
open Go.RowKit Go.Proofs.YtmhilolgjcfhjaaGreatW.PrintWords Go.Proofs.YtmhilolgjcfhjaaGreatW.PrintLast Go.Proofs.YtmhilolgjcfhjaaGreatW.PrintMore

/-- A replacer that is laid and not yet built: its block g, its words' block h. -/
structure NewRep (w : World) (g h cv : Nat) (xs : List ByteArray) : Prop where
  lt : h < g
  size : g < w.heap.size
  cap : 4 ≤ cv
  block : w.heap[g]? = some (.cells #[.int .u32 0, .int .i32 0, .int .u32 0, .nilIface, .slice (some ⟨h, 0, none⟩) 4 cv] 93)
  words : ∀ i : Nat, i < 4 → w.cell? ⟨h, i, none⟩ = some (.string (xs.getD i ByteArray.empty))

theorem strs_open {W : World} {base : Nat} {ok : Nat → Prop} {v : Value} {xs : List ByteArray} (h : Kd.R Kd.string 9 W base ok v xs) (h0 : 0 < xs.length) :
    ∃ (g cap : Nat), v = .slice (some ⟨g, 0, none⟩) xs.length cap ∧ base ≤ g ∧ g < W.heap.size ∧ xs.length ≤ cap ∧ ∀ i : Nat, i < xs.length → W.cell? ⟨g, i, none⟩ = some (.string (xs.getD i ByteArray.empty)) := by
  obtain ⟨A, c, rfl, hc, hC⟩ := Kd.R_reads h
  obtain ⟨ad, rfl, _⟩ := Kd.at_string hC 0 (by omega) (by omega)
  obtain ⟨inner, ho⟩ := Kd.R_own h
  rcases ho.2 with ⟨hv, _⟩ | ⟨g, cap, cur, hv, hb, hh, _⟩
  · cases hv
  · injection hv with h1 h2 h3
    injection h1 with h1
    subst h1
    refine ⟨g, c, rfl, hb, ?_, hc, fun i hi => ?_⟩
    · exact Array.getElem?_eq_some_iff.1 hh |>.1
    · obtain ⟨ad, e, hx⟩ := Kd.at_string hC i (by omega) (by omega)
      cases e
      have e2 : (⟨g, 0, none⟩ : Addr).add (i : Int).toNat = ⟨g, i, none⟩ := by simp [Addr.add]; omega
      rw [e2] at hx
      rw [hx]
      rfl

set_option maxHeartbeats 2000000 in
set_option maxRecDepth 100000 in
theorem new_replacer (A : Option Addr) (c : Nat) (xs : List ByteArray) (w : World) (hr : Kd.C Kd.string w A 4 xs) :
    Calls Tryz.prog 53 #[.slice A 4 c] w fun e w' => ∃ g h cv : Nat, e = .returned (.pointer (some ⟨g, 0, none⟩)) ∧ w.heap.size ≤ h ∧ NewRep w' g h cv xs ∧ Below w.heap.size w w' := by
  have HN := Aside0.mk (show xs.length = 4 from hr.1)
  have HR := Aside0.mk hr
  have HB := Aside0.mk (Below.refl w.heap.size w)
  clear hr
  go_enter Tryz.func53, Tryz.ntmps53
  go_wp2_with (((with_reducible refine gate_builtin (b := .append) (xs := #[.const (.slice none 0 0), .tmp 8]) rfl ?_); at_builtin; refine Kd.R_append_rows Kd.string (w0 := w) w.heap.size rfl (.const (.slice none 0 0)) (.tmp 8) 41 9 (.string ⟨#[]⟩) 16 rfl Tryz.underlying41 info9 rfl (by decide) (by omega) (.slice none 0 0) [] xs _ _ _ (fun _ => True) (fun _ => False) rfl rfl (Kd.R_nil _ _ _ _ _) HR.out (fun _ _ h => h) (fun _ h => h.elim) (fun _ _ => trivial) HB.out (Nat.le_refl _) (by simp) ?_; intro v1 w1 ho hb hg hat; rw [List.nil_append] at ho; have HO := Aside0.mk (strs_open ho (by have := HN.out; omega)); have HB1 := Aside0.mk hb; clear ho hb hg hat; obtain ⟨h, cv, rfl, o1, o2, o3, o4⟩ := HO.out; have HO1 := Aside0.mk o1; have HO2 := Aside0.mk o2;  have HO3 := Aside0.mk o3; have HO4 := Aside0.mk o4; clear HO o1 o2 o3 o4))
  go_ret
  have hn := HN.out
  refine ⟨w1.heap.size, h, cv, rfl, HO1.out, ⟨HO2.out, by rw [World.size_alloc]; omega, by have := HO3.out; omega, by rw [hn]; exact heap_alloc_new w1 _, fun i hi => ?_⟩, HB1.out.alloc HB1.out.size _⟩
  rw [World.cell?_alloc_lt _ _ _ HO2.out]
  exact HO4.out i (by omega)
end Go.Proofs.YtmhilolgjcfhjaaGreat.X

/- (*strings.Replacer).build at labels.Key's four words: what the built replacer is. -/
namespace Go.Proofs.YtmhilolgjcfhjaaGreat.X
open Go.RowKit Go.Proofs.YtmhilolgjcfhjaaGreatW.PrintWords Go.Proofs.YtmhilolgjcfhjaaGreatW.PrintLast Go.Proofs.YtmhilolgjcfhjaaGreatW.PrintMore

/-- The words that Key hands to NewReplacer. -/
def words : List ByteArray := [⟨#[92]⟩, ⟨#[92, 92]⟩, ⟨#[34]⟩, ⟨#[92, 34]⟩]

theorem mk_strs2 (W : World) : (Instr.makeSlice 41 (.int .i64 0) (.int .i64 2)).run Tryz.prog W = .ok (.slice (some ⟨W.heap.size, 0, none⟩) 0 2) (W.alloc (.cells #[.string ⟨#[]⟩, .string ⟨#[]⟩] 9)) := by
  obtain ⟨i, hi, hz⟩ := Option.map_eq_some_iff.1 info9
  simp only [Prod.mk.injEq] at hz
  have := run_make (P := Tryz.prog) W 41 9 i (.string ⟨#[]⟩) Tryz.underlying41 hi hz.1 .i64 .i64 0 2 (by omega) (by omega) (by rw [hz.2.2]; decide) (by decide)
  rw [this, hz.2.1, show madeCells (Value.string ⟨#[]⟩).cells (Int.toNat 2 * 1) = #[.string ⟨#[]⟩, .string ⟨#[]⟩] by kernel_rfl]
  rfl
theorem zeros123 : Tryz.zeroCells123.toList = List.replicate 257 (.slice none 0 0) := by kernel_rfl
theorem store_repl (W : World) (n : Nat) (hn : n = W.heap.size) (v : Value) (hv : v.oneCell' = true) :
    (storeCells ⟨n, 0, none⟩ (Tryz.zeroCells123.toList.set 256 v)).run Tryz.prog (W.alloc (.cells Tryz.zeroCells123 123)) = .ok () (W.alloc (.cells (Tryz.zeroCells123.toList.set 256 v).toArray 123)) := by
  subst hn
  have hsz : Tryz.zeroCells123.size = 257 := by rw [← Array.length_toList, zeros123, List.length_replicate]
  rw [run_storeCells_from W.heap.size 123 _ 0 Tryz.zeroCells123 _ (heap_alloc_new W _) (by simp) (by
    rw [zeros123]
    intro x hx
    rcases List.mem_or_eq_of_mem_set hx with h | h
    · rw [(List.mem_replicate.1 h).2]; rfl
    · rw [h]; exact hv)]
  congr 1
  unfold World.alloc World.setRow
  congr 1
  apply Array.ext
  · simp
  · intro k h1 h2
    simp only [Array.getElem_modify, Array.getElem_push]
    by_cases hk : k < W.heap.size
    · simp [hk, Nat.ne_of_gt hk]
    · have : k = W.heap.size := by simp at h2; omega
      subst this
      simp

/-- A replacer of bytes while it is built: its block G, its table f, its words. -/
structure BS (w W : World) (G : Nat) (f : Nat → Value) (v v' : Value) (l : List ByteArray) : Prop where
  below : Below w.heap.size w W
  base : w.heap.size ≤ G
  lt : G < W.heap.size
  free : ∀ j, W.frozen? ⟨G, j, none⟩ = false
  tab : ∀ b : Nat, b < 256 → W.cell? ⟨G, b, none⟩ = some (f b)
  last : W.cell? ⟨G, 256, none⟩ = some v
  own : Kd.R Kd.string 9 W w.heap.size (fun k => k ≠ G) v' l
/-- Two bytes of the call's own. -/
structure Two (w W : World) (G n : Nat) (a b : Int) : Prop where
  base : w.heap.size ≤ n
  lt : n < W.heap.size
  ne : n ≠ G
  c0 : W.cell? ⟨n, 0, none⟩ = some (.int .u8 a)
  c1 : W.cell? ⟨n, 1, none⟩ = some (.int .u8 b)
theorem bs_start (w : World) : BS w ((w.alloc (.cells #[.string ⟨#[]⟩, .string ⟨#[]⟩] 9)).alloc (.cells (Tryz.zeroCells123.toList.set 256 (.slice (some ⟨w.heap.size, 0, none⟩) 0 2)).toArray 123)) (w.heap.size + 1) (fun _ => .slice none 0 0) (.slice (some ⟨w.heap.size, 0, none⟩) 0 2) (.slice (some ⟨w.heap.size, 0, none⟩) 0 2) [] := by
  have hz : ∀ j : Nat, (Tryz.zeroCells123.toList.set 256 (.slice (some ⟨w.heap.size, 0, none⟩) 0 2)).toArray[j]? = if j = 256 then some (.slice (some ⟨w.heap.size, 0, none⟩) 0 2) else if j < 257 then some (.slice none 0 0) else none := by
    intro j
    rw [zeros123, List.getElem?_toArray, List.getElem?_set, List.getElem?_replicate]
    by_cases e : 256 = j
    · subst e; rw [if_pos rfl, if_pos (by rw [List.length_replicate]; omega), if_pos rfl]
    · rw [if_neg e, if_neg (Ne.symm e)]
  have hb1 : Below w.heap.size w (w.alloc (.cells #[.string ⟨#[]⟩, .string ⟨#[]⟩] 9)) := (Below.refl _ _).alloc (Nat.le_refl _) _
  have hs1 : (w.alloc (.cells #[.string ⟨#[]⟩, .string ⟨#[]⟩] 9)).heap.size = w.heap.size + 1 := World.size_alloc _ _
  have hb2 := fun o : Obj => hb1.alloc (by rw [hs1]; omega) o
  refine ⟨hb2 _, by omega, by rw [World.size_alloc, hs1]; omega, fun j => ?_, fun b hb => ?_, ?_, ?_⟩
  · exact World.frozen?_alloc_at (w := w.alloc (.cells #[.string ⟨#[]⟩, .string ⟨#[]⟩] 9)) _ _ _ _ hs1.symm
  · have := World.cell?_alloc_new (w := w.alloc (.cells #[.string ⟨#[]⟩, .string ⟨#[]⟩] 9)) (Tryz.zeroCells123.toList.set 256 (.slice (some ⟨w.heap.size, 0, none⟩) 0 2)).toArray 123 b
    rw [hs1] at this
    rw [this, hz, if_neg (by omega), if_pos (by omega)]
  · have := World.cell?_alloc_new (w := w.alloc (.cells #[.string ⟨#[]⟩, .string ⟨#[]⟩] 9)) (Tryz.zeroCells123.toList.set 256 (.slice (some ⟨w.heap.size, 0, none⟩) 0 2)).toArray 123 256
    rw [hs1] at this
    rw [this, hz, if_pos rfl]
  · have ho : Kd.R Kd.string 9 (w.alloc (.cells #[.string ⟨#[]⟩, .string ⟨#[]⟩] 9)) w.heap.size (fun k => k ≠ w.heap.size + 1) (.slice (some ⟨w.heap.size, 0, none⟩) 0 2) [] := by
      refine ⟨fun k hk => ?_, [], World.ownsRow_made w #[.string ⟨#[]⟩, .string ⟨#[]⟩] 2 (Nat.le_refl _) (by decide) rfl, Reps.none _ _⟩
      have : w.heap.size = k := by simpa [Value.ownBlock] using hk
      omega
    exact Kd.R_below ho ((Below.refl _ _).alloc (Nat.le_refl _) _)
theorem BS.grown {w W w1 : World} {G : Nat} {f : Nat → Value} {v v' v1 : Value} {l l1 : List ByteArray} (h : BS w W G f v v' l) (hg : W.grownBy w1 v'.ownBlock) (hb : Below w.heap.size w w1) (ho : Kd.R Kd.string 9 w1 w.heap.size (fun k => k ≠ G) v1 l1) : BS w w1 G f v v1 l1 := by
  have hne : some G ≠ v'.ownBlock := fun e => h.own.1 G e.symm rfl
  have hc : ∀ j, w1.cell? ⟨G, j, none⟩ = W.cell? ⟨G, j, none⟩ := fun j => hg.cell_far ⟨G, j, none⟩ h.lt hne
  exact ⟨hb, h.base, Nat.lt_of_lt_of_le h.lt hg.size, fun j => (hg.frozen_far ⟨G, j, none⟩ h.lt hne).trans (h.free j), fun b hb => (hc b).trans (h.tab b hb), (hc 256).trans h.last, ho⟩
theorem BS.on {w W W' : World} {G : Nat} {f : Nat → Value} {v v' : Value} {l : List ByteArray} (h : BS w W G f v v' l) (hb : Below W.heap.size W W') : BS w W' G f v v' l := by
  exact ⟨h.below.trans (hb.mono h.below.size), h.base, Nat.lt_of_lt_of_le h.lt hb.size, fun j => (hb.frozen (p := ⟨G, j, none⟩) h.lt).trans (h.free j), fun b hb' => (hb.cell (p := ⟨G, b, none⟩) h.lt).trans (h.tab b hb'), (hb.cell (p := ⟨G, 256, none⟩) h.lt).trans h.last, Kd.R_below h.own hb⟩
theorem BS.alloc {w W : World} {G : Nat} {f : Nat → Value} {v v' : Value} {l : List ByteArray} (h : BS w W G f v v' l) (o : Obj) : BS w (W.alloc o) G f v v' l :=
  h.on ((Below.refl _ _).alloc (Nat.le_refl _) _)
theorem below_bytes (W : World) (e : TypeId) (s : ByteArray) : Below W.heap.size W (Lib.bytesWorld W e s) :=
  ⟨rfl, rfl, rfl, by rw [Lib.bytesWorld_size]; omega, fun k hk => Lib.bytesWorld_at_old W e s k hk⟩
theorem Two.on {w W W' : World} {G n : Nat} {a b : Int} (h : Two w W G n a b) (hb : Below W.heap.size W W') : Two w W' G n a b :=
  ⟨h.base, Nat.lt_of_lt_of_le h.lt hb.size, h.ne, (hb.cell (p := ⟨n, 0, none⟩) h.lt).trans h.c0, (hb.cell (p := ⟨n, 1, none⟩) h.lt).trans h.c1⟩
theorem Two.put {w W : World} {G n : Nat} {a b : Int} (h : Two w W G n a b) (k : Nat) (u : Value) : Two w (W.setCell ⟨G, k, none⟩ u) G n a b :=
  ⟨h.base, by simpa [World.setCell] using h.lt, h.ne, (World.cell?_setCell_far _ _ _ _ (Ne.symm h.ne)).trans h.c0, (World.cell?_setCell_far _ _ _ _ (Ne.symm h.ne)).trans h.c1⟩
theorem two_bytes {w W : World} {G : Nat} (hb : w.heap.size ≤ W.heap.size) (hG : G < W.heap.size) (a b : UInt8) : Two w (Lib.bytesWorld W 5 ⟨#[a, b]⟩) G W.heap.size a.toNat b.toNat :=
  ⟨hb, by rw [Lib.bytesWorld_size]; omega, by omega, Lib.bytesWorld_cell W 5 ⟨#[a, b]⟩ 0 (by show 0 < 2; omega), Lib.bytesWorld_cell W 5 ⟨#[a, b]⟩ 1 (by show 1 < 2; omega)⟩
/-- The replacer of bytes that is built. -/
def Built (w W : World) (G : Nat) : Prop := ∃ v n1 c1 n2 c2, Two w W G n1 92 34 ∧ Two w W G n2 92 92 ∧ BS w W G (fun b => if b = 92 then .slice (some ⟨n2, 0, none⟩) 2 c2 else if b = 34 then .slice (some ⟨n1, 0, none⟩) 2 c1 else .slice none 0 0) v v [⟨#[34]⟩, ⟨#[92]⟩]
theorem Two.grown2 {w W w1 : World} {G n base : Nat} {ok : Nat → Prop} {a b : Int} {v : Value} {l : List ByteArray} (h : Two w W G n a b) (hg : W.grownBy w1 v.ownBlock) (ho : Kd.R Kd.string 9 W base ok v l) (hl : 0 < l.length) : Two w w1 G n a b := by
  have hne : some n ≠ v.ownBlock := by
    intro e
    obtain ⟨g, cap, rfl, _, _, _, hc⟩ := strs_open ho hl
    have e2 : n = g := by simpa [Value.ownBlock] using e
    subst e2
    have := hc 0 hl
    rw [h.c0] at this
    cases this
  exact ⟨h.base, Nat.lt_of_lt_of_le h.lt hg.size, h.ne, (hg.cell_far ⟨n, 0, none⟩ h.lt hne).trans h.c0, (hg.cell_far ⟨n, 1, none⟩ h.lt hne).trans h.c1⟩
theorem one_byte (W : World) (b : UInt8) : (convert 73 9 (.slice (some ⟨W.heap.size, 0, none⟩) 1 1)).run Tryz.prog (W.alloc (.cells #[.int .u8 b.toNat] 5)) = .ok (.string ⟨#[b]⟩) (W.alloc (.cells #[.int .u8 b.toNat] 5)) := by
  exact run_convert_bytes_back (P := Tryz.prog) (W.alloc (.cells #[.int .u8 b.toNat] 5)) 73 9 5 ⟨W.heap.size, 0, none⟩ 1 [b] Tryz.underlying73 Tryz.underlying5 Tryz.underlying9 (fun j hj => by
    have : j = 0 := by simpa using hj
    subst this
    rw [show (⟨W.heap.size, 0, none⟩ : Addr).add 0 = ⟨W.heap.size, 0, none⟩ by simp [Addr.add], World.cell?_alloc_new]
    rfl)
theorem to_bytes (s : ByteArray) (W : World) : (convert 9 73 (.string s)).run Tryz.prog W = .ok (.slice (some ⟨W.heap.size, 0, none⟩) s.size (grownCap W s.size 0 5)) (Lib.bytesWorld W 5 s) :=
  Lib.run_convert_string_bytes (P := Tryz.prog) W 9 73 5 s Tryz.underlying9 Tryz.underlying73 Tryz.underlying5
theorem BS.put {w W : World} {G : Nat} {f : Nat → Value} {v v' : Value} {l : List ByteArray} (h : BS w W G f v v' l) (k : Nat) (hk : k < 256) (u : Value) : BS w (W.setCell ⟨G, k, none⟩ u) G (fun b => if b = k then u else f b) v v' l := by
  refine ⟨h.below.setCell h.base _, h.base, by simpa [World.setCell] using h.lt, fun j => (World.frozen?_setCell _ _ _ _).trans (h.free j), fun b hb => ?_, ?_, Kd.R_far h.own (fun k hk => hk) u⟩
  · by_cases e : b = k
    · subst e; rw [if_pos rfl]; exact World.cell?_setCell_same _ _ _ (h.tab b hb)
    · rw [if_neg e, World.cell?_setCell_other _ _ _ _ (fun e2 => e (by injection e2 with _ e3; exact e3.symm))]; exact h.tab b hb
  · rw [World.cell?_setCell_other _ _ _ _ (fun e2 => by injection e2; omega)]; exact h.last
theorem BS.putLast {w W : World} {G : Nat} {f : Nat → Value} {v v' : Value} {l : List ByteArray} (h : BS w W G f v v' l) (u : Value) : BS w (W.setCell ⟨G, 256, none⟩ u) G f u v' l := by
  refine ⟨h.below.setCell h.base _, h.base, by simpa [World.setCell] using h.lt, fun j => (World.frozen?_setCell _ _ _ _).trans (h.free j), fun b hb => ?_, ?_, Kd.R_far h.own (fun k hk => hk) u⟩
  · rw [World.cell?_setCell_other _ _ _ _ (fun e2 => by injection e2; omega)]; exact h.tab b hb
  · exact World.cell?_setCell_same _ _ _ h.last

set_option maxHeartbeats 2000000 in
set_option maxRecDepth 100000 in
theorem build_replacer (g h cv : Nat) (w : World) (h4 : w.cell? ⟨g, 4, none⟩ = some (.slice (some ⟨h, 0, none⟩) 4 cv)) (_hcv : 4 ≤ cv)
    (x0 : w.cell? ⟨h, 0, none⟩ = some (.string ⟨#[92]⟩)) (x1 : w.cell? ⟨h, 1, none⟩ = some (.string ⟨#[92, 92]⟩)) (x2 : w.cell? ⟨h, 2, none⟩ = some (.string ⟨#[34]⟩)) (x3 : w.cell? ⟨h, 3, none⟩ = some (.string ⟨#[92, 34]⟩)) :
    Calls Tryz.prog 77 #[.pointer (some ⟨g, 0, none⟩)] w fun e w' => ∃ G : Nat, e = .returned (.iface 124 (.pointer (some ⟨G, 0, none⟩))) ∧ Built w w' G := by
  have b34 : ∀ hh, ((⟨#[34]⟩ : ByteArray)[0]'hh).toNat = 34 := fun _ => rfl
  have b92 : ∀ hh, ((⟨#[92]⟩ : ByteArray)[0]'hh).toNat = 92 := fun _ => rfl
  have hnil := fun W => Lib.run_eql_slice_nil (P := Tryz.prog) W 73 5 none 0 0 0 0 Tryz.underlying73
  have hone34 : ∀ W : World, (convert 73 9 (.slice (some ⟨W.heap.size, 0, none⟩) 1 1)).run Tryz.prog (W.alloc (.cells #[.int .u8 34] 5)) = .ok (.string ⟨#[34]⟩) (W.alloc (.cells #[.int .u8 34] 5)) := fun W => one_byte W 34
  have hone92 : ∀ W : World, (convert 73 9 (.slice (some ⟨W.heap.size, 0, none⟩) 1 1)).run Tryz.prog (W.alloc (.cells #[.int .u8 92] 5)) = .ok (.string ⟨#[92]⟩) (W.alloc (.cells #[.int .u8 92] 5)) := fun W => one_byte W 92
  have htb := to_bytes ⟨#[92, 34]⟩
  have htb2 := to_bytes ⟨#[92, 92]⟩
  have hmk := mk_strs2
  have hst := store_repl (w.alloc (.cells #[.string ⟨#[]⟩, .string ⟨#[]⟩] 9)) (w.heap.size + 1) (by rw [World.size_alloc]) (.slice (some ⟨w.heap.size, 0, none⟩) 0 2) rfl
  go_enter Tryz.func77, Tryz.ntmps77
  go_wp2_with fail
  go_loopg [4, 5] 3 (fun gg v4 v5 wr => wr = w ∧ ((v4 = .bool true ∧ v5 = .int .i64 0 ∧ 2 ≤ gg) ∨ (v4 = .bool false ∧ v5 = .int .i64 2 ∧ 1 ≤ gg) ∨ (v4 = .bool false ∧ v5 = .int .i64 4)))
  case atStart => exact ⟨rfl, .inl ⟨rfl, rfl, by omega⟩⟩
  case round =>
    obtain ⟨rfl, hrel⟩ := hrel
    rcases hrel with ⟨rfl, rfl, hg⟩ | ⟨rfl, rfl, hg⟩ | ⟨rfl, rfl⟩
    · go_wp2_with fail
      go_roundg 1
      case measure => omega
      case rel => exact ⟨rfl, .inr (.inl ⟨rfl, rfl, by omega⟩)⟩
    · go_wp2_with fail
      go_roundg 0
      case measure => omega
      case rel => exact ⟨rfl, .inr (.inr ⟨rfl, rfl⟩)⟩
    · go_wp2_with fail
      clear hst hmk
      have HS := Aside0.mk (bs_start wr)
      have HX := Aside0.mk (And.intro x0 (And.intro x1 (And.intro x2 x3)))
      clear h4 x0 x1 x2 x3
      generalize hW : (wr.alloc (.cells #[.string ⟨#[]⟩, .string ⟨#[]⟩] 9)).alloc (.cells (Tryz.zeroCells123.toList.set 256 (.slice (some ⟨wr.heap.size, 0, none⟩) 0 2)).toArray 123) = W at HS ⊢
      clear hW
      generalize wr.heap.size + 1 = G at HS ⊢
      generalize (Value.slice (some ⟨wr.heap.size, 0, none⟩) 0 2) = v0 at HS
      obtain ⟨w, hw⟩ : ∃ w : World, w = wr := ⟨_, rfl⟩
      subst hw
      go_loopg [12, 13] 3 (fun gg v12 _ W => (v12 = .int .i64 2 ∧ 2 ≤ gg ∧ Aside0 (∃ v, BS w W G (fun _ => .slice none 0 0) v v [])) ∨
        (v12 = .int .i64 0 ∧ 1 ≤ gg ∧ Aside0 (∃ v n1 c1, Two w W G n1 92 34 ∧ BS w W G (fun b => if b = 34 then .slice (some ⟨n1, 0, none⟩) 2 c1 else .slice none 0 0) v v [⟨#[34]⟩])) ∨
        (v12 = .int .i64 (-2) ∧ Aside0 (Built w W G)))
      case atStart => exact .inl ⟨rfl, by omega, ⟨_, HS.out⟩⟩
      case round =>
        rcases hrel with ⟨rfl, hg, hS⟩ | ⟨rfl, hg, hS⟩ | ⟨rfl, hS⟩
        · obtain ⟨v, hS⟩ := hS.out
          have y2 : wr.cell? ⟨h, 2, none⟩ = some (.string ⟨#[34]⟩) := (hS.below.cell (block_lt_of_cell HX.out.2.2.1)).trans HX.out.2.2.1
          have y3 : wr.cell? ⟨h, 3, none⟩ = some (.string ⟨#[92, 34]⟩) := (hS.below.cell (block_lt_of_cell HX.out.2.2.2)).trans HX.out.2.2.2
          have t34 : wr.cell? ⟨G, 34, none⟩ = some (.slice none 0 0) := hS.tab 34 (by omega)
          have tl : wr.cell? ⟨G, 256, none⟩ = some v := hS.last
          have hlt := hS.lt
          have HSS := Aside0.mk hS
          clear hS
          go_wp2_with (((with_reducible refine gate_builtin (b := .append) (xs := #[.tmp 119, .tmp 123]) rfl ?_); at_builtin; refine Kd.R_append Kd.string (w0 := w) w.heap.size rfl (.tmp 119) (.tmp 123) 41 9 (.string ⟨#[]⟩) 16 rfl Tryz.underlying41 info9 rfl (by decide) (by omega) v [] ⟨#[34]⟩ [.string ⟨#[34]⟩] (fun k => k ≠ G) (fun _ => False) rfl ?hx ?aP (fun _ hk => hk.elim) ?aF ?aO ?aB ?aS (by simp) ?_; (case hx => rw [World.size_alloc]; rfl); (case aP => exact rfl); (case aF => intro k hk; rw [World.size_alloc] at hk; omega); (case aO => exact (HSS.out.alloc _).own); (case aB => exact (HSS.out.alloc _).below); (case aS => exact (HSS.out.alloc _).below.size); intro v1 w1 ho hb hg hat; have HS1 := Aside0.mk ((HSS.out.alloc (.cells #[.int .u8 34] 5)).grown hg hb ho); clear ho hb hg hat HSS; obtain ⟨A1, c1, ev⟩ : ∃ A1 c1, v1 = .slice A1 1 c1 := Kd.R_slice HS1.out.own; subst ev; have e1 := HS1.out.last; have e2 := HS1.out.free 256; have HS2 := Aside0.mk ((HS1.out.putLast (.slice A1 1 c1)).on (below_bytes _ 5 ⟨#[92, 34]⟩)); have e3 := HS2.out.tab 34 (by omega); have e4 := HS2.out.free 34))
          go_roundg 1
          case measure => omega
          case rel =>
            refine .inr (.inl ⟨rfl, by omega, ⟨⟨_, w1.heap.size, _, ?_, (HS2.out.put 34 (by omega) _)⟩⟩⟩)
            have := (two_bytes (w := w) (W := w1.setCell ⟨G, 256, none⟩ (.slice A1 1 c1)) (G := G) (HS1.out.putLast (.slice A1 1 c1)).below.size (HS1.out.putLast (.slice A1 1 c1)).lt 92 34).put 34 (.slice (some ⟨w1.heap.size, 0, none⟩) 2 (grownCap (w1.setCell ⟨G, 256, none⟩ (.slice A1 1 c1)) 2 0 5))
            have e : (w1.setCell ⟨G, 256, none⟩ (.slice A1 1 c1)).heap.size = w1.heap.size := by simp [World.setCell]
            rw [e] at this
            exact this
        · obtain ⟨v, n1, k1, hT, hS⟩ := hS.out
          have y2 : wr.cell? ⟨h, 0, none⟩ = some (.string ⟨#[92]⟩) := (hS.below.cell (block_lt_of_cell HX.out.1)).trans HX.out.1
          have y3 : wr.cell? ⟨h, 1, none⟩ = some (.string ⟨#[92, 92]⟩) := (hS.below.cell (block_lt_of_cell HX.out.2.1)).trans HX.out.2.1
          have t34 : wr.cell? ⟨G, 92, none⟩ = some (.slice none 0 0) := hS.tab 92 (by omega)
          have tl : wr.cell? ⟨G, 256, none⟩ = some v := hS.last
          have hlt := hS.lt
          have HSS := Aside0.mk hS
          have HT := Aside0.mk hT
          clear hS hT
          go_wp2_with (((with_reducible refine gate_builtin (b := .append) (xs := #[.tmp 119, .tmp 123]) rfl ?_); at_builtin; refine Kd.R_append Kd.string (w0 := w) w.heap.size rfl (.tmp 119) (.tmp 123) 41 9 (.string ⟨#[]⟩) 16 rfl Tryz.underlying41 info9 rfl (by decide) (by omega) v [⟨#[34]⟩] ⟨#[92]⟩ [.string ⟨#[92]⟩] (fun k => k ≠ G) (fun _ => False) rfl ?hx ?aP (fun _ hk => hk.elim) ?aF ?aO ?aB ?aS (by simp) ?_; (case hx => rw [World.size_alloc]; rfl); (case aP => exact rfl); (case aF => intro k hk; rw [World.size_alloc] at hk; omega); (case aO => exact (HSS.out.alloc _).own); (case aB => exact (HSS.out.alloc _).below); (case aS => exact (HSS.out.alloc _).below.size); intro v1 w1 ho hb hg hat; have HS1 := Aside0.mk ((HSS.out.alloc (.cells #[.int .u8 92] 5)).grown hg hb ho); have HG := Aside0.mk hg; have HN := Aside0.mk ((HSS.out.alloc (.cells #[.int .u8 92] 5)).own); clear ho hb hg hat HSS; obtain ⟨A1, c1, ev⟩ : ∃ A1 c1, v1 = .slice A1 2 c1 := Kd.R_slice HS1.out.own; subst ev; have e1 := HS1.out.last; have e2 := HS1.out.free 256; have HS2 := Aside0.mk ((HS1.out.putLast (.slice A1 2 c1)).on (below_bytes _ 5 ⟨#[92, 92]⟩)); have e3 := HS2.out.tab 92 (by omega); have e4 := HS2.out.free 92))
          go_roundg 0
          case measure => omega
          case rel =>
            refine .inr (.inr ⟨rfl, ⟨⟨_, n1, k1, w1.heap.size, _, ?_, ?_, (HS2.out.put 92 (by omega) _)⟩⟩⟩)
            · exact (((HT.out.on ((Below.refl _ _).alloc (Nat.le_refl _) (.cells #[.int .u8 92] 5))).grown2 HG.out HN.out (by simp)).put 256 _).on (below_bytes _ 5 ⟨#[92, 92]⟩) |>.put 92 _
            have := (two_bytes (w := w) (W := w1.setCell ⟨G, 256, none⟩ (.slice A1 2 c1)) (G := G) (HS1.out.putLast (.slice A1 2 c1)).below.size (HS1.out.putLast (.slice A1 2 c1)).lt 92 92).put 92 (.slice (some ⟨w1.heap.size, 0, none⟩) 2 (grownCap (w1.setCell ⟨G, 256, none⟩ (.slice A1 2 c1)) 2 0 5))
            have e : (w1.setCell ⟨G, 256, none⟩ (.slice A1 2 c1)).heap.size = w1.heap.size := by simp [World.setCell]
            rw [e] at this
            exact this
        · go_wp2_with fail
          go_ret
          exact ⟨G, rfl, hS.out⟩
end Go.Proofs.YtmhilolgjcfhjaaGreat.X

/- (*strings.byteStringReplacer).Replace at the replacer that labels.Key builds: every \ and every " gets a \ ahead of it. -/
namespace Go.Proofs.YtmhilolgjcfhjaaGreat.X
open Go.RowKit Go.Proofs.YtmhilolgjcfhjaaGreatW.PrintWords Go.Proofs.YtmhilolgjcfhjaaGreatW.PrintLast Go.Proofs.YtmhilolgjcfhjaaGreatW.PrintMore

/-- The bytes of a value, each \ and each " with a \ ahead. -/
def escL : List UInt8 → List UInt8
  | [] => []
  | c :: l => if c = 92 ∨ c = 34 then 92 :: c :: escL l else c :: escL l
def escB (s : ByteArray) : ByteArray := ⟨(escL s.data.toList).toArray⟩
def nEsc (l : List UInt8) : Nat := l.count 34 + l.count 92
theorem escL_length (l : List UInt8) : (escL l).length = l.length + nEsc l := by
  induction l with
  | nil => rfl
  | cons c l ih =>
    unfold nEsc at ih ⊢
    rw [escL, List.count_cons, List.count_cons]
    by_cases h1 : c = 92
    · subst h1; simp [ih]; omega
    · by_cases h2 : c = 34
      · subst h2; simp [ih]; omega
      · simp [h1, h2, ih]; omega
theorem escL_none (l : List UInt8) (h : nEsc l = 0) : escL l = l := by
  induction l with
  | nil => rfl
  | cons c l ih =>
    unfold nEsc at ih h
    rw [List.count_cons, List.count_cons] at h
    by_cases h1 : c = 92
    · subst h1; simp at h
    · by_cases h2 : c = 34
      · subst h2; simp at h
      · simp [h1, h2] at h
        rw [escL, if_neg (by simp [h1, h2]), ih (by omega)]
theorem escL_append (a b : List UInt8) : escL (a ++ b) = escL a ++ escL b := by
  induction a with
  | nil => rfl
  | cons c a ih =>
    rw [List.cons_append, escL, escL, ih]
    split <;> rfl
theorem nEsc_append (a b : List UInt8) : nEsc (a ++ b) = nEsc a + nEsc b := by
  unfold nEsc; rw [List.count_append, List.count_append]; omega

theorem nEsc_le (l : List UInt8) : nEsc l ≤ l.length := by
  induction l with
  | nil => exact Nat.le_refl _
  | cons c l ih =>
    unfold nEsc at ih ⊢
    rw [List.count_cons, List.count_cons, List.length_cons]
    by_cases h1 : c = 92
    · subst h1; simp; omega
    · by_cases h2 : c = 34
      · subst h2; simp; omega
      · simp [h1, h2]; omega

/-- The replacer's table, to be read: its block G. -/
structure Tab (b : Nat) (W : World) (G n1 c1 n2 c2 T cT : Nat) : Prop where
  bG : b ≤ G
  lG : G < W.heap.size
  b1 : b ≤ n1
  l1 : n1 < W.heap.size
  b2 : b ≤ n2
  l2 : n2 < W.heap.size
  bT : b ≤ T
  lT : T < W.heap.size
  tab : ∀ k : Nat, k < 256 → W.cell? ⟨G, k, none⟩ = some (if k = 92 then .slice (some ⟨n2, 0, none⟩) 2 c2 else if k = 34 then .slice (some ⟨n1, 0, none⟩) 2 c1 else .slice none 0 0)
  last : W.cell? ⟨G, 256, none⟩ = some (.slice (some ⟨T, 0, none⟩) 2 cT)
  t0 : W.cell? ⟨T, 0, none⟩ = some (.string ⟨#[34]⟩)
  t1 : W.cell? ⟨T, 1, none⟩ = some (.string ⟨#[92]⟩)
  x0 : W.cell? ⟨n1, 0, none⟩ = some (.int .u8 92)
  x1 : W.cell? ⟨n1, 1, none⟩ = some (.int .u8 34)
  y0 : W.cell? ⟨n2, 0, none⟩ = some (.int .u8 92)
  y1 : W.cell? ⟨n2, 1, none⟩ = some (.int .u8 92)
theorem Tab.move {b : Nat} {W W' : World} {G n1 c1 n2 c2 T cT : Nat} (h : Tab b W G n1 c1 n2 c2 T cT) (hm : ∀ k, b ≤ k → k < W.heap.size → W'.heap[k]? = W.heap[k]?) (hs : W.heap.size ≤ W'.heap.size) : Tab b W' G n1 c1 n2 c2 T cT := by
  have hc : ∀ k j : Nat, b ≤ k → k < W.heap.size → W'.cell? ⟨k, j, none⟩ = W.cell? ⟨k, j, none⟩ := fun k j h1 h2 => World.cell?_of_block (hm k h1 h2)
  exact ⟨h.bG, by have := h.lG; omega, h.b1, by have := h.l1; omega, h.b2, by have := h.l2; omega, h.bT, by have := h.lT; omega,
    fun k hk => (hc _ _ h.bG h.lG).trans (h.tab k hk), (hc _ _ h.bG h.lG).trans h.last, (hc _ _ h.bT h.lT).trans h.t0, (hc _ _ h.bT h.lT).trans h.t1,
    (hc _ _ h.b1 h.l1).trans h.x0, (hc _ _ h.b1 h.l1).trans h.x1, (hc _ _ h.b2 h.l2).trans h.y0, (hc _ _ h.b2 h.l2).trans h.y1⟩
theorem Tab.on {b : Nat} {W W' : World} {G n1 c1 n2 c2 T cT : Nat} (h : Tab b W G n1 c1 n2 c2 T cT) (hb : Below W.heap.size W W') : Tab b W' G n1 c1 n2 c2 T cT :=
  h.move (fun k _ hk => hb.block k hk) hb.size
theorem Built.tab {w W : World} {G : Nat} (h : Built w W G) : ∃ n1 c1 n2 c2 T cT, Tab w.heap.size W G n1 c1 n2 c2 T cT := by
  obtain ⟨v, n1, c1, n2, c2, h1, h2, h3⟩ := h
  obtain ⟨T, cT, rfl, hb, hl, hc, hx⟩ := strs_open h3.own (by simp)
  exact ⟨n1, c1, n2, c2, T, cT, h3.base, h3.lt, h1.base, h1.lt, h2.base, h2.lt, hb, hl, h3.tab, h3.last, hx 0 (by simp), hx 1 (by simp), h1.c0, h1.c1, h2.c0, h2.c1⟩

set_option maxHeartbeats 1000000 in
set_option maxRecDepth 100000 in
theorem count_one (s : ByteArray) (c : UInt8) (w : World) :
    Calls Tryz.prog 140 #[.string s, .string ⟨#[c]⟩] w fun e w' => e = .returned (.int .i64 (s.data.toList.count c : Nat)) ∧ w' = w := by
  go_enter Tryz.func140, Tryz.ntmps140
  go_wp2
  rw [run_callFunc_extern Tryz.func142 (by kernel_rfl) (by kernel_rfl) (by kernel_rfl) (e := Extern.BytealgCount.count) (by kernel_rfl), Lib.run_countString]
  simp only [Result.andThen]
  rw [Oper.upon_value]
  go_wp2
  go_ret
  exact ⟨by simp [Lib.countByte]; rfl, rfl⟩

/-- The new bytes while they are laid: the block B of M bytes, the first of them L. -/
structure Buf (w W : World) (B M : Nat) (L : List UInt8) : Prop where
  below : Below w.heap.size w W
  base : w.heap.size ≤ B
  lt : B < W.heap.size
  free : ∀ j, W.frozen? ⟨B, j, none⟩ = false
  there : ∀ k : Nat, k < M → (W.cell? ⟨B, k, none⟩).isSome = true
  got : ∀ (k : Nat) (h : k < L.length), W.cell? ⟨B, k, none⟩ = some (.int .u8 (L[k].toNat : Int))
theorem info5x : (Tryz.prog.info? 5).map (fun i => (i.zero, i.size, i.bytes)) = some (some (.int .u8 0), 1, 1) := by kernel_rfl
theorem info5s : (Tryz.prog.info? 5).map (·.size) = some 1 := by kernel_rfl
theorem mk_bytes (M : Nat) (hM : M ≤ 281474976710656) (W : World) : (Instr.makeSlice 73 (.int .i64 M) (.int .i64 M)).run Tryz.prog W = .ok (.slice (some ⟨W.heap.size, 0, none⟩) M M) (W.alloc (.cells (madeCells #[.int .u8 0] M) 5)) := by
  obtain ⟨i, hi, hz⟩ := Option.map_eq_some_iff.1 info5x
  simp only [Prod.mk.injEq] at hz
  have := run_make (P := Tryz.prog) W 73 5 i (.int .u8 0) Tryz.underlying73 hi hz.1 .i64 .i64 M M (by omega) (by omega) (by rw [hz.2.2]; omega) (by omega)
  rw [this, hz.2.1, Int.toNat_natCast, Nat.mul_one]
  rfl
theorem buf_start (w : World) (M : Nat) : Buf w (w.alloc (.cells (madeCells #[.int .u8 0] M) 5)) w.heap.size M [] := by
  refine ⟨(Below.refl _ _).alloc (Nat.le_refl _) _, Nat.le_refl _, by rw [World.size_alloc]; omega, fun j => World.frozen?_alloc_new w _ _ _, fun k hk => ?_, fun k h => absurd h (by simp)⟩
  rw [World.cell?_alloc_new, Array.getElem?_eq_getElem (by rw [size_madeCells]; exact hk)]
  rfl
theorem Buf.on {w W W' : World} {B M : Nat} {L : List UInt8} (h : Buf w W B M L) (hb : Below W.heap.size W W') : Buf w W' B M L :=
  ⟨h.below.trans (hb.mono h.below.size), h.base, Nat.lt_of_lt_of_le h.lt hb.size, fun j => (hb.frozen (p := ⟨B, j, none⟩) h.lt).trans (h.free j), fun k hk => by rw [hb.cell (p := ⟨B, k, none⟩) h.lt]; exact h.there k hk, fun k hk => (hb.cell (p := ⟨B, k, none⟩) h.lt).trans (h.got k hk)⟩
theorem Buf.put {w W : World} {B M : Nat} {L : List UInt8} (h : Buf w W B M L) (hl : L.length < M) (c : UInt8) : Buf w (W.setCell ⟨B, L.length, none⟩ (.int .u8 (c.toNat : Int))) B M (L ++ [c]) := by
  have hsame : (W.setCell ⟨B, L.length, none⟩ (.int .u8 (c.toNat : Int))).cell? ⟨B, L.length, none⟩ = some (.int .u8 (c.toNat : Int)) := by
    obtain ⟨u, hu⟩ := Option.isSome_iff_exists.1 (h.there _ hl)
    exact World.cell?_setCell_same _ _ _ hu
  have hoth : ∀ k : Nat, k ≠ L.length → (W.setCell ⟨B, L.length, none⟩ (.int .u8 (c.toNat : Int))).cell? ⟨B, k, none⟩ = W.cell? ⟨B, k, none⟩ := fun k hk =>
    World.cell?_setCell_other _ _ _ _ (fun e => hk (by injection e with _ e2; exact e2.symm))
  refine ⟨h.below.setCell h.base _, h.base, by simpa [World.setCell] using h.lt, fun j => (World.frozen?_setCell _ _ _ _).trans (h.free j), fun k hk => ?_, fun k hk => ?_⟩
  · by_cases e : k = L.length
    · rw [e, hsame]; rfl
    · rw [hoth k e]; exact h.there k hk
  · by_cases e : k = L.length
    · subst e; rw [hsame]; simp
    · have hk2 : k < L.length := by rw [List.length_append] at hk; simp at hk; omega
      rw [hoth k e, h.got k hk2, List.getElem_append_left hk2]
theorem step_copy {ops : Array Oper} {o : Oper} {a : Act} {w : World} {K : Act → World → Prop} {Q : Exit → Act → World → Prop} {E : Prop}
    (hg : o.guard = none) (d x : Operand) (hop : o.op = Op.call { callee := Callee.builtin Builtin.copy, args := #[d, x], argTypes := #[73, 73] })
    (b off n cap : Nat) (hd : a.eval d = .slice (some ⟨b, off, none⟩) n cap) (ad : Addr) (m c : Nat) (cs : List Value) (hx : a.eval x = .slice (some ad) m c)
    (hn : cs.length = Nat.min m n) (hsrc : ∀ j v, cs[j]? = some v → w.cell? (ad.add j) = some v) (hc : ∀ j, j < cs.length → (w.cell? ⟨b, off + j, none⟩).isSome = true) (hf : ∀ j, j < cs.length → w.frozen? ⟨b, off + j, none⟩ = false) (h1 : ∀ v ∈ cs, v.oneCell' = true)
    (hK : K (a.put o.dst (.int .i64 cs.length)) (w.setCells b off cs)) :
    if Region.wanted o (yielded ops a.tmps) = true then Oper.wp Tryz.prog o a w K Q else E := by
  have hw : Region.wanted o (yielded ops a.tmps) = true := by simp [Region.wanted, hg]
  rw [if_pos hw]
  have hrun := run_copy_cells (P := Tryz.prog) w 73 73 o.type 5 b off n cap ad m c cs Tryz.underlying73 info5s hn hsrc hc hf h1
  unfold Oper.wp
  simp [execOp, hop, resolve, invoke, builtin, hd, hx, hrun, Result.andThen]
  exact hK

/-- The two bytes of a replacement go over. -/
theorem step_two {ops : Array Oper} {o : Oper} {a : Act} {w1 w : World} {B M n : Nat} {L : List UInt8} {c : UInt8} {K : Act → World → Prop} {Q : Exit → Act → World → Prop} {E : Prop}
    (hg : o.guard = none) (d x : Operand) (hop : o.op = Op.call { callee := Callee.builtin Builtin.copy, args := #[d, x], argTypes := #[73, 73] })
    (hB : Buf w1 w B M L) (hl : L.length + 2 ≤ M) (h0 : w.cell? ⟨n, 0, none⟩ = some (.int .u8 92)) (h1 : w.cell? ⟨n, 1, none⟩ = some (.int .u8 (c.toNat : Int)))
    (q cap cc : Nat) (hq : 2 ≤ q) (hd : a.eval d = .slice (some ⟨B, L.length, none⟩) q cap) (hx : a.eval x = .slice (some ⟨n, 0, none⟩) 2 cc)
    (hK : ∀ w', Buf w1 w' B M (L ++ [92, c]) → K (a.put o.dst (.int .i64 2)) w') :
    if Region.wanted o (yielded ops a.tmps) = true then Oper.wp Tryz.prog o a w K Q else E := by
  have hadd : ∀ j, (⟨n, 0, none⟩ : Addr).add j = ⟨n, j, none⟩ := fun j => by simp [Addr.add]; omega
  refine step_copy hg d x hop B L.length q cap hd ⟨n, 0, none⟩ 2 cc [.int .u8 92, .int .u8 (c.toNat : Int)] hx (Nat.min_eq_left hq).symm ?_ ?_ ?_ ?_ ?_
  · intro j v hj
    rw [hadd]
    match j, hj with
    | 0, hj => rw [h0]; simpa using hj
    | 1, hj => rw [h1]; simpa using hj
  · intro j hj
    exact hB.there _ (by simp at hj; omega)
  · intro j hj
    exact hB.free _
  · intro v hv
    simp at hv
    rcases hv with rfl | rfl <;> rfl
  · refine hK _ ?_
    have p1 := hB.put (by omega) 92
    have p2 := p1.put (by simp; omega) c
    rw [List.append_assoc] at p2
    simpa [World.setCells] using p2

set_option maxHeartbeats 2000000 in
set_option maxRecDepth 100000 in
theorem bytes_replace (b G n1 c1 n2 c2 T cT : Nat) (s : ByteArray) (w : World) (hT : Tab b w G n1 c1 n2 c2 T cT) (hs : s.size ≤ 1099511627776) :
    Calls Tryz.prog 138 #[.pointer (some ⟨G, 0, none⟩), .string s] w fun e w' => e = .returned (.string (escB s)) ∧ Below w.heap.size w w' := by
  have HS := Aside0.mk hs
  have HT := Aside0.mk hT
  have tl := hT.last
  have t0 := hT.t0
  have t1 := hT.t1
  have t34 := hT.tab 34 (by omega)
  have t92 := hT.tab 92 (by omega)
  clear hT
  have HL := Aside0.mk (show s.data.toList.length = s.size from rfl)
  have b34 : ∀ hh, ((⟨#[34]⟩ : ByteArray)[0]'hh).toNat = 34 := fun _ => rfl
  have b92 : ∀ hh, ((⟨#[92]⟩ : ByteArray)[0]'hh).toNat = 92 := fun _ => rfl
  go_enter Tryz.func138, Tryz.ntmps138
  go_upto_if 26 with (fail)
  go_cut [5, 6] (fun v5 v6 wc => Drawn0 w wc ∧ v5 = .int .i64 (s.size + nEsc s.data.toList : Nat) ∧ v6 = .bool (decide (nEsc s.data.toList ≠ 0)))
  case first =>
    have hs := HS.out
    have hl := HL.out
    have k34 := List.count_le_length (a := (34 : UInt8)) (l := s.data.toList)
    have k92 := List.count_le_length (a := (92 : UInt8)) (l := s.data.toList)
    by_cases h16 : 16 ≤ (s.size : Int)
    · have HC := Aside0.mk (fun c => count_one s c w)
      have HE := Aside0.mk (show nEsc s.data.toList = s.data.toList.count 34 + s.data.toList.count 92 from rfl)
      have HC34 := Aside0.mk (count_one s 34)
      have HC92 := Aside0.mk (count_one s 92)
      generalize s.data.toList.count 34 = a34 at k34 HE HC34
      generalize s.data.toList.count 92 = a92 at k92 HE HC92
      have k34 : a34 ≤ s.size := k34
      have k92 : a92 ≤ s.size := k92
      clear HC hl
      have HT34 := Aside0.mk t34
      have HT92 := Aside0.mk t92
      go_wp2_with fail
      go_loopg [5, 6, 8, 9, 32] 3 (fun gg v5 v6 _ _ v32 wr => Drawn0 w wr ∧ ((v32 = .int .i64 0 ∧ v5 = .int .i64 s.size ∧ v6 = .bool false ∧ 2 ≤ gg) ∨ (v32 = .int .i64 1 ∧ v5 = .int .i64 (s.size + a34 : Int) ∧ v6 = .bool (decide (0 < a34)) ∧ 1 ≤ gg) ∨ (v32 = .int .i64 2 ∧ v5 = .int .i64 (s.size + a34 + a92 : Int) ∧ v6 = .bool (decide (0 < a34) || decide (0 < a92)))))
      case atStart => exact ⟨Drawn0.refl _, .inl ⟨rfl, rfl, rfl, by omega⟩⟩
      case round =>
        obtain ⟨⟨m1, rfl⟩, hrel⟩ := hrel
        rcases hrel with ⟨rfl, rfl, rfl, hg⟩ | ⟨rfl, rfl, rfl, hg⟩ | ⟨rfl, rfl, rfl⟩
        · rcases Nat.eq_zero_or_pos a34 with hz | hz
          · subst hz
            go_wp2_with (go_at_call 140; refine (HC34.out _).mono ?_; rintro e w' ⟨rfl, rfl⟩)
            go_roundg 1
            case measure => omega
            case rel => exact ⟨by repeat (first | exact Drawn0.refl _ | apply Drawn0.step), .inr (.inl ⟨rfl, by simp, by simp [*], by omega⟩)⟩
          · have hz2 : (((a34 : Nat) : Int) != 0) = true := by simp; omega
            have hz3 : 0 < a34 := by omega
            clear hz
            go_wp2_with (go_at_call 140; refine (HC34.out _).mono ?_; rintro e w' ⟨rfl, rfl⟩)
            go_quiet (fail)
            go_wp2_with fail
            go_roundg 1
            case measure => omega
            case rel => exact ⟨by repeat (first | exact Drawn0.refl _ | apply Drawn0.step), .inr (.inl ⟨rfl, by simp, by simp [*], by omega⟩)⟩
        · rcases Nat.eq_zero_or_pos a92 with hz | hz
          · subst hz
            go_wp2_with (go_at_call 140; refine (HC92.out _).mono ?_; rintro e w' ⟨rfl, rfl⟩)
            go_roundg 0
            case measure => omega
            case rel => exact ⟨by repeat (first | exact Drawn0.refl _ | apply Drawn0.step), .inr (.inr ⟨rfl, by simp, by simp [*]⟩)⟩
          · have hz2 : (((a92 : Nat) : Int) != 0) = true := by simp; omega
            have hz3 : 0 < a92 := by omega
            clear hz
            go_wp2_with (go_at_call 140; refine (HC92.out _).mono ?_; rintro e w' ⟨rfl, rfl⟩)
            go_quiet (fail)
            go_wp2_with fail
            go_roundg 0
            case measure => omega
            case rel => exact ⟨by repeat (first | exact Drawn0.refl _ | apply Drawn0.step), .inr (.inr ⟨rfl, by simp, by simp [*]⟩)⟩
        · go_wp2_with fail
          go_meet
          case rel => exact ⟨by repeat (first | exact Drawn0.refl _ | apply Drawn0.step), by rw [HE.out]; congr 1; omega, by rw [HE.out]; congr 1; rw [← Bool.decide_or]; exact decide_eq_decide.2 (by omega)⟩
    · clear b34 b92 t34 t92
      go_wp2_with fail
      go_loopg [5, 6, 10, 11] s.size (fun gg v5 v6 v10 _ wr => wr = w ∧ ∃ i : Nat, v10 = .int .i64 i ∧ i ≤ s.size ∧ s.size - i ≤ gg ∧ v5 = .int .i64 (s.size + nEsc (s.data.toList.take i) : Nat) ∧ v6 = .bool (decide (nEsc (s.data.toList.take i) ≠ 0)))
      case atStart => exact ⟨rfl, 0, rfl, by omega, by omega, rfl, rfl⟩
      case round =>
        obtain ⟨rfl, i, rfl, hi, hg, rfl, rfl⟩ := hrel
        by_cases hlt : i < s.size
        · obtain ⟨c, hc⟩ : ∃ c, c = s.data.toList[i]'(by rw [hl]; exact hlt) := ⟨_, rfl⟩
          have hx : ∀ hh : i < s.size, s[i]'hh = c := fun _ => by rw [hc]; rfl
          have HTK := Aside0.mk (show nEsc (s.data.toList.take (i + 1)) = nEsc (s.data.toList.take i) + nEsc [c] by
            rw [List.take_succ_eq_append_getElem (by rw [hl]; exact hlt), nEsc_append, hc])
          have htc := HT.out.tab c.toNat c.toNat_lt
          have q0 : (i : Int) < (s.size : Int) := by omega
          have q1 : (0 : Int) ≤ (c.toNat : Int) := by omega
          have q2 : (c.toNat : Int) < 256 := by have := c.toNat_lt; omega
          have q3 : nEsc (s.data.toList.take i) ≤ i := by
            exact Nat.le_trans (nEsc_le _) (by simp; omega)
          generalize nEsc (s.data.toList.take i) = ni at HTK q3 ⊢
          clear hc hl
          by_cases h92 : c = 92
          · subst h92
            have HT1 := Aside0.mk (HTK.out.trans (show ni + nEsc [92] = ni + 1 from rfl))
            have tk := HT.out.tab 92 (by omega)
            clear htc q1 q2 HTK
            go_wp2_with fail
            go_roundg (s.size - (i + 1))
            case measure => omega
            case rel => exact ⟨rfl, i + 1, by go_num, by omega, by omega, by rw [HT1.out]; congr 1, by rw [HT1.out]; simp⟩
          · by_cases h34 : c = 34
            · subst h34
              have HT1 := Aside0.mk (HTK.out.trans (show ni + nEsc [34] = ni + 1 from rfl))
              have tk := HT.out.tab 34 (by omega)
              clear htc q1 q2 HTK
              go_wp2_with fail
              go_roundg (s.size - (i + 1))
              case measure => omega
              case rel => exact ⟨rfl, i + 1, by go_num, by omega, by omega, by rw [HT1.out]; congr 1, by rw [HT1.out]; simp⟩
            · have HT1 := Aside0.mk (HTK.out.trans (show ni + nEsc [c] = ni by unfold nEsc; rw [List.count_cons, List.count_cons]; simp [h92, h34]))
              have g92 : ¬ c.toNat = 92 := fun e => h92 (UInt8.toNat_inj.1 e)
              have g34 : ¬ c.toNat = 34 := fun e => h34 (UInt8.toNat_inj.1 e)
              rw [if_neg g92, if_neg g34] at htc
              clear h92 h34 g92 g34 HTK
              go_wp2_with fail
              go_roundg (s.size - (i + 1))
              case measure => omega
              case rel => exact ⟨rfl, i + 1, by go_num, by omega, by omega, by rw [HT1.out], by rw [HT1.out]⟩
        · have hle : ¬ (i : Int) < (s.size : Int) := by omega
          have HI := Aside0.mk (show nEsc (s.data.toList.take i) = nEsc s.data.toList by rw [List.take_of_length_le (by omega)])
          go_wp2_with fail
          go_meet
          case rel => exact ⟨Drawn0.refl _, by rw [HI.out]; simp, by rw [HI.out]; simp⟩
  case rest =>
    obtain ⟨⟨m1, rfl⟩, rfl, rfl⟩ := hcut
    have HB := Aside0.mk (show Below w.heap.size w (w.drewN m1) from pw_below_drewN (Below.refl _ _) _)
    have HT2 := Aside0.mk (HT.out.on HB.out)
    clear tl t0 t1 t34 t92 HT
    by_cases hz : nEsc s.data.toList = 0
    · have HE := Aside0.mk (show s = escB s by unfold escB; rw [escL_none _ hz])
      rw [hz]
      go_wp2_with fail
      go_ret
      exact ⟨by rw [← HE.out]; rfl, HB.out⟩
    · have hn : (decide (nEsc s.data.toList ≠ 0)) = true := decide_eq_true hz
      have HN := Aside0.mk (escL_length s.data.toList)
      have hlen : nEsc s.data.toList ≤ s.size := Nat.le_trans (nEsc_le _) (Nat.le_of_eq HL.out)
      rw [hn]
      generalize nEsc s.data.toList = nn at hlen HN
      clear hz hn
      obtain ⟨M, hM⟩ : ∃ M, s.size + nn = M := ⟨_, rfl⟩
      have HM := Aside0.mk (show (escL s.data.toList).length = M by rw [HN.out, HL.out]; exact hM)
      rw [hM]
      have hM2 : M ≤ 2199023255552 := by have := HS.out; omega
      clear hM hlen HN hs
      have hmk := mk_bytes M (by omega)
      generalize w.drewN m1 = w1 at HB HT2 ⊢
      have HF := Aside0.mk (buf_start w1 M)
      go_wp2_with fail
      generalize hB : w1.heap.size = B at HF
      generalize w1.alloc (.cells (madeCells #[.int .u8 0] M) 5) = w2 at HF ⊢
      go_loopg [13, 14, 15] s.size (fun gg v13 v14 _ wr => ∃ i : Nat, v14 = .int .i64 i ∧ i ≤ s.size ∧ s.size - i ≤ gg ∧ v13 = .int .i64 ((escL (s.data.toList.take i)).length : Nat) ∧ Aside0 (Buf w1 wr B M (escL (s.data.toList.take i))))
      case atStart => exact ⟨0, rfl, by omega, by omega, rfl, ⟨HF.out⟩⟩
      case round =>
        obtain ⟨i, rfl, hi, hg, rfl, HR⟩ := hrel
        have hs := HS.out
        by_cases hlt : i < s.size
        · obtain ⟨c, hc⟩ : ∃ c, c = s.data.toList[i]'(by rw [HL.out]; exact hlt) := ⟨_, rfl⟩
          have hx : ∀ hh : i < s.size, s[i]'hh = c := fun _ => by rw [hc]; rfl
          have HTK := Aside0.mk (show escL (s.data.toList.take (i + 1)) = escL (s.data.toList.take i) ++ escL [c] by
            rw [List.take_succ_eq_append_getElem (by rw [HL.out]; exact hlt), escL_append, hc])
          have hlm : (escL (s.data.toList.take i)).length + (escL [c]).length ≤ M := by
            rw [← List.length_append, ← HTK.out, ← HM.out]
            conv => rhs; rw [← List.take_append_drop (i + 1) s.data.toList, escL_append, List.length_append]
            omega
          have HTR := Aside0.mk (HT2.out.on HR.out.below)
          have htc := HTR.out.tab c.toNat c.toNat_lt
          have q0 : (i : Int) < (s.size : Int) := by omega
          have q1 : (0 : Int) ≤ (c.toNat : Int) := by omega
          have q2 : (c.toNat : Int) < 256 := by have := c.toNat_lt; omega
          generalize escL (s.data.toList.take i) = L at HTK hlm HR ⊢
          clear hc
          by_cases h92 : c = 92
          · subst h92
            have HT1 := Aside0.mk (HTK.out.trans (show L ++ escL [92] = L ++ [92, 92] from rfl))
            have tk := HTR.out.tab 92 (by omega)
            have hl2 : L.length + 2 ≤ M := hlm
            have r1 : (L.length : Int) ≤ (M : Int) := by omega
            have r2 : 0 ≤ (L.length : Int) := by omega
            have r3 : ¬ M = L.length := by omega
            clear htc q1 q2 HTK hlm
            go_wp2_with fail
            go_region_law ((refine step_two rfl _ _ rfl (HR.out.on (below_drew1 (Below.refl _ _))) hl2 (n := n2) (by simp [HTR.out.y0]) (c := 92) (by simp [HTR.out.y1]) _ _ _ ?hq rfl rfl ?_; (case hq => omega); intro w4 HR4))
            go_wp2_with fail
            go_roundg (s.size - (i + 1))
            case measure => omega
            case rel => exact ⟨i + 1, by go_num, by omega, by omega, by rw [HT1.out]; simp, ⟨by rw [HT1.out]; exact HR4⟩⟩
          · by_cases h34 : c = 34
            · subst h34
              have HT1 := Aside0.mk (HTK.out.trans (show L ++ escL [34] = L ++ [92, 34] from rfl))
              have tk := HTR.out.tab 34 (by omega)
              have hl2 : L.length + 2 ≤ M := hlm
              have r1 : (L.length : Int) ≤ (M : Int) := by omega
              have r2 : 0 ≤ (L.length : Int) := by omega
              have r3 : ¬ M = L.length := by omega
              clear htc q1 q2 HTK hlm
              go_wp2_with fail
              go_region_law ((refine step_two rfl _ _ rfl (HR.out.on (below_drew1 (Below.refl _ _))) hl2 (n := n1) (by simp [HTR.out.x0]) (c := 34) (by simp [HTR.out.x1]) _ _ _ ?hq rfl rfl ?_; (case hq => omega); intro w4 HR4))
              go_wp2_with fail
              go_roundg (s.size - (i + 1))
              case measure => omega
              case rel => exact ⟨i + 1, by go_num, by omega, by omega, by rw [HT1.out]; simp, ⟨by rw [HT1.out]; exact HR4⟩⟩
            · have HT1 := Aside0.mk (HTK.out.trans (show L ++ escL [c] = L ++ [c] by simp [escL, h92, h34]))
              have hl1 : L.length < M := by
                have : escL [c] = [c] := by simp [escL, h92, h34]
                rw [this] at hlm
                exact hlm
              have g92 : ¬ c.toNat = 92 := fun e => h92 (UInt8.toNat_inj.1 e)
              have g34 : ¬ c.toNat = 34 := fun e => h34 (UInt8.toNat_inj.1 e)
              rw [if_neg g92, if_neg g34] at htc
              have r1 : (L.length : Int) < (M : Int) := by omega
              have r2 : 0 ≤ (L.length : Int) := by omega
              have HR4 := Aside0.mk (HR.out.put hl1 c)
              obtain ⟨u, hu⟩ := Option.isSome_iff_exists.1 (HR.out.there _ hl1)
              have hfz := HR.out.free L.length
              clear h92 h34 g92 g34 HTK hlm
              go_wp2_with fail
              go_roundg (s.size - (i + 1))
              case measure => omega
              case rel => exact ⟨i + 1, by go_num, by omega, by omega, by rw [HT1.out]; simp, ⟨by rw [HT1.out]; exact HR4.out⟩⟩
        · have hle : ¬ (i : Int) < (s.size : Int) := by omega
          have HI := Aside0.mk (show escL (s.data.toList.take i) = escL s.data.toList by rw [List.take_of_length_le (by rw [HL.out]; omega)])
          rw [HI.out] at HR ⊢
          have hcv : (convert 73 9 (.slice (some ⟨B, 0, none⟩) M M)).run Tryz.prog wr = .ok (.string (escB s)) wr := by
            have := run_convert_bytes_back (P := Tryz.prog) wr 73 9 5 ⟨B, 0, none⟩ M (escL s.data.toList) Tryz.underlying73 Tryz.underlying5 Tryz.underlying9 (fun j hj => by
              rw [show (⟨B, 0, none⟩ : Addr).add j = ⟨B, j, none⟩ by simp [Addr.add]; omega]
              exact HR.out.got j hj)
            rw [HM.out] at this
            exact this
          have HBB := Aside0.mk (HB.out.trans (HR.out.below.mono HB.out.size))
          clear HR HF HT2 HB HM
          go_wp2_with fail
          go_ret
          exact ⟨rfl, HBB.out⟩
end Go.Proofs.YtmhilolgjcfhjaaGreat.X

/- (*strings.Replacer).Replace at labels.Key's fresh replacer. -/
namespace Go.Proofs.YtmhilolgjcfhjaaGreat.X
open Go.RowKit Go.Proofs.YtmhilolgjcfhjaaGreatW.PrintWords Go.Proofs.YtmhilolgjcfhjaaGreatW.PrintLast Go.Proofs.YtmhilolgjcfhjaaGreatW.PrintMore

set_option maxHeartbeats 2000000 in
set_option maxRecDepth 100000 in
theorem build_once (g h cv : Nat) (w : World) (hg : g < w.heap.size) (hfz : ∀ j, w.frozen? ⟨g, j, none⟩ = false) (h3 : w.cell? ⟨g, 3, none⟩ = some .nilIface) (h4 : w.cell? ⟨g, 4, none⟩ = some (.slice (some ⟨h, 0, none⟩) 4 cv)) (hcv : 4 ≤ cv)
    (x0 : w.cell? ⟨h, 0, none⟩ = some (.string ⟨#[92]⟩)) (x1 : w.cell? ⟨h, 1, none⟩ = some (.string ⟨#[92, 92]⟩)) (x2 : w.cell? ⟨h, 2, none⟩ = some (.string ⟨#[34]⟩)) (x3 : w.cell? ⟨h, 3, none⟩ = some (.string ⟨#[92, 34]⟩)) :
    Calls Tryz.prog 66 #[.pointer (some ⟨g, 0, none⟩)] w fun e w' => e = .returned (.tuple #[]) ∧ ∃ (G : Nat) (w2 : World), Below w.heap.size w w2 ∧ Built w w2 G ∧ w' = (w2.setCell ⟨g, 3, none⟩ (.iface 124 (.pointer (some ⟨G, 0, none⟩)))).setCell ⟨g, 4, none⟩ (.slice none 0 0) := by
  have HC := Aside0.mk (build_replacer g h cv w h4 hcv x0 x1 x2 x3)
  have HG := Aside0.mk hg
  have HF := Aside0.mk hfz
  have H3 := Aside0.mk h3
  have H4 := Aside0.mk h4
  clear x0 x1 x2 x3 hg hfz h3 h4 hcv
  go_enter Tryz.func66, Tryz.ntmps66
  go_wp2_with (go_at_call 77; refine HC.out.mono ?_; clear HC; rintro e w2 ⟨G, rfl, hBt⟩; have HBt := Aside0.mk hBt; clear hBt; have hbel : Below w.heap.size w w2 := (by obtain ⟨_, _, _, _, _, _, _, h⟩ := HBt.out; exact h.below); have HBel := Aside0.mk hbel; have z3 : w2.frozen? ⟨g, 3, none⟩ = false := (hbel.frozen (p := ⟨g, 3, none⟩) HG.out).trans (HF.out 3); have z4 : w2.frozen? ⟨g, 4, none⟩ = false := (hbel.frozen (p := ⟨g, 4, none⟩) HG.out).trans (HF.out 4); have y3 : w2.cell? ⟨g, 3, none⟩ = some .nilIface := (hbel.cell (p := ⟨g, 3, none⟩) HG.out).trans H3.out; have y4 : w2.cell? ⟨g, 4, none⟩ = some (.slice (some ⟨h, 0, none⟩) 4 cv) := (hbel.cell (p := ⟨g, 4, none⟩) HG.out).trans H4.out; clear hbel)
  go_end0
  exact ⟨rfl, G, w2, HBel.out, HBt.out, rfl⟩

/-- What of a fresh replacer's block is known. -/
theorem NewRep.cells {w : World} {g h cv : Nat} {xs : List ByteArray} (n : NewRep w g h cv xs) :
    w.cell? ⟨g, 0, none⟩ = some (.int .u32 0) ∧ w.cell? ⟨g, 1, none⟩ = some (.int .i32 0) ∧ w.cell? ⟨g, 3, none⟩ = some .nilIface ∧ w.cell? ⟨g, 4, none⟩ = some (.slice (some ⟨h, 0, none⟩) 4 cv) ∧ ∀ j, w.frozen? ⟨g, j, none⟩ = false := by
  have hc : ∀ j : Nat, w.cell? ⟨g, j, none⟩ = (#[.int .u32 0, .int .i32 0, .int .u32 0, .nilIface, .slice (some ⟨h, 0, none⟩) 4 cv] : Array Value)[j]? := fun j => cell_of_row w g j _ 93 (0, 0) n.block
  refine ⟨hc 0, hc 1, hc 3, hc 4, fun j => ?_⟩
  unfold World.frozen?
  rw [n.block]
  simp

/-- The replacer's world behind Do. -/
def Done (g : Nat) (w1 W : World) : Prop := ∃ (G : Nat) (w2 : World), Below w1.heap.size w1 w2 ∧ Built w1 w2 G ∧ W = (w2.setCell ⟨g, 3, none⟩ (.iface 124 (.pointer (some ⟨G, 0, none⟩)))).setCell ⟨g, 4, none⟩ (.slice none 0 0)

theorem do_once (g h cv : Nat) (w : World) (n : NewRep w g h cv words) :
    Calls Tryz.prog 65 #[.pointer (some ⟨g, 0, none⟩), .func (.func 66) #[.pointer (some ⟨g, 0, none⟩)] #[]] w fun e w' => e = .returned (.tuple #[]) ∧
      ∃ (G n1 c1 n2 c2 T cT : Nat), w'.cell? ⟨g, 3, none⟩ = some (.iface 124 (.pointer (some ⟨G, 0, none⟩))) ∧ Tab w.heap.size w' G n1 c1 n2 c2 T cT ∧ Below g w w' := by
  obtain ⟨c0, c1, c3, c4, hz⟩ := n.cells
  have hh : h ≠ g := Nat.ne_of_lt n.lt
  have hsz : (w.setCell ⟨g, 1, none⟩ (.int .i32 1)).heap.size = w.heap.size := by simp [World.setCell]
  have hoth : ∀ (W : World) (j k : Nat) (u : Value), j ≠ k → (W.setCell ⟨g, k, none⟩ u).cell? ⟨g, j, none⟩ = W.cell? ⟨g, j, none⟩ := fun W j k u hjk => World.cell?_setCell_other _ _ _ _ (fun e => hjk (by injection e with _ e2; exact e2.symm))
  have hfar : ∀ j, (w.setCell ⟨g, 1, none⟩ (.int .i32 1)).cell? ⟨h, j, none⟩ = w.cell? ⟨h, j, none⟩ := fun j => World.cell?_setCell_far _ _ _ _ (Ne.symm hh)
  have hfz : ∀ j, (w.setCell ⟨g, 1, none⟩ (.int .i32 1)).frozen? ⟨g, j, none⟩ = false := fun j => (World.frozen?_setCell _ _ _ _).trans (hz j)
  have hsame1 : (w.setCell ⟨g, 1, none⟩ (.int .i32 1)).cell? ⟨g, 1, none⟩ = some (.int .i32 1) := World.cell?_setCell_same _ _ _ c1
  have hb := build_once g h cv (w.setCell ⟨g, 1, none⟩ (.int .i32 1)) (by rw [hsz]; exact n.size) hfz ((hoth _ 3 1 _ (by omega)).trans c3) ((hoth _ 4 1 _ (by omega)).trans c4) n.cap
    ((hfar 0).trans (n.words 0 (by omega))) ((hfar 1).trans (n.words 1 (by omega))) ((hfar 2).trans (n.words 2 (by omega))) ((hfar 3).trans (n.words 3 (by omega)))
  have h00 : (w.setCell ⟨g, 1, none⟩ (.int .i32 1)).cell? ⟨g, 0, none⟩ = some (.int .u32 0) := (hoth _ 0 1 _ (by omega)).trans c0
  have hd := on_do g 0 66 #[.pointer (some ⟨g, 0, none⟩)] (Done g (w.setCell ⟨g, 1, none⟩ (.int .i32 1))) w c0 c1 (hz 1) (enters_of Tryz.func66 (by kernel_rfl) rfl) hb ?_
  · refine hd.mono ?_
    rintro e w' ⟨rfl, W, ⟨G, w2, hB, hBt, rfl⟩, rfl⟩
    refine ⟨rfl, G, ?_⟩
    have hg2 : g < w2.heap.size := Nat.lt_of_lt_of_le (by rw [hsz]; exact n.size) hB.size
    obtain ⟨n1, k1, n2, k2, T, cT, hT⟩ := hBt.tab
    rw [hsz] at hT
    have hblk : ∀ k, k ≠ g → (((((w2.setCell ⟨g, 3, none⟩ (.iface 124 (.pointer (some ⟨G, 0, none⟩)))).setCell ⟨g, 4, none⟩ (.slice none 0 0)).drew).setCell ⟨g, 0, none⟩ (.int .u32 1)).setCell ⟨g, 0 + 1, none⟩ (.int .i32 0)).heap[k]? = w2.heap[k]? := by
      intro k hk
      rw [Below.heap_setCell _ _ _ k hk, Below.heap_setCell _ _ _ k hk]
      show ((w2.setCell ⟨g, 3, none⟩ (.iface 124 (.pointer (some ⟨G, 0, none⟩)))).setCell ⟨g, 4, none⟩ (.slice none 0 0)).heap[k]? = _
      rw [Below.heap_setCell _ _ _ k hk, Below.heap_setCell _ _ _ k hk]
    have hss : (((((w2.setCell ⟨g, 3, none⟩ (.iface 124 (.pointer (some ⟨G, 0, none⟩)))).setCell ⟨g, 4, none⟩ (.slice none 0 0)).drew).setCell ⟨g, 0, none⟩ (.int .u32 1)).setCell ⟨g, 0 + 1, none⟩ (.int .i32 0)).heap.size = w2.heap.size := by simp [World.setCell, World.drew, -World.drew_eq]
    refine ⟨n1, k1, n2, k2, T, cT, ?_, hT.move (fun k hk _ => hblk k (by have := n.size; omega)) (by rw [hss]; exact Nat.le_refl _), ?_⟩
    · rw [hoth _ 3 (0 + 1) _ (by omega), hoth _ 3 0 _ (by omega), World.cell?_drew, hoth _ 3 4 _ (by omega)]
      exact World.cell?_setCell_same _ _ _ ((hB.cell (p := ⟨g, 3, none⟩) (by rw [hsz]; exact n.size)).trans ((hoth _ 3 1 _ (by omega)).trans c3))
    · refine ⟨hB.os, hB.tape, hB.output, ?_, fun k hk => ?_⟩
      · rw [hss]; exact Nat.le_trans (Nat.le_of_eq hsz.symm) hB.size
      · rw [hblk k (by omega), hB.block k (by rw [hsz]; have := n.size; omega), Below.heap_setCell _ _ _ k (show k ≠ g by omega)]
  · rintro W ⟨G, w2, hB, hBt, rfl⟩
    have hlt : g < (w.setCell ⟨g, 1, none⟩ (.int .i32 1)).heap.size := by rw [hsz]; exact n.size
    refine ⟨?_, ?_, ?_, ?_⟩
    · rw [hoth _ 0 4 _ (by omega), hoth _ 0 3 _ (by omega)]
      exact (hB.cell (p := ⟨g, 0, none⟩) hlt).trans h00
    · rw [hoth _ (0 + 1) 4 _ (by omega), hoth _ (0 + 1) 3 _ (by omega)]
      exact (hB.cell (p := ⟨g, 1, none⟩) hlt).trans hsame1
    · rw [World.frozen?_setCell, World.frozen?_setCell]
      exact (hB.frozen (p := ⟨g, 0, none⟩) hlt).trans (hfz 0)
    · rw [World.frozen?_setCell, World.frozen?_setCell]
      exact (hB.frozen (p := ⟨g, 1, none⟩) hlt).trans (hfz 1)

set_option maxHeartbeats 2000000 in
set_option maxRecDepth 100000 in
theorem replace_call (g h cv : Nat) (w : World) (n : NewRep w g h cv words) (s : ByteArray) (hs : s.size ≤ 1099511627776) :
    Calls Tryz.prog 54 #[.pointer (some ⟨g, 0, none⟩), .string s] w fun e w' => e = .returned (.string (escB s)) ∧ Below g w w' := by
  have HD := Aside0.mk (do_once g h cv w n)
  have HN := Aside0.mk n.size
  have HR := Aside0.mk (fun b G n1 c1 n2 c2 T cT w hT => bytes_replace b G n1 c1 n2 c2 T cT s w hT hs)
  have hm : ∀ (G : Nat) (W : World), (method 288 124 (.pointer (some ⟨G, 0, none⟩)) "Replace").run Tryz.prog W = .ok (138, .pointer (some ⟨G, 0, none⟩)) W := fun _ _ => by kernel_rfl
  clear n hs
  go_enter Tryz.func54, Tryz.ntmps54
  go_wp2_with (go_at_call 65; refine HD.out.mono ?_; clear HD; rintro e w2 ⟨rfl, G, n1, c1, n2, c2, T, cT, hc3, hT, hb⟩; have HT := Aside0.mk hT; have HB := Aside0.mk hb; clear hT hb)
  refine (HR.out _ G n1 c1 n2 c2 T cT _ HT.out).mono ?_
  rintro e w3 ⟨rfl, hb3⟩
  have HB3 := Aside0.mk hb3
  clear hb3 hc3
  go_wp2_with fail
  go_ret
  exact ⟨rfl, HB.out.trans (HB3.out.mono (by have := HB.out.size; have := HN.out; omega))⟩
end Go.Proofs.YtmhilolgjcfhjaaGreat.X
