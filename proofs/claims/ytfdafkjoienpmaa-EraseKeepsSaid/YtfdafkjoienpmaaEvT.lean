/- The laws of append at the element types of this program's events; slices.Clone of events and of bytes. -/
import Derived.Test.YtfdafkjoienpmaaEv
namespace Go.Proofs.Ytfdafkjoienpmaa
open Go.RowKit

abbrev evCells (e : Ev) : List Value := [.int .i64 e.kind, .int .i64 e.session, .int .i64 e.stream, .string e.tenant, .int .u64 e.n, .int .i64 e.m, .int .u64 e.bits, .slice e.dA e.dn e.dc]
theorem evCells_length (e : Ev) : (evCells e).length = 8 := rfl
theorem evCells_one (e : Ev) : ∀ u ∈ evCells e, u.oneCell' = true := by intro u hu; simp at hu; rcases hu with rfl | rfl | rfl | rfl | rfl | rfl | rfl | rfl <;> rfl

def evZero : Value := .agg #[.int .i64 0, .int .i64 0, .int .i64 0, .string ⟨#[]⟩, .int .u64 0, .int .i64 0, .int .u64 0, .slice none 0 0]
theorem info_ev : (Try.prog.info? 30).map (fun i => (i.zero, i.size, i.bytes)) = some (some evZero, 8, 88) := by kernel_rfl
theorem info_u8 : (Try.prog.info? 5).map (fun i => (i.zero, i.size, i.bytes)) = some (some (.int .u8 0), 1, 1) := by kernel_rfl

theorem app_ev {ops : Array Oper} {rest : List Oper} {o : Oper} {a : Act} {Q : Exit → Act → World → Prop} (w : World) (hgd : o.guard = none) (s x : Operand)
    (ho : o.op = .call { callee := .builtin .append, args := #[s, x], argTypes := #[23, 23] })
    (base : Nat) (v : Value) (n : Nat) (xs : List Value) (hs : a.eval s = v) (hown : w.ownsRow base 30 8 v n xs)
    (A : Option Addr) (m c : Nat) (news : List Value) (hx : a.eval x = .slice A m c) (hr : Rd w 8 A m news) (h1 : ∀ u ∈ news, u.oneCell' = true)
    (hnm : n + m ≤ 1000000000000) (hbase : base ≤ w.heap.size)
    (h : ∀ A' c' w', w'.ownsRow base 30 8 (.slice A' (n + m) c') (n + m) (xs ++ news) → w.grownBy w' v.ownBlock → ((Value.slice A' (n + m) c').ownBlock = v.ownBlock ∨ (Value.slice A' (n + m) c').ownBlock = some w.heap.size) →
      wpList Try.prog ops Q rest (a.put o.dst (.slice A' (n + m) c')) w') : wpList Try.prog ops Q (o :: rest) a w := by
  obtain ⟨i0, hi, hz0, hz1, hz2⟩ := info_parts info_ev
  exact wpList_append_rd w hgd s x 23 ho base 30 i0 evZero 8 88 Try.underlying23 hi hz0 hz1 hz2 rfl (by decide) v n xs hs hown A m c news hx hr h1 (by unfold maxLen; omega) (by omega) hbase h
theorem app_u8 {ops : Array Oper} {rest : List Oper} {o : Oper} {a : Act} {Q : Exit → Act → World → Prop} (w : World) (hgd : o.guard = none) (s x : Operand)
    (ho : o.op = .call { callee := .builtin .append, args := #[s, x], argTypes := #[28, 28] })
    (base : Nat) (v : Value) (n : Nat) (xs : List Value) (hs : a.eval s = v) (hown : w.ownsRow base 5 1 v n xs)
    (A : Option Addr) (m c : Nat) (news : List Value) (hx : a.eval x = .slice A m c) (hr : Rd w 1 A m news) (h1 : ∀ u ∈ news, u.oneCell' = true)
    (hnm : n + m ≤ 1000000000000) (hbase : base ≤ w.heap.size)
    (h : ∀ A' c' w', w'.ownsRow base 5 1 (.slice A' (n + m) c') (n + m) (xs ++ news) → w.grownBy w' v.ownBlock → ((Value.slice A' (n + m) c').ownBlock = v.ownBlock ∨ (Value.slice A' (n + m) c').ownBlock = some w.heap.size) →
      wpList Try.prog ops Q rest (a.put o.dst (.slice A' (n + m) c')) w') : wpList Try.prog ops Q (o :: rest) a w := by
  obtain ⟨i0, hi, hz0, hz1, hz2⟩ := info_parts info_u8
  exact wpList_append_rd w hgd s x 28 ho base 5 i0 (.int .u8 0) 1 1 Try.underlying28 hi hz0 hz1 hz2 rfl (by decide) v n xs hs hown A m c news hx hr h1 (by unfold maxLen; omega) (by omega) hbase h

def CloneR (e : TypeId) (k : Nat) (A : Option Addr) (n : Nat) (xs : List Value) (w : World) (r : Ending) (w' : World) : Prop :=
  ∃ A' c', r = .returned (.slice A' n c') ∧ w'.ownsRow w.heap.size e k (.slice A' n c') n xs ∧ Below w.heap.size w w'

theorem CloneEv_any (A : Option Addr) (n c : Nat) (xs : List Value) (w : World) (h : Rd w 8 A n xs) (h1 : ∀ u ∈ xs, u.oneCell' = true) (hn : n ≤ 100000000000) (hnil : A = none → n = 0) :
    Calls Try.prog 16 #[.slice A n c] w (CloneR 30 8 A n xs w) := by
  have hq := fun w' => Lib.run_eql_slice_nil (P := Try.prog) w' 23 30 A n c 0 0 Try.underlying23
  cases A with
  | none =>
    obtain rfl := hnil rfl
    have hx : xs = [] := List.eq_nil_of_length_eq_zero (by simpa using h.1)
    subst hx
    go_enter Try.func16, Try.ntmps16
    go_wp2
    go_ret
    exact ⟨none, 0, by simp, World.ownsRow_nil _ _ _ _, bel_rfl⟩
  | some a =>
    go_enter Try.func16, Try.ntmps16
    go_wp2_with (at_builtin; refine app_ev _ rfl _ _ rfl w.heap.size _ 0 [] rfl (World.ownsRow_lit w #[] 0 (Nat.le_refl _) (by unfold maxLen; omega) rfl) _ _ _ xs rfl (Rd.below h ((Below.refl _ _).alloc (Nat.le_refl _) _)) h1 (by omega) (by simp) ?_; intro A1 c1 w1 hown1 hgrow1 hblk1)
    go_ret
    refine ⟨A1, c1, by simp, by simpa using hown1, ?_⟩
    exact ((Below.refl _ _).alloc (Nat.le_refl _) _).grown hgrow1 (by simp) (fun g hg => by cases hg; exact Nat.le_refl _)

theorem CloneU8_any (A : Option Addr) (n c : Nat) (xs : List Value) (w : World) (h : Rd w 1 A n xs) (h1 : ∀ u ∈ xs, u.oneCell' = true) (hn : n ≤ 100000000000) (hnil : A = none → n = 0) :
    Calls Try.prog 18 #[.slice A n c] w (CloneR 5 1 A n xs w) := by
  have hq := fun w' => Lib.run_eql_slice_nil (P := Try.prog) w' 28 5 A n c 0 0 Try.underlying28
  cases A with
  | none =>
    obtain rfl := hnil rfl
    have hx : xs = [] := List.eq_nil_of_length_eq_zero (by simpa using h.1)
    subst hx
    go_enter Try.func18, Try.ntmps18
    go_wp2
    go_ret
    exact ⟨none, 0, by simp, World.ownsRow_nil _ _ _ _, bel_rfl⟩
  | some a =>
    go_enter Try.func18, Try.ntmps18
    go_wp2_with (at_builtin; refine app_u8 _ rfl _ _ rfl w.heap.size _ 0 [] rfl (World.ownsRow_lit w #[] 0 (Nat.le_refl _) (by unfold maxLen; omega) rfl) _ _ _ xs rfl (Rd.below h ((Below.refl _ _).alloc (Nat.le_refl _) _)) h1 (by omega) (by simp) ?_; intro A1 c1 w1 hown1 hgrow1 hblk1)
    go_ret
    refine ⟨A1, c1, by simp, by simpa using hown1, ?_⟩
    exact ((Below.refl _ _).alloc (Nat.le_refl _) _).grown hgrow1 (by simp) (fun g hg => by cases hg; exact Nat.le_refl _)
end Go.Proofs.Ytfdafkjoienpmaa
