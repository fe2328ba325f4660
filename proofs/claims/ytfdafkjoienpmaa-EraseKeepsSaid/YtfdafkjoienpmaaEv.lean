/- Events as values: what the walks of the law EraseKeeps read; the functions erase.All, erase.Own and their references. -/
import Derived.Test.YtfdafkjoienpmaaProg
import Derived.Test.YtfdafkjoienpmaaBase
import Derived.Deep.QuietTactic
import Derived.BigQuiet
namespace Go.Proofs.Ytfdafkjoienpmaa
open Go.RowKit

structure Ev where
  kind : Int
  session : Int
  stream : Int
  tenant : ByteArray
  n : Int
  m : Int
  bits : Int
  dA : Option Addr
  dn : Nat
  dc : Nat
  data : List UInt8

/-- an event as a value -/
abbrev evV (e : Ev) : Value := .agg #[.int .i64 e.kind, .int .i64 e.session, .int .i64 e.stream, .string e.tenant, .int .u64 e.n, .int .i64 e.m, .int .u64 e.bits, .slice e.dA e.dn e.dc]

def allB (k : Int) : Bool := k == 1 || k == 8 || k == 9 || k == 14 || k == 15 || decide (k < 1) || decide (15 < k)

theorem All_any (e : Ev) (w : World) : Calls Try.prog 8 #[evV e] w fun r w' => r = .returned (.bool (allB e.kind)) ∧ Below w.heap.size w w' := by
  go_enter Try.func8, Try.ntmps8
  go_wp2
  all_goals go_ret
  all_goals refine ⟨ret_bool ?_, (Below.refl _ _).alloc (Nat.le_refl _) _⟩
  all_goals (unfold allB; rw [Bool.eq_iff_iff]; simp at *; omega)

theorem refAll_any (e : Ev) (w : World) : Calls Try.prog 9 #[evV e] w fun r w' => r = .returned (.bool (allB e.kind)) ∧ Below w.heap.size w w' := by
  go_enter Try.func9, Try.ntmps9
  go_wp2
  all_goals go_ret
  all_goals refine ⟨ret_bool ?_, (Below.refl _ _).alloc (Nat.le_refl _) _⟩
  all_goals (unfold allB; rw [Bool.eq_iff_iff]; simp at *; omega)

def hasI (l : List Int) (x : Int) : Bool := l.contains x
/-- what slices.Index answers -/
def IdxR (l : List Int) (x : Int) (e : Ending) : Prop := ∃ i : Int, e = .returned (.int .i64 i) ∧ (0 ≤ i ↔ hasI l x = true)
theorem Index_any (A : Option Addr) (n c : Nat) (l : List Int) (x : Int) (w : World) (h : Ints w A n l) (hn : n ≤ 100000000000) :
    Calls Try.prog 19 #[.slice A n c, .int .i64 x] w fun e w' => IdxR l x e ∧ w = w' := by
  have hl : l.length = n := by simpa using h.1
  go_enter Try.func19, Try.ntmps19
  go_wp2
  go_loop [8] (fun i => ∃ k : Nat, k ≤ n ∧ i = .int .i64 k ∧ ∀ j, j < k → l[j]? ≠ some x) (fun i => n - (intOf i).toNat)
  case atStart => exact ⟨0, by omega, rfl, fun j h => absurd h (Nat.not_lt_zero _)⟩
  case round =>
    obtain ⟨k, hk, rfl, hall⟩ := hrel
    have HALL := Lib.hid hall
    clear hall
    by_cases hlt : k < n
    · obtain ⟨b, o, y, rfl, hy, hc⟩ := h.at_ hlt
      have HY := Lib.hid hy
      have HL := Lib.hid hl
      clear hy hl
      by_cases hxy : x = y
      · subst hxy
        go_wp2
        go_ret
        refine ⟨⟨k, by simp, ?_⟩, rfl⟩
        have : x ∈ l := List.mem_of_getElem? HY.out
        simp [hasI, this]
      · have hxy' : (x == y) = false := by simpa using hxy
        go_wp2
        refine ⟨⟨k + 1, by omega, by go_num, ?_⟩, by simp [intOf]; omega⟩
        intro j hj
        by_cases hjk : j < k
        · exact HALL.out j hjk
        · obtain rfl : j = k := by omega
          rw [HY.out]; simpa using fun e => hxy e.symm
    · go_wp2
      go_ret
      refine ⟨⟨-1, by simp, ?_⟩, rfl⟩
      have : x ∉ l := by
        intro hm
        obtain ⟨j, hj, he⟩ := List.mem_iff_getElem.1 hm
        exact HALL.out j (by omega) (by rw [List.getElem?_eq_getElem hj, he])
      simp [hasI, this]

theorem Contains_any (A : Option Addr) (n c : Nat) (l : List Int) (x : Int) (w : World) (h : Ints w A n l) (hn : n ≤ 100000000000) :
    Calls Try.prog 13 #[.slice A n c, .int .i64 x] w fun e w' => e = .returned (.bool (hasI l x)) ∧ w = w' := by
  go_enter Try.func13, Try.ntmps13
  go_wp2_with (go_at_call 19; refine (Index_any A n c l x _ h hn).mono ?_; rintro e w' ⟨⟨i, rfl, hi⟩, rfl⟩)
  go_ret
  exact ⟨by simp, rfl⟩

def ownB (t : ByteArray) (ss : List Int) (e : Ev) : Bool :=
  if 2 ≤ e.kind ∧ e.kind ≤ 6 then hasI ss e.session else
  if e.kind = 7 ∨ e.kind = 10 ∨ e.kind = 11 ∨ e.kind = 12 ∨ e.kind = 13 then e.tenant.toList == t.toList else false

theorem Own_any (t : ByteArray) (A : Option Addr) (n c : Nat) (ss : List Int) (e : Ev) (w : World) (h : Ints w A n ss) (hn : n ≤ 100000000000) :
    Calls Try.prog 6 #[.string t, .slice A n c, evV e] w fun r w' => r = .returned (.bool (ownB t ss e)) ∧ Below w.heap.size w w' := by
  have hi : ∀ w', Below w.heap.size w w' → Ints w' A n ss := fun w' hb => Rd.below h hb
  have HI := Lib.hid hi
  clear hi
  by_cases h1 : 2 ≤ e.kind ∧ e.kind ≤ 6
  · have hk : e.kind = 2 ∨ e.kind = 3 ∨ e.kind = 4 ∨ e.kind = 5 ∨ e.kind = 6 := by omega
    have hr : ownB t ss e = hasI ss e.session := by unfold ownB; rw [if_pos h1]
    rw [hr]
    clear hr h1
    go_enter Try.func6, Try.ntmps6
    go_wp2_with (go_at_call 13; refine (Contains_any A n c ss e.session _ (HI.out _ ((Below.refl _ _).alloc (Nat.le_refl _) _)) hn).mono ?_; rintro r w' ⟨rfl, rfl⟩)
    all_goals go_ret
    all_goals exact ⟨by simp, (Below.refl _ _).alloc (Nat.le_refl _) _⟩
  · have h2 : (e.kind == 2) = false := by simp; omega
    have h3 : (e.kind == 3) = false := by simp; omega
    have h4 : (e.kind == 4) = false := by simp; omega
    have h5 : (e.kind == 5) = false := by simp; omega
    have h6 : (e.kind == 6) = false := by simp; omega
    have hr : ownB t ss e = if e.kind = 7 ∨ e.kind = 10 ∨ e.kind = 11 ∨ e.kind = 12 ∨ e.kind = 13 then e.tenant.toList == t.toList else false := by unfold ownB; rw [if_neg h1]
    have HR := Lib.hid hr
    clear hr h1
    go_enter Try.func6, Try.ntmps6
    go_wp2_with fail
    all_goals go_ret
    all_goals refine ⟨ret_bool ?_, (Below.refl _ _).alloc (Nat.le_refl _) _⟩
    all_goals rw [HR.out]
    all_goals first | rw [if_pos (by simp at *; omega)] | rw [if_neg (by simp at *; omega)]

theorem refOwn_any (t : ByteArray) (A : Option Addr) (n c : Nat) (ss : List Int) (e : Ev) (w : World) (h : Ints w A n ss) (hn : n ≤ 100000000000) :
    Calls Try.prog 7 #[.string t, .slice A n c, evV e] w fun r w' => r = .returned (.bool (ownB t ss e)) ∧ Below w.heap.size w w' := by
  have hl : ss.length = n := by simpa using h.1
  by_cases h1 : 2 ≤ e.kind ∧ e.kind ≤ 6
  · have hr : ownB t ss e = hasI ss e.session := by unfold ownB; rw [if_pos h1]
    rw [hr]
    clear hr
    have h7 : (e.kind == 7) = false := by simp; omega
    have h10 : (e.kind == 10) = false := by simp; omega
    have h11 : (e.kind == 11) = false := by simp; omega
    have h12 : (e.kind == 12) = false := by simp; omega
    have h13 : (e.kind == 13) = false := by simp; omega
    obtain ⟨h1a, h1b⟩ := h1
    go_enter Try.func7, Try.ntmps7
    go_wp2
    go_loopw [8] (fun i wr => ∃ k : Nat, k ≤ n ∧ i = .int .i64 k ∧ (∀ j, j < k → ss[j]? ≠ some e.session) ∧ Ints wr A n ss ∧ wr.cell? ⟨w.heap.size, 1, none⟩ = some (.int .i64 e.session) ∧ Below w.heap.size w wr) (fun i _ => n - (intOf i).toNat)
    case atStart => exact ⟨0, by omega, rfl, fun j h => absurd h (Nat.not_lt_zero _), Rd.below h ((Below.refl _ _).alloc (Nat.le_refl _) _), by rw [cell_of_row _ _ _ _ _ _ (heap_alloc_new _ _)]; rfl, (Below.refl _ _).alloc (Nat.le_refl _) _⟩
    case round =>
      obtain ⟨k, hk, rfl, hall, hss, hc1, hb⟩ := hrel
      have HALL := Lib.hid hall
      clear hall
      by_cases hlt : k < n
      · obtain ⟨b, o, y, rfl, hy, hc⟩ := hss.at_ hlt
        have HY := Lib.hid hy
        have HL := Lib.hid hl
        have HSS := Lib.hid hss
        have HH := Lib.hid h
        clear hy hl hss h
        by_cases hxy : y = e.session
        · subst hxy
          go_wp2
          go_quiet (fail)
          go_wp2
          go_ret
          refine ⟨ret_bool ?_, below_drewN hb _⟩
          have : e.session ∈ ss := List.mem_of_getElem? HY.out
          simp [hasI, this]
        · have hxy' : (y == e.session) = false := by simpa using hxy
          go_wp2
          go_quiet (fail)
          go_wp2
          refine ⟨⟨k + 1, by omega, by go_num, ?_, HSS.out, hc1, below_drewN hb _⟩, by simp [intOf]; omega⟩
          intro j hj
          by_cases hjk : j < k
          · exact HALL.out j hjk
          · obtain rfl : j = k := by omega
            rw [HY.out]; simpa using hxy
      · go_wp2
        go_ret
        refine ⟨ret_bool ?_, hb⟩
        have : e.session ∉ ss := by
          intro hm
          obtain ⟨j, hj, he⟩ := List.mem_iff_getElem.1 hm
          exact HALL.out j (by omega) (by rw [List.getElem?_eq_getElem hj, he])
        simp [hasI, this]
  · have hr : ownB t ss e = if e.kind = 7 ∨ e.kind = 10 ∨ e.kind = 11 ∨ e.kind = 12 ∨ e.kind = 13 then e.tenant.toList == t.toList else false := by unfold ownB; rw [if_neg h1]
    have HR := Lib.hid hr
    clear hr
    by_cases h2 : e.kind < 2
    · clear h1
      go_enter Try.func7, Try.ntmps7
      go_wp2
      all_goals go_ret
      all_goals refine ⟨ret_bool ?_, (Below.refl _ _).alloc (Nat.le_refl _) _⟩
      all_goals rw [HR.out]
      all_goals first | rw [if_pos (by simp at *; omega)] | rw [if_neg (by simp at *; omega)] | (exfalso; simp at *; omega)
    · have h3 : 6 < e.kind := by omega
      have h2' : 2 ≤ e.kind := by omega
      clear h1 h2
      go_enter Try.func7, Try.ntmps7
      go_wp2
      all_goals go_ret
      all_goals refine ⟨ret_bool ?_, (Below.refl _ _).alloc (Nat.le_refl _) _⟩
      all_goals rw [HR.out]
      all_goals first | rw [if_pos (by simp at *; omega)] | rw [if_neg (by simp at *; omega)] | (exfalso; simp at *; omega)
end Go.Proofs.Ytfdafkjoienpmaa
