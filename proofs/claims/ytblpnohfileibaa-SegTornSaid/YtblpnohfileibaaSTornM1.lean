/- Floating numbers: math.IsNaN, math.IsInf, math.Signbit, real.Class, real.Canon, price.Check. -/
import Derived.Test.YtblpnohfileibaaProg
import Derived.Test.YtblpnohfileibaaSTornM0
import Derived.WalkLawsBesides
import Derived.Laws.BitsAllLaws
import Derived.Laws.ResultCell
namespace Go.Proofs.Ytblpnohfileibaa
open Go.RowKit

def nanF (b : Nat) : Bool := decide (infF < rungF b)

theorem IsNaN_any (b : Nat) (hb : b < 18446744073709551616) (w : World) : Calls Try.prog 159 #[.float .f64 b] w fun e w' => e = .returned (.bool (nanF b)) ∧ w = w' := by
  have h := ord_self b hb
  have h2 : (Ieee.double.order b b != some .eq) = nanF b := by
    unfold bne; rw [h]; unfold nanF; rw [Bool.eq_iff_iff]; simp
  have h3 : (FloatKind.f64.format.order b b != some .eq) = nanF b := h2
  clear h h2
  go_enter Try.func159, Try.ntmps159
  go_wp2
  go_ret
  exact ⟨by simp, rfl⟩
theorem ext_frombits (n : Int) (w : World) : (callFunc 158 #[.int .u64 n]).run Try.prog w = .ok (.value (.float .f64 n.toNat)) w :=
  run_callFunc_extern (e := Go.Extern.MathFloatBits.float64frombits) Try.func158 (by kernel_rfl) (by kernel_rfl) (by kernel_rfl) (by kernel_rfl) _ w
theorem ext_bits (n : Nat) (w : World) : (callFunc 166 #[.float .f64 n]).run Try.prog w = .ok (.value (.int .u64 n)) w :=
  run_callFunc_extern (e := Go.Extern.MathFloatBits.float64bits) Try.func166 (by kernel_rfl) (by kernel_rfl) (by kernel_rfl) (by kernel_rfl) _ w

set_option maxRecDepth 100000 in
theorem Abs_any (b : Nat) (hb : b < 18446744073709551616) (w : World) : Calls Try.prog 164 #[.float .f64 b] w fun e w' => e = .returned (.float .f64 (rungF b)) ∧ w = w' := by
  have h1 := ext_frombits
  have h2 := ext_bits
  go_enter Try.func164, Try.ntmps164
  go_wp2
  go_ret
  have e : (bits BinOp.andNot IntKind.u64 (↑b) 9223372036854775808).toNat = rungF b := by
    have := u64_andNot_nat b 9223372036854775808 hb (by omega)
    have h2 : (b &&& (18446744073709551615 - 9223372036854775808)) = rungF b := by
      unfold rungF
      exact Nat.and_two_pow_sub_one_eq_mod b 63
    rw [h2] at this
    rw [show ((9223372036854775808 : Nat) : Int) = 9223372036854775808 from rfl] at this
    rw [this, Int.toNat_natCast]
  exact ⟨by simp [e], rfl⟩

theorem gt_max (b : Nat) (hb : b < 18446744073709551616) : (FloatKind.f64.format.order b 9218868437227405311 == some .gt) = decide (rungF b = infF ∧ negF b = false) := ord_max b hb
theorem lt_zero (b : Nat) (hb : b < 18446744073709551616) : (FloatKind.f64.format.order b 0 == some .lt) = decide (0 < rungF b ∧ rungF b ≤ infF ∧ negF b = true) := by
  show (Ieee.double.order b 0 == _) = _
  rw [ord_zero b hb]
  by_cases h1 : infF < rungF b
  · rw [if_pos h1]; symm; rw [show (none == some Ordering.lt) = false from rfl, decide_eq_false_iff_not]; omega
  · rw [if_neg h1]
    by_cases h2 : rungF b = 0
    · rw [if_pos h2]; symm; rw [show (some Ordering.eq == some Ordering.lt) = false from rfl, decide_eq_false_iff_not]; omega
    · rw [if_neg h2]
      have h3 : 0 < rungF b := by omega
      have h4 : rungF b ≤ infF := by omega
      cases negF b <;> simp [h3, h4]
theorem gt_zero (b : Nat) (hb : b < 18446744073709551616) : (FloatKind.f64.format.order b 0 == some .gt) = decide (0 < rungF b ∧ rungF b ≤ infF ∧ negF b = false) := by
  show (Ieee.double.order b 0 == _) = _
  rw [ord_zero b hb]
  by_cases h1 : infF < rungF b
  · rw [if_pos h1]; symm; rw [show (none == some Ordering.gt) = false from rfl, decide_eq_false_iff_not]; omega
  · rw [if_neg h1]
    by_cases h2 : rungF b = 0
    · rw [if_pos h2]; symm; rw [show (some Ordering.eq == some Ordering.gt) = false from rfl, decide_eq_false_iff_not]; omega
    · rw [if_neg h2]
      have h3 : 0 < rungF b := by omega
      have h4 : rungF b ≤ infF := by omega
      cases negF b <;> simp [h3, h4]

def isInfB (b : Nat) : Bool := decide (rungF b = infF)
theorem IsInf0 (b : Nat) (hb : b < 18446744073709551616) (w : World) : Calls Try.prog 160 #[.float .f64 b, .int .i64 0] w fun e w' => e = .returned (.bool (isInfB b)) ∧ w = w' := by
  have hr : rungF b < 9223372036854775808 := by unfold rungF; omega
  have h : (FloatKind.f64.format.order (rungF b) 9218868437227405311 == some .gt) = isInfB b := by
    rw [gt_max _ (by omega)]
    unfold isInfB
    have e1 : rungF (rungF b) = rungF b := by unfold rungF; omega
    have e2 : negF (rungF b) = false := by unfold negF; simp; omega
    rw [e1, e2]
    simp
  have hA := fun w => Abs_any b hb w
  have HA := Lib.hid hA
  clear hA
  go_enter Try.func160, Try.ntmps160
  go_wp2_with (go_at_call 164; (with_reducible refine (HA.out _).mono ?_); rintro e w' ⟨rfl, rfl⟩)
  go_ret
  exact ⟨by simp, rfl⟩
theorem IsInfP (b : Nat) (hb : b < 18446744073709551616) (w : World) : Calls Try.prog 160 #[.float .f64 b, .int .i64 1] w fun e w' => e = .returned (.bool (isInfB b && !negF b)) ∧ w = w' := by
  have h : (FloatKind.f64.format.order b 9218868437227405311 == some .gt) = (isInfB b && !negF b) := by
    rw [gt_max _ hb]
    unfold isInfB
    rw [Bool.eq_iff_iff]; simp
  go_enter Try.func160, Try.ntmps160
  go_wp2
  go_ret
  exact ⟨by simp, rfl⟩
theorem IsInfM (b : Nat) (hb : b < 18446744073709551616) (w : World) : Calls Try.prog 160 #[.float .f64 b, .int .i64 (-1)] w fun e w' => e = .returned (.bool (isInfB b && negF b)) ∧ w = w' := by
  have h : (FloatKind.f64.format.order (Op.negFloat .f64 b) 9218868437227405311 == some .gt) = (isInfB b && negF b) := by
    rw [neg_eq b hb]
    rw [gt_max _ (by unfold negF; split <;> simp at * <;> omega)]
    unfold isInfB
    by_cases hn : 9223372036854775808 ≤ b
    · have h1 : negF b = true := by unfold negF; simpa using hn
      have h2 : rungF (b - 9223372036854775808) = rungF b := by unfold rungF; omega
      have h3 : negF (b - 9223372036854775808) = false := by unfold negF; simp; omega
      rw [h1, if_pos rfl, h2, h3]; simp
    · have h1 : negF b = false := by unfold negF; simpa using hn
      have h3 : negF (b + 9223372036854775808) = true := by unfold negF; simp
      rw [h1, if_neg (by simp), h3]; simp
  have hneg : ∀ w, (Op.unary .neg (.float .f64 b)).run Try.prog w = .ok (.float .f64 (Op.negFloat .f64 b)) w := fun _ => rfl
  go_enter Try.func160, Try.ntmps160
  go_wp2
  go_ret
  exact ⟨by simp, rfl⟩
set_option maxRecDepth 100000 in
theorem Signbit_any (b : Nat) (hb : b < 18446744073709551616) (w : World) : Calls Try.prog 167 #[.float .f64 b] w fun e w' => e = .returned (.bool (negF b)) ∧ w = w' := by
  have h2 := ext_bits
  go_enter Try.func167, Try.ntmps167
  go_wp2
  go_ret
  refine ⟨ret_bool ?_, rfl⟩
  unfold negF
  rw [Bool.eq_iff_iff]
  simp [wrap64]
  omega
/-- the class of the bits b, as real.Class tells it -/
def classF (b : Nat) : Nat := if nanF b then 0 else if isInfB b then (if negF b then 1 else 6) else if rungF b = 0 then (if negF b then 3 else 4) else if negF b then 2 else 5

set_option maxHeartbeats 1000000 in
set_option maxRecDepth 100000 in
theorem Class_any (b : Nat) (hb : b < 18446744073709551616) (w : World) : Calls Try.prog 165 #[.int .u64 b] w fun e w' => e = .returned (.int .i64 (classF b)) ∧ w = w' := by
  have hx := ext_frombits
  have h1 := fun w => IsNaN_any b hb w
  have h2 := fun w => IsInfM b hb w
  have h3 := fun w => IsInfP b hb w
  have h4 := fun w => Signbit_any b hb w
  have h5 := lt_zero b hb
  have h6 := gt_zero b hb
  have hc : ∃ c, classF b = c := ⟨_, rfl⟩
  obtain ⟨c, hc⟩ := hc
  unfold classF at hc
  have hnan : nanF b = decide (infF < rungF b) := rfl
  have hinf : isInfB b = decide (rungF b = infF) := rfl
  have e0 : classF b = c := hc
  rw [e0]
  clear e0
  generalize hn : nanF b = bn at *
  generalize hi : isInfB b = bi at *
  generalize hg : negF b = bg at *
  have H1 := Lib.hid h1
  have H2 := Lib.hid h2
  have H3 := Lib.hid h3
  have H4 := Lib.hid h4
  clear h1 h2 h3 h4 hn hi hg
  cases bn with
  | true =>
    simp at hc
    subst hc
    clear h5 h6 hnan hinf
    go_enter Try.func165, Try.ntmps165
    go_wp2_with (go_at_call 159; (with_reducible refine (H1.out _).mono ?_); rintro e w' ⟨rfl, rfl⟩)
    go_ret
    exact ⟨by simp, rfl⟩
  | false =>
    have hle : rungF b ≤ infF := by have := hnan; simp at this; exact this
    clear hnan
    cases bi with
    | true =>
      clear h5 h6 hinf hle
      cases bg <;> simp at hc <;> subst hc
      all_goals go_enter Try.func165, Try.ntmps165
      all_goals go_wp2_with (first
        | (go_at_call 159; (with_reducible refine (H1.out _).mono ?_); rintro e w' ⟨rfl, rfl⟩)
        | (go_at_call 160; (with_reducible refine (H2.out _).mono ?_); rintro e w' ⟨rfl, rfl⟩)
        | (go_at_call 160; (with_reducible refine (H3.out _).mono ?_); rintro e w' ⟨rfl, rfl⟩)
        | (go_at_call 167; (with_reducible refine (H4.out _).mono ?_); rintro e w' ⟨rfl, rfl⟩))
      all_goals go_ret
      all_goals exact ⟨by simp, rfl⟩
    | false =>
      clear hinf
      by_cases h0 : rungF b = 0
      · rw [h0] at h5 h6
        simp only [Nat.lt_irrefl, false_and, decide_false] at h5 h6
        rw [if_neg (by simp), if_neg (by simp), if_pos h0] at hc
        clear h0 hle
        cases bg <;> simp at hc <;> subst hc
        all_goals go_enter Try.func165, Try.ntmps165
        all_goals go_wp2_with (first
          | (go_at_call 159; (with_reducible refine (H1.out _).mono ?_); rintro e w' ⟨rfl, rfl⟩)
          | (go_at_call 160; (with_reducible refine (H2.out _).mono ?_); rintro e w' ⟨rfl, rfl⟩)
          | (go_at_call 160; (with_reducible refine (H3.out _).mono ?_); rintro e w' ⟨rfl, rfl⟩)
          | (go_at_call 167; (with_reducible refine (H4.out _).mono ?_); rintro e w' ⟨rfl, rfl⟩))
        all_goals go_ret
        all_goals exact ⟨by simp, rfl⟩
      · rw [if_neg (by simp), if_neg (by simp), if_neg h0] at hc
        have hpos : 0 < rungF b := by omega
        simp only [hpos, hle, true_and] at h5 h6
        clear h0 hle hpos
        cases bg <;> simp at hc h5 h6 <;> subst hc
        all_goals go_enter Try.func165, Try.ntmps165
        all_goals go_wp2_with (first
          | (go_at_call 159; (with_reducible refine (H1.out _).mono ?_); rintro e w' ⟨rfl, rfl⟩)
          | (go_at_call 160; (with_reducible refine (H2.out _).mono ?_); rintro e w' ⟨rfl, rfl⟩)
          | (go_at_call 160; (with_reducible refine (H3.out _).mono ?_); rintro e w' ⟨rfl, rfl⟩)
          | (go_at_call 167; (with_reducible refine (H4.out _).mono ?_); rintro e w' ⟨rfl, rfl⟩))
        all_goals go_ret
        all_goals exact ⟨by simp, rfl⟩
end Go.Proofs.Ytblpnohfileibaa

/- real.Canon, price.Check, rec.plain: is it a price? -/
namespace Go.Proofs.Ytblpnohfileibaa
open Go.RowKit

def canonF (b : Nat) : Nat := if classF b = 0 then 9221120237041090560 else if classF b = 3 then 0 else b
theorem Canon_any (b : Nat) (hb : b < 18446744073709551616) (w : World) : Calls Try.prog 161 #[.int .u64 b] w fun e w' => e = .returned (.int .u64 (canonF b)) ∧ w = w' := by
  have h1 := fun w => Class_any b hb w
  have hc : canonF b = if classF b = 0 then 9221120237041090560 else if classF b = 3 then 0 else b := rfl
  generalize canonF b = r at *
  generalize classF b = c at *
  have H1 := Lib.hid h1
  clear h1
  by_cases h0 : c = 0
  · rw [if_pos h0] at hc
    subst h0 hc
    go_enter Try.func161, Try.ntmps161
    go_wp2_with (go_at_call 165; (with_reducible refine (H1.out _).mono ?_); rintro e w' ⟨rfl, rfl⟩)
    go_ret
    exact ⟨by simp, rfl⟩
  · rw [if_neg h0] at hc
    by_cases h3 : c = 3
    · rw [if_pos h3] at hc
      subst h3 hc
      go_enter Try.func161, Try.ntmps161
      go_wp2_with (go_at_call 165; (with_reducible refine (H1.out _).mono ?_); rintro e w' ⟨rfl, rfl⟩)
      go_ret
      exact ⟨by simp, rfl⟩
    · rw [if_neg h3] at hc
      subst hc
      have e0 : ((c : Int) == 0) = false := by rw [beq_eq_false_iff_ne]; omega
      have e3 : ((c : Int) == 3) = false := by rw [beq_eq_false_iff_ne]; omega
      go_enter Try.func161, Try.ntmps161
      go_wp2_with (go_at_call 165; (with_reducible refine (H1.out _).mono ?_); rintro e w' ⟨rfl, rfl⟩)
      go_ret
      exact ⟨by simp, rfl⟩

/-- is it no price? -/
def badF (b : Nat) : Bool := nanF b || isInfB b || decide (0 < rungF b ∧ rungF b ≤ infF ∧ negF b = true)
def CheckF (bad : Bool) (r : Nat) (w : World) (e : Ending) (w' : World) : Prop :=
  (bad = true ∧ e = .returned (.tuple #[.int .u64 0, .int .i64 13]) ∧ w = w') ∨ (bad = false ∧ e = .returned (.tuple #[.int .u64 r, .int .i64 0]) ∧ w = w')
set_option maxHeartbeats 1000000 in
set_option maxRecDepth 100000 in
theorem CheckPrice_any (b : Nat) (hb : b < 18446744073709551616) (w : World) : Calls Try.prog 151 #[.int .u64 b] w (CheckF (badF b) (canonF b) w) := by
  have hx := ext_frombits
  have h1 := fun w => IsNaN_any b hb w
  have h2 := fun w => IsInf0 b hb w
  have h3 := fun w => Canon_any b hb w
  have h5 := lt_zero b hb
  have hbad : badF b = (nanF b || isInfB b || decide (0 < rungF b ∧ rungF b ≤ infF ∧ negF b = true)) := rfl
  generalize badF b = bb at *
  generalize nanF b = bn at *
  generalize isInfB b = bi at *
  generalize decide (0 < rungF b ∧ rungF b ≤ infF ∧ negF b = true) = bl at *
  generalize canonF b = r at *
  have H1 := Lib.hid h1
  have H2 := Lib.hid h2
  have H3 := Lib.hid h3
  clear h1 h2 h3
  cases bn <;> cases bi <;> cases bl <;> simp at hbad <;> subst hbad
  all_goals go_enter Try.func151, Try.ntmps151
  all_goals go_wp2_with (first
    | (go_at_call 159; (with_reducible refine (H1.out _).mono ?_); rintro e w' ⟨rfl, rfl⟩)
    | (go_at_call 160; (with_reducible refine (H2.out _).mono ?_); rintro e w' ⟨rfl, rfl⟩)
    | (go_at_call 161; (with_reducible refine (H3.out _).mono ?_); rintro e w' ⟨rfl, rfl⟩))
  all_goals go_ret2
  all_goals first | exact .inl ⟨rfl, by simp, rfl⟩ | exact .inr ⟨rfl, by simp, rfl⟩

/-- a price without edges: of class 4 or 5 -/
def plainF (b : Nat) : Bool := classF b == 4 || classF b == 5
theorem plain_eq (b : Nat) (hb : b < 18446744073709551616) : plainF b = (!badF b && canonF b == b) := by
  unfold plainF badF canonF classF nanF isInfB
  by_cases h1 : infF < rungF b
  · simp [h1]
  · have h1' : rungF b ≤ infF := by omega
    by_cases h2 : rungF b = infF
    · simp [h2]; split <;> simp
    · by_cases h3 : rungF b = 0
      · simp only [h1, h2, h3, decide_false, decide_true, Nat.lt_irrefl, false_and, Bool.false_eq_true, if_false, if_true]
        cases hn : negF b with
        | true =>
          have : b ≠ 0 := by unfold negF at hn; simp at hn; omega
          simp [infF]
          exact fun h => this h.symm
        | false => simp [infF]
      · have h4 : 0 < rungF b := by omega
        cases hn : negF b <;> simp [h1, h1', h2, h3, h4]
theorem plain_any (b : Nat) (hb : b < 18446744073709551616) (w : World) : Calls Try.prog 132 #[.int .u64 b] w fun e w' => e = .returned (.bool (plainF b)) ∧ w = w' := by
  have hp := plain_eq b hb
  have hC := fun w => CheckPrice_any b hb w
  cases hbad : badF b with
  | true =>
    have hC2 : ∀ w, Calls Try.prog 151 #[.int .u64 b] w fun e w' => e = .returned (.tuple #[.int .u64 0, .int .i64 13]) ∧ w = w' := fun w => (hC w).mono fun e w' h => by
      rcases h with h | h
      · exact h.2
      · rw [hbad] at h; cases h.1
    rw [hbad] at hp
    rw [hp]
    have H := Lib.hid hC2
    clear hC hC2 hp hbad
    go_enter Try.func132, Try.ntmps132
    go_wp2_with (go_at_call 151; (with_reducible refine (H.out _).mono ?_); rintro e w' ⟨rfl, rfl⟩)
    go_ret
    exact ⟨by simp, rfl⟩
  | false =>
    have hC2 : ∀ w, Calls Try.prog 151 #[.int .u64 b] w fun e w' => e = .returned (.tuple #[.int .u64 (canonF b), .int .i64 0]) ∧ w = w' := fun w => (hC w).mono fun e w' h => by
      rcases h with h | h
      · rw [hbad] at h; cases h.1
      · exact h.2
    rw [hbad] at hp
    rw [hp]
    have H := Lib.hid hC2
    clear hC hC2 hp hbad
    generalize canonF b = r at *
    go_enter Try.func132, Try.ntmps132
    go_wp2_with (go_at_call 151; (with_reducible refine (H.out _).mono ?_); rintro e w' ⟨rfl, rfl⟩)
    go_ret
    refine ⟨ret_bool ?_, rfl⟩
    rw [Bool.eq_iff_iff]; simp; try omega
end Go.Proofs.Ytblpnohfileibaa

/- Names of tenants and of targets: what the package name says of them. -/
namespace Go.Proofs.Ytblpnohfileibaa
open Go.RowKit

def letB (r : Int) : Bool := decide (97 ≤ r) && decide (r ≤ 122)
def digB (r : Int) : Bool := decide (48 ≤ r) && decide (r ≤ 57)
def smallB (r : Int) : Bool := letB r || digB r || decide (r = 45)

theorem digitT_any (r : Int) (w : World) : Calls Try.prog 97 #[.int .i32 r] w fun e w' => e = .returned (.bool (digB r)) ∧ w = w' := by
  go_enter Try.func97, Try.ntmps97
  go_wp2
  all_goals go_ret
  all_goals refine ⟨ret_bool ?_, rfl⟩
  all_goals (unfold digB; rw [Bool.eq_iff_iff]; simp at *; omega)
theorem letter_any (r : Int) (w : World) : Calls Try.prog 150 #[.int .i32 r] w fun e w' => e = .returned (.bool (letB r)) ∧ w = w' := by
  go_enter Try.func150, Try.ntmps150
  go_wp2
  all_goals go_ret
  all_goals refine ⟨ret_bool ?_, rfl⟩
  all_goals (unfold letB; rw [Bool.eq_iff_iff]; simp at *; omega)
theorem small_any (r : Int) (w : World) : Calls Try.prog 124 #[.int .i32 r] w fun e w' => e = .returned (.bool (smallB r)) ∧ w = w' := by
  cases hd : digB r with
  | true =>
    have hD := fun w => digitT_any r w
    rw [hd] at hD
    have HD := Lib.hid hD
    have h : 48 ≤ r ∧ r ≤ 57 := by simpa [digB] using hd
    have hs : smallB r = true := by unfold smallB; rw [hd]; simp
    rw [hs]
    clear hD hd hs
    go_enter Try.func124, Try.ntmps124
    go_wp2_with (go_at_call 97; (with_reducible refine (HD.out _).mono ?_); rintro e w' ⟨rfl, rfl⟩)
    all_goals go_ret
    all_goals exact ⟨by simp, rfl⟩
  | false =>
    have hD := fun w => digitT_any r w
    rw [hd] at hD
    have HD := Lib.hid hD
    have hs : smallB r = (letB r || decide (r = 45)) := by unfold smallB; rw [hd]; simp
    rw [hs]
    clear hD hd hs
    go_enter Try.func124, Try.ntmps124
    go_wp2_with (go_at_call 97; (with_reducible refine (HD.out _).mono ?_); rintro e w' ⟨rfl, rfl⟩)
    all_goals go_ret
    all_goals refine ⟨ret_bool ?_, rfl⟩
    all_goals (unfold letB; rw [Bool.eq_iff_iff]; simp at *; omega)

/-- 1 to most bytes, all of a kind, the first one of another kind, too -/
def nmB (p1 p2 : Int → Bool) (most : Nat) (l : List UInt8) : Bool := decide (1 ≤ l.length) && decide (l.length ≤ most) && l.all (fun x => p1 x.toNat) && p2 ((l.getD 0 0).toNat)

/-- the rune at a byte's place -/
theorem next_rune {wr : World} {B : Nat} {s : ByteArray} {k : Nat} {x : UInt8} (hit : wr.heap[B]? = some (.stringIter s k)) (hx : s.data.toList[k]? = some x) :
    ∃ (r q : Nat), ((x.toNat < 128 ∧ r = x.toNat ∧ q = 1) ∨ (128 ≤ x.toNat ∧ 128 ≤ r)) ∧ 1 ≤ q ∧ ∀ ty, (Instr.next (.pointer (some ⟨B, 0, none⟩)) true ty).run Try.prog wr = .ok (.tuple #[.bool true, .int .i64 k, .int .i32 (r : Int)]) (wr.iterAt B s (k + q)) := by
  by_cases hxa : x.toNat < 128
  · exact ⟨x.toNat, 1, .inl ⟨hxa, rfl, rfl⟩, Nat.le_refl _, fun ty => next_ascii (P := Try.prog) hit hx hxa ty⟩
  · obtain ⟨h1, h2, h3⟩ := decode_high s k (by have := (List.getElem?_eq_some_iff.1 hx).1; simpa using this) (by rw [getElem_bs, (List.getElem?_eq_some_iff.1 hx).2]; exact hxa)
    exact ⟨_, _, .inr ⟨by omega, h1⟩, h3, fun ty => Lib.run_next_any_at wr B s k ty hit (by have := (List.getElem?_eq_some_iff.1 hx).1; simpa using this)⟩
end Go.Proofs.Ytblpnohfileibaa

/- name.Tenant: may a string be a tenant's name? -/
namespace Go.Proofs.Ytblpnohfileibaa
open Go.RowKit

set_option maxHeartbeats 1000000 in
set_option maxRecDepth 100000 in
theorem named_ten (s : ByteArray) (w : World) :
    Calls Try.prog 122 #[.string s, .int .i64 16, .func (.func 124) #[] #[], .func (.func 150) #[] #[]] w fun e w' => e = .returned (.bool (nmB smallB letB 16 s.data.toList)) ∧ Below w.heap.size w w' := by
  have hsz : s.data.toList.length = s.size := by simp
  by_cases h0 : s.size = 0
  · have hr : nmB smallB letB 16 s.data.toList = false := by unfold nmB; rw [hsz, h0]; rfl
    rw [hr]
    clear hr hsz
    go_enter Try.func122, Try.ntmps122
    go_wp2
    go_ret
    exact ⟨by simp, bel_rfl⟩
  by_cases h1 : 16 < s.size
  · have hr : nmB smallB letB 16 s.data.toList = false := by unfold nmB; rw [hsz, decide_eq_false (by omega : ¬ s.size ≤ 16)]; simp
    rw [hr]
    clear hr hsz
    go_enter Try.func122, Try.ntmps122
    go_wp2
    go_ret
    exact ⟨by simp, bel_rfl⟩
  have HSZ := Lib.hid hsz
  have h0' : ((s.size : Int) == 0) = false := by rw [beq_eq_false_iff_ne]; omega
  have h1' : decide ((16 : Int) < (s.size : Int)) = false := by rw [decide_eq_false_iff_not]; omega
  clear hsz
  go_enter Try.func122, Try.ntmps122
  go_wp2
  go_loopw [] (fun wr => ∃ k : Nat, k ≤ s.size ∧ wr.heap[w.heap.size]? = some (.stringIter s k) ∧ (∀ j x, j < k → s.data.toList[j]? = some x → smallB x.toNat = true) ∧ (0 < k → letB (s.data.toList.getD 0 0).toNat = true) ∧ Below w.heap.size w wr) (fun wr => s.size - wr.iterPos w.heap.size)
  case atStart =>
    exact ⟨0, Nat.zero_le _, by rw [World.iter_heap], fun j x h => absurd h (Nat.not_lt_zero _), fun h => absurd h (Nat.lt_irrefl _), (Below.refl _ _).alloc (Nat.le_refl _) _⟩
  case round =>
    obtain ⟨k, hk, hit, hall, hfst, hb⟩ := hrel
    have HALL := Lib.hid hall
    have HFST := Lib.hid hfst
    clear hall hfst
    by_cases hlt : k < s.size
    · obtain ⟨x, hx⟩ : ∃ x, s.data.toList[k]? = some x := ⟨_, List.getElem?_eq_getElem (by rw [HSZ.out]; exact hlt)⟩
      obtain ⟨r, q, hrx, hq, hnx⟩ := next_rune (k := k) hit hx
      have HX := Lib.hid hx
      have HIT := Lib.hid hit
      have HRX := Lib.hid hrx
      clear hx hit hrx
      have hP1 : ∀ w, Calls Try.prog 124 #[.int .i32 (r : Int)] w fun e w' => e = .returned (.bool (smallB r)) ∧ w = w' := small_any r
      have hP2 : ∀ w, Calls Try.prog 150 #[.int .i32 (r : Int)] w fun e w' => e = .returned (.bool (letB r)) ∧ w = w' := letter_any r
      cases hp1 : smallB r with
      | false =>
        have hr : nmB smallB letB 16 s.data.toList = false := by
          have : s.data.toList.all (fun x => smallB x.toNat) = false := by
            rw [List.all_eq_false]
            refine ⟨x, List.mem_of_getElem? HX.out, ?_⟩
            rcases HRX.out with ⟨_, h, _⟩ | ⟨h, _⟩
            · rw [← h, hp1]; simp
            · simp [smallB, smallB, letB, digB]; omega
          unfold nmB; rw [this]; simp
        have HR := Lib.hid hr
        rw [hp1] at hP1
        have HP1 := Lib.hid hP1
        clear hP1 hP2 hr hp1
        go_wp2_with (go_at_call 124; (with_reducible refine (HP1.out _).mono ?_); rintro e w' ⟨rfl, rfl⟩)
        go_ret
        exact ⟨by rw [HR.out]; simp, Lib.below_iterAt hb (Nat.le_refl _) _ _⟩
      | true =>
        have hra : x.toNat < 128 ∧ r = x.toNat ∧ q = 1 := by
          rcases HRX.out with h | ⟨h, h'⟩
          · exact h
          · simp [smallB, smallB, letB, digB] at hp1; omega
        obtain ⟨_, hrx, rfl⟩ := hra
        have HPX := Lib.hid (show smallB x.toNat = true by rw [← hrx]; exact hp1)
        have HRX2 := Lib.hid hrx
        clear hrx
        rw [hp1] at hP1
        have HP1 := Lib.hid hP1
        clear hP1 hp1
        by_cases hk0 : k = 0
        · subst hk0
          have hd : s.data.toList.getD 0 0 = x := by simp [List.getD, HX.out]
          cases hp2 : letB r with
          | false =>
            have hr : nmB smallB letB 16 s.data.toList = false := by
              unfold nmB; rw [hd, ← HRX2.out, hp2]; simp
            have HR := Lib.hid hr
            rw [hp2] at hP2
            have HP2 := Lib.hid hP2
            clear hP2 hr hp2 hd
            go_wp2_with (first
              | (go_at_call 124; (with_reducible refine (HP1.out _).mono ?_); rintro e w' ⟨rfl, rfl⟩)
              | (go_at_call 150; (with_reducible refine (HP2.out _).mono ?_); rintro e w' ⟨rfl, rfl⟩))
            go_ret
            exact ⟨by rw [HR.out]; simp, Lib.below_iterAt hb (Nat.le_refl _) _ _⟩
          | true =>
            have HF := Lib.hid (show letB (s.data.toList.getD 0 0).toNat = true by rw [hd, ← HRX2.out]; exact hp2)
            rw [hp2] at hP2
            have HP2 := Lib.hid hP2
            clear hP2 hp2 hd
            go_wp2_with (first
              | (go_at_call 124; (with_reducible refine (HP1.out _).mono ?_); rintro e w' ⟨rfl, rfl⟩)
              | (go_at_call 150; (with_reducible refine (HP2.out _).mono ?_); rintro e w' ⟨rfl, rfl⟩))
            refine ⟨⟨1, by omega, Lib.iterAt_heap _ _ _ _ _ HIT.out, fun j y hj hy => ?_, fun _ => HF.out, Lib.below_iterAt hb (Nat.le_refl _) _ _⟩, ?_⟩
            · obtain rfl : j = 0 := by omega
              rw [HX.out] at hy; cases hy; exact HPX.out
            · rw [iterPos_of (Lib.iterAt_heap _ _ _ _ _ HIT.out), iterPos_of HIT.out]; omega
        · have HP2 := Lib.hid hP2
          clear hP2
          go_wp2_with (first
            | (go_at_call 124; (with_reducible refine (HP1.out _).mono ?_); rintro e w' ⟨rfl, rfl⟩)
            | (go_at_call 150; (with_reducible refine (HP2.out _).mono ?_); rintro e w' ⟨rfl, rfl⟩))
          refine ⟨⟨k + 1, by omega, Lib.iterAt_heap _ _ _ _ _ HIT.out, fun j y hj hy => ?_, fun _ => HFST.out (by omega), Lib.below_iterAt hb (Nat.le_refl _) _ _⟩, ?_⟩
          · by_cases hjk : j < k
            · exact HALL.out j y hjk hy
            · obtain rfl : j = k := by omega
              rw [HX.out] at hy; cases hy; exact HPX.out
          · rw [iterPos_of (Lib.iterAt_heap _ _ _ _ _ HIT.out), iterPos_of HIT.out]; omega
    · obtain rfl : k = s.size := by omega
      have hnx := next_end (P := Try.prog) hit (by rw [HSZ.out]; exact Nat.le_refl _)
      have hr : nmB smallB letB 16 s.data.toList = true := by
        have h2 : s.data.toList.all (fun x => smallB x.toNat) = true := by
          refine List.all_eq_true.2 fun y hy => ?_
          obtain ⟨j, hj, rfl⟩ := List.mem_iff_getElem.1 hy
          exact HALL.out j _ (by have := HSZ.out; omega) (List.getElem?_eq_getElem hj)
        unfold nmB
        rw [h2, HFST.out (by omega), HSZ.out, decide_eq_true (by omega : 1 ≤ s.size), decide_eq_true (by omega : s.size ≤ 16)]
        rfl
      have HR := Lib.hid hr
      clear hr
      go_wp2
      go_ret
      exact ⟨by rw [HR.out]; simp, hb⟩

def tenB (l : List UInt8) : Bool := nmB smallB letB 16 l
theorem Tenant_any (s : ByteArray) (w : World) :
    Calls Try.prog 131 #[.string s] w fun e w' => e = .returned (.bool (tenB s.data.toList)) ∧ Below w.heap.size w w' := by
  go_enter Try.func131, Try.ntmps131
  go_wp2_with (go_at_call 122; (with_reducible refine (named_ten s _).mono ?_); rintro e w' ⟨rfl, hb⟩)
  go_ret
  exact ⟨by simp [tenB], hb⟩
end Go.Proofs.Ytblpnohfileibaa

/- Records: rec.Has, rec.known, rec.Check. -/
namespace Go.Proofs.Ytblpnohfileibaa
open Go.RowKit

/-- a record -/
structure Rec where
  seq : Nat
  kind : Int
  tenant : ByteArray
  lease : Nat
  n : Nat
  bits : Nat

abbrev recCells (r : Rec) : List Value := [.int .u64 r.seq, .int .i64 r.kind, .string r.tenant, .int .u64 r.lease, .int .u64 r.n, .int .u64 r.bits]
/-- a record as a value -/
abbrev recV (r : Rec) : Value := .agg #[.int .u64 r.seq, .int .i64 r.kind, .string r.tenant, .int .u64 r.lease, .int .u64 r.n, .int .u64 r.bits]

def hasL (k : Int) : Bool := k == 3 || k == 4
def hasN (k : Int) : Bool := k == 1 || k == 3 || k == 4
def hasB (k : Int) : Bool := k == 2
def knownR (k : Int) : Bool := decide (1 ≤ k) && decide (k ≤ 5)

theorem Has_any (k : Int) (w : World) : Calls Try.prog 129 #[.int .i64 k] w fun e w' => e = .returned (.tuple #[.bool (hasL k), .bool (hasN k), .bool (hasB k)]) ∧ w = w' := by
  by_cases h1 : k = 1
  · subst h1
    go_enter Try.func129, Try.ntmps129
    go_wp2
    go_ret3
    exact ⟨by simp [hasL, hasN, hasB], rfl⟩
  by_cases h2 : k = 2
  · subst h2
    go_enter Try.func129, Try.ntmps129
    go_wp2
    go_ret3
    exact ⟨by simp [hasL, hasN, hasB], rfl⟩
  by_cases h3 : k = 3
  · subst h3
    go_enter Try.func129, Try.ntmps129
    go_wp2
    go_ret3
    exact ⟨by simp [hasL, hasN, hasB], rfl⟩
  by_cases h4 : k = 4
  · subst h4
    go_enter Try.func129, Try.ntmps129
    go_wp2
    go_ret3
    exact ⟨by simp [hasL, hasN, hasB], rfl⟩
  have e1 : (k == 1) = false := by rw [beq_eq_false_iff_ne]; exact h1
  have e2 : (k == 2) = false := by rw [beq_eq_false_iff_ne]; exact h2
  have e3 : (k == 3) = false := by rw [beq_eq_false_iff_ne]; exact h3
  have e4 : (k == 4) = false := by rw [beq_eq_false_iff_ne]; exact h4
  go_enter Try.func129, Try.ntmps129
  go_wp2
  go_ret3
  exact ⟨by simp [hasL, hasN, hasB, h1, h2, h3, h4], rfl⟩

theorem known_rec (k : Int) (w : World) : Calls Try.prog 103 #[.int .i64 k] w fun e w' => e = .returned (.bool (knownR k)) ∧ w = w' := by
  go_enter Try.func103, Try.ntmps103
  go_wp2
  all_goals go_ret
  all_goals refine ⟨ret_bool ?_, rfl⟩
  all_goals (unfold knownR; rw [Bool.eq_iff_iff]; simp at *; omega)
end Go.Proofs.Ytblpnohfileibaa

/- Records: rec.Check. -/
namespace Go.Proofs.Ytblpnohfileibaa
open Go.RowKit

def checkB (kb tb hl hn hb s0 l0 n0 b0 k3 pb : Bool) : Int :=
  if kb = false then 5 else if tb = false then 7 else if s0 = true then 6 else if hl = true ∧ l0 = true then 6 else if k3 = true ∧ n0 = true then 6
  else if hb = true ∧ pb = false then 13 else if hl = false ∧ l0 = false then 2 else if hn = false ∧ n0 = false then 2 else if hb = false ∧ b0 = false then 2 else 0
/-- what is wrong with a record -/
def checkR (r : Rec) : Int := checkB (knownR r.kind) (tenB r.tenant.data.toList) (hasL r.kind) (hasN r.kind) (hasB r.kind) (r.seq == 0) (r.lease == 0) (r.n == 0) (r.bits == 0) (r.kind == 3) (plainF r.bits)

theorem RecAt.cells {w w' : World} {r : Rec} {t : TypeId} (hb : Below (w.alloc (.cells #[.int .u64 r.seq, .int .i64 r.kind, .string r.tenant, .int .u64 r.lease, .int .u64 r.n, .int .u64 r.bits] t)).heap.size (w.alloc (.cells #[.int .u64 r.seq, .int .i64 r.kind, .string r.tenant, .int .u64 r.lease, .int .u64 r.n, .int .u64 r.bits] t)) w') :
    w'.cell? ⟨w.heap.size, 0, none⟩ = some (.int .u64 r.seq) ∧ w'.cell? ⟨w.heap.size, 1, none⟩ = some (.int .i64 r.kind) ∧ w'.cell? ⟨w.heap.size, 2, none⟩ = some (.string r.tenant) ∧
    w'.cell? ⟨w.heap.size, 3, none⟩ = some (.int .u64 r.lease) ∧ w'.cell? ⟨w.heap.size, 4, none⟩ = some (.int .u64 r.n) ∧ w'.cell? ⟨w.heap.size, 5, none⟩ = some (.int .u64 r.bits) := by
  have h : ∀ i v, (recCells r)[i]? = some v → w'.cell? ⟨w.heap.size, i, none⟩ = some v := fun i v hv => by
    rw [hb.cell (p := ⟨w.heap.size, i, none⟩) (by simp), cell_of_row _ _ _ _ _ _ (heap_alloc_new _ _)]
    simpa using hv
  exact ⟨h 0 _ rfl, h 1 _ rfl, h 2 _ rfl, h 3 _ rfl, h 4 _ rfl, h 5 _ rfl⟩

set_option maxHeartbeats 4000000 in
set_option maxRecDepth 100000 in
theorem CheckRec_any (r : Rec) (hb : r.bits < 18446744073709551616) (w : World) : Calls Try.prog 108 #[recV r] w fun e w' => e = .returned (.int .i64 (checkR r)) ∧ Below w.heap.size w w' := by
  have hH := fun w => Has_any r.kind w
  have hK := fun w => known_rec r.kind w
  have hT := fun w => Tenant_any r.tenant w
  have hP := fun w => plain_any r.bits hb w
  have hc : checkR r = checkB (knownR r.kind) (tenB r.tenant.data.toList) (hasL r.kind) (hasN r.kind) (hasB r.kind) (r.seq == 0) (r.lease == 0) (r.n == 0) (r.bits == 0) (r.kind == 3) (plainF r.bits) := rfl
  have hcast : ∀ x : Nat, (x == 0) = ((x : Int) == 0) := fun x => by rw [Bool.eq_iff_iff]; simp
  rw [hcast, hcast, hcast, hcast] at hc
  generalize checkR r = res at *
  generalize knownR r.kind = kb at *
  generalize tenB r.tenant.data.toList = tb at *
  generalize hasL r.kind = hl at *
  generalize hasN r.kind = hn at *
  generalize hasB r.kind = hb' at *
  generalize plainF r.bits = pb at *
  generalize h1 : ((r.seq : Int) == 0) = s0 at *
  generalize h2 : ((r.lease : Int) == 0) = l0 at *
  generalize h3 : ((r.n : Int) == 0) = n0 at *
  generalize h4 : ((r.bits : Int) == 0) = b0 at *
  generalize h5 : (r.kind == 3) = k3 at *
  have h2' : ((r.lease : Int) != 0) = !l0 := by rw [← h2]; rfl
  have h3' : ((r.n : Int) != 0) = !n0 := by rw [← h3]; rfl
  have h4' : ((r.bits : Int) != 0) = !b0 := by rw [← h4]; rfl
  have HH := Lib.hid hH
  have HK := Lib.hid hK
  have HT := Lib.hid hT
  have HP := Lib.hid hP
  have HC := Lib.hid hc
  clear hH hK hT hP hc hcast
  go_enter Try.func108, Try.ntmps108
  go_wp2_with (first
    | (go_at_call 129; (with_reducible refine (HH.out _).mono ?_); rintro e w' ⟨rfl, rfl⟩)
    | (go_at_call 103; (with_reducible refine (HK.out _).mono ?_); rintro e w' ⟨rfl, rfl⟩)
    | (go_at_call 131; (with_reducible refine (HT.out _).mono ?_); rintro e w1 ⟨rfl, hb1⟩; obtain ⟨c0, c1, c2, c3, c4, c5⟩ := RecAt.cells hb1)
    | (go_at_call 132; (with_reducible refine (HP.out _).mono ?_); rintro e w' ⟨rfl, rfl⟩))
  all_goals go_ret
  all_goals refine ⟨?_, by first | exact (Below.refl _ _).alloc (Nat.le_refl _) _ | exact bel_trans ((Below.refl _ _).alloc (Nat.le_refl _) _) hb1⟩
  all_goals rw [HC.out]
  all_goals clear HC HH HK HT HP h2' h3' h4'
  all_goals try clear c0 c1 c2 c3 c4 c5
  all_goals first | (simp [checkB]; done) | (exfalso; cases s0 <;> simp at *; done) | (exfalso; cases hl <;> cases l0 <;> cases k3 <;> cases n0 <;> simp at *; done) | (simp at *; simp [checkB, *]; done) | trace_state
end Go.Proofs.Ytblpnohfileibaa

/- Records: the fields that rec.Decode reads. -/
namespace Go.Proofs.Ytblpnohfileibaa
open Go.RowKit

theorem Cur.frR {w w' : World} {B R : Nat} {s : CurS} (h : Cur w B s) (hf : Fr (· = R) w w') (hR : B < R) : Cur w' B s := by
  obtain ⟨A, n, c, hb, hby, hne, hr⟩ := h
  exact ⟨A, n, c, hb.fr hf (by omega), hf.rd hby (fun h0 a ha => by have := hne h0 a ha; omega), hne, hr⟩

def VisR (B R i : Nat) (cs : List Value) (s : CurS) (w : World) (e : Ending) (w' : World) : Prop :=
  e = .returned (.tuple #[]) ∧ Bl w' R (cs.set i (.int .u64 ((numS s 8).1 : Int))) ∧ Cur w' B (numS s 8).2 ∧ Fr (fun k => k = B ∨ k = R) w w'

set_option maxRecDepth 100000 in
theorem visit_any (B R V i : Nat) (cs : List Value) (s : CurS) (w : World) (h : Cur w B s) (hR : Bl w R cs) (hi : i < cs.length) (hV : w.cell? ⟨V, 0, none⟩ = some (.pointer (some ⟨B, 0, none⟩))) (hBR : B < R) :
    Calls Try.prog 106 #[.pointer (some ⟨R, i, none⟩), .pointer (some ⟨V, 0, none⟩)] w (VisR B R i cs s w) := by
  have hN := num8 B s w h
  have HN := Lib.hid hN
  have HR := Lib.hid hR
  obtain ⟨v, hv⟩ : ∃ v, cs[i]? = some v := ⟨_, List.getElem?_eq_getElem hi⟩
  have HVI := Lib.hid hv
  clear hN h hR hv
  go_enter Try.func106, Try.ntmps106
  go_wp2_with (go_at_call 101; (with_reducible refine HN.out.mono ?_); rintro e w1 ⟨rfl, hcur, hfr⟩; have hR1 := HR.out.fr hfr (by omega); have c0 := hR1.cell HVI.out; have f0 := hR1.frozen i; have H1 := Lib.hid (And.intro hR1 (And.intro hcur hfr)); clear hR1 hcur hfr)
  go_end0
  refine ⟨rfl, Bl.set H1.out.1 i _, ?_, (H1.out.2.2.mono (fun k _ h => .inl h)).trans (Fr.setCell (S := fun k => k = B ∨ k = R) (p := ⟨R, i, none⟩) (.inl (.inr rfl)) _)⟩
  exact H1.out.2.1.frR (Fr.setCell (S := (· = R)) (p := ⟨R, i, none⟩) (.inl rfl) _) hBR
/-- the fields that a record's kind has, read -/
def eachS (r : Rec) (s : CurS) : Rec × CurS :=
  let x := if hasL r.kind then numS s 8 else (r.lease, s)
  let y := if hasN r.kind then numS x.2 8 else (r.n, x.2)
  let z := if hasB r.kind then numS y.2 8 else (r.bits, y.2)
  ({ r with lease := x.1, n := y.1, bits := z.1 }, z.2)

def EachR (B R : Nat) (r : Rec) (s : CurS) (w : World) (e : Ending) (w' : World) : Prop :=
  e = .returned (.tuple #[]) ∧ Bl w' R (recCells (eachS r s).1) ∧ Cur w' B (eachS r s).2 ∧ Fr (fun k => k = B ∨ k = R) w w'

abbrev visF (V : Nat) : Value := .func (.func 106) #[] #[.pointer (some ⟨V, 0, none⟩)]

set_option maxHeartbeats 1000000 in
set_option maxRecDepth 100000 in
theorem each_any (B R V : Nat) (r : Rec) (s : CurS) (w : World) (h : Cur w B s) (hR : Bl w R (recCells r)) (hV : w.cell? ⟨V, 0, none⟩ = some (.pointer (some ⟨B, 0, none⟩))) (hBR : B < R) (hVB : V ≠ B) (hVR : V ≠ R) :
    Calls Try.prog 105 #[.pointer (some ⟨R, 0, none⟩), visF V] w (EachR B R r s w) := by
  have hH := fun w => Has_any r.kind w
  have c1 := hR.cell (i := 1) rfl
  have hv : ∀ (i : Nat) (cs : List Value) (s' : CurS) (w' : World), Cur w' B s' → Bl w' R cs → i < cs.length → Fr (fun k => k = B ∨ k = R) w w' → Calls Try.prog 106 #[.pointer (some ⟨R, i, none⟩), .pointer (some ⟨V, 0, none⟩)] w' (VisR B R i cs s' w') :=
    fun i cs s' w' h1 h2 h3 h4 => visit_any B R V i cs s' w' h1 h2 h3 (h4.cell hV (by simp; omega)) hBR
  have H := Lib.hid (And.intro h (And.intro hR (Fr.refl (fun k => k = B ∨ k = R) w)))
  have HV := Lib.hid hv
  have HC := Lib.hid hV
  have he : ∀ (bl bn bb : Bool), hasL r.kind = bl → hasN r.kind = bn → hasB r.kind = bb → eachS r s =
    ({ r with lease := (if bl then numS s 8 else (r.lease, s)).1, n := (if bn then numS (if bl then numS s 8 else (r.lease, s)).2 8 else (r.n, (if bl then numS s 8 else (r.lease, s)).2)).1, bits := (if bb then numS (if bn then numS (if bl then numS s 8 else (r.lease, s)).2 8 else (r.n, (if bl then numS s 8 else (r.lease, s)).2)).2 8 else (r.bits, (if bn then numS (if bl then numS s 8 else (r.lease, s)).2 8 else (r.n, (if bl then numS s 8 else (r.lease, s)).2)).2)).1 },
      (if bb then numS (if bn then numS (if bl then numS s 8 else (r.lease, s)).2 8 else (r.n, (if bl then numS s 8 else (r.lease, s)).2)).2 8 else (r.bits, (if bn then numS (if bl then numS s 8 else (r.lease, s)).2 8 else (r.n, (if bl then numS s 8 else (r.lease, s)).2)).2)).2) := by
    intro bl bn bb h1 h2 h3
    unfold eachS
    simp only [h1, h2, h3]
  have HE := Lib.hid he
  generalize hl : hasL r.kind = bl at *
  generalize hn : hasN r.kind = bn at *
  generalize hb : hasB r.kind = bb at *
  have HH := Lib.hid hH
  have HX := Lib.hid (HE.out bl bn bb rfl rfl rfl)
  clear h hR hv hV hH hl hn hb he HE
  cases bl <;> cases bn <;> cases bb
  all_goals go_enter Try.func105, Try.ntmps105
  all_goals go_wp2_with (first
    | (go_at_call 129; (with_reducible refine (HH.out _).mono ?_); rintro e w' ⟨rfl, rfl⟩)
    | (go_at_call 106; (with_reducible refine (HV.out 3 _ _ _ H.out.1 H.out.2.1 (by simp) H.out.2.2).mono ?_); rintro e w1 ⟨rfl, hR1, hcur1, hfr1⟩; have H := Lib.hid (And.intro hcur1 (And.intro hR1 (H.out.2.2.trans hfr1))); clear hR1 hcur1 hfr1)
    | (go_at_call 106; (with_reducible refine (HV.out 4 _ _ _ H.out.1 H.out.2.1 (by simp) H.out.2.2).mono ?_); rintro e w2 ⟨rfl, hR1, hcur1, hfr1⟩; have H := Lib.hid (And.intro hcur1 (And.intro hR1 (H.out.2.2.trans hfr1))); clear hR1 hcur1 hfr1)
    | (go_at_call 106; (with_reducible refine (HV.out 5 _ _ _ H.out.1 H.out.2.1 (by simp) H.out.2.2).mono ?_); rintro e w3 ⟨rfl, hR1, hcur1, hfr1⟩; have H := Lib.hid (And.intro hcur1 (And.intro hR1 (H.out.2.2.trans hfr1))); clear hR1 hcur1 hfr1))
  all_goals go_end0
  all_goals refine ⟨rfl, ?_, ?_, H.out.2.2⟩
  all_goals rw [HX.out]
  all_goals first | exact H.out.1 | exact H.out.2.1
end Go.Proofs.Ytblpnohfileibaa

/- A struct that is handed back out of a variable. -/
namespace Go.Proofs.Ytblpnohfileibaa
open Go.RowKit

theorem run_loadVar_agg {P : Program} {w : World} (t : TypeId) (d : TypeDesc) (hu : P.underlying t = some d) (hd : (match d with | .struct _ | .array _ _ => true | _ => false) = true) {b : Nat} (cs : List Value)
    (hi : (P.info? t).map (·.size) = some cs.length) (hc : Bl w b cs) :
    (loadVar t ⟨b, 0, none⟩).run P w = .ok (.agg cs.toArray) w := by
  have hl : (loadCells ⟨b, 0, none⟩ cs.length).run P w = .ok cs.toArray w := rd_loadCells rfl (by intro j u hu; rw [addr_add, Nat.zero_add]; exact hc.cell hu)
  cases hq : P.info? t with
  | none => simp [hq] at hi
  | some i =>
    have hs : i.size = cs.length := by simpa [hq] using hi
    have hagg : (isAgg t).run P w = .ok true w := by
      unfold isAgg
      rw [Sem.run_bind, run_underlying hu w]
      cases d <;> simp_all
    simp [loadVar, Sem.run_bind, hagg, sizeOf, typeInfo, hq, hs, hl]

theorem results_cell_bl {P : Program} {fn : Func} {p u : Tmp} {ty : TypeId} (h : fn.results = #[.cell p ty, .tmp u]) (tmps : Array Value) (Z : Nat) (cs : List Value) (v : Value) (w : World)
    (hp : tmps.getD p undef = .pointer (some ⟨Z, 0, none⟩)) (hv : tmps.getD u undef = v) (d : TypeDesc) (hu : P.underlying ty = some d) (hd : (match d with | .struct _ | .array _ _ => true | _ => false) = true)
    (hi : (P.info? ty).map (·.size) = some cs.length) (hc : Bl w Z cs) :
    (results fn tmps).run P w = .ok (.tuple #[.agg cs.toArray, v]) w := by
  rw [results_cell_tmp h, hp, hv]
  have := run_loadVar_agg (P := P) ty d hu hd cs hi hc
  simp [asAddr, this]
theorem results_cell1_bl {P : Program} {fn : Func} {p : Tmp} {ty : TypeId} (h : fn.results = #[.cell p ty]) (tmps : Array Value) (Z : Nat) (cs : List Value) (w : World)
    (hp : tmps.getD p undef = .pointer (some ⟨Z, 0, none⟩)) (d : TypeDesc) (hu : P.underlying ty = some d) (hd : (match d with | .struct _ | .array _ _ => true | _ => false) = true)
    (hi : (P.info? ty).map (·.size) = some cs.length) (hc : Bl w Z cs) :
    (results fn tmps).run P w = .ok (.agg cs.toArray) w := by
  have := run_loadVar_agg (P := P) ty d hu hd cs hi hc
  have hp' : tmps[p]?.getD undef = .pointer (some ⟨Z, 0, none⟩) := by simpa using hp
  simp [results, h, hp', asAddr, this, Sem.run_bind]
end Go.Proofs.Ytblpnohfileibaa

/- Records: rec.Decode. -/
namespace Go.Proofs.Ytblpnohfileibaa
open Go.RowKit

def zeroRec : Rec := ⟨0, 0, ⟨#[]⟩, 0, 0, 0⟩
/-- what rec.Decode answers -/
def decS (l : List UInt8) : Rec × Int :=
  if (numS ⟨l, 0, 0⟩ 1).2.err = 0 ∧ knownR (numS ⟨l, 0, 0⟩ 1).1 = false then (zeroRec, 5) else
  let x := eachS ⟨(numS (numS ⟨l, 0, 0⟩ 1).2 8).1, (numS ⟨l, 0, 0⟩ 1).1, ⟨(textS (numS (numS ⟨l, 0, 0⟩ 1).2 8).2 16).1.toArray⟩, 0, 0, 0⟩ (textS (numS (numS ⟨l, 0, 0⟩ 1).2 8).2 16).2
  if doneS x.2 ≠ 0 then (zeroRec, doneS x.2) else if checkR x.1 ≠ 0 then (zeroRec, checkR x.1) else (x.1, 0)

theorem le_lt : ∀ l : List UInt8, le l < 256 ^ l.length
  | [] => by simp [le]
  | b :: r => by
    have := le_lt r
    have hb := b.toNat_lt
    simp only [le, List.length_cons, Nat.pow_succ]
    omega
theorem num8_lt (s : CurS) : (numS s 8).1 < 18446744073709551616 := by
  unfold numS
  split
  · rename_i h
    have := le_lt (takeS s 8).1
    rw [h] at this
    simpa using this
  · omega

theorem zero_rec (w : World) : (zeroValue 37).run Try.prog w = .ok (.agg #[.int .u64 0, .int .i64 0, .string ⟨#[]⟩, .int .u64 0, .int .u64 0, .int .u64 0]) w := by kernel_rfl

/-- the state of rec.Decode behind its first lines -/
structure DS (w wi : World) (B V : Nat) (s : CurS) : Prop where
  cur : Cur wi B s
  v : Bl wi V [.pointer (some ⟨B, 0, none⟩)]
  z : Bl wi w.heap.size [.int .u64 0, .int .i64 0, .string ⟨#[]⟩, .int .u64 0, .int .u64 0, .int .u64 0]
  b : Below w.heap.size w wi
  zb : w.heap.size < B
  bv : B < V
theorem DS.below {w wi wj : World} {B V : Nat} {s : CurS} (h : DS w wi B V s) (hb : Below wi.heap.size wi wj) : DS w wj B V s :=
  ⟨h.cur.below hb, h.v.below hb, h.z.below hb, bel_trans h.b hb, h.zb, h.bv⟩
theorem DS.fr {w wi wj : World} {B V : Nat} {s s' : CurS} (h : DS w wi B V s) (hf : Fr (· = B) wi wj) (hc : Cur wj B s') : DS w wj B V s' :=
  ⟨hc, h.v.fr hf (by have := h.bv; omega), h.z.fr hf (by have := h.zb; omega), h.b.trans (hf.below_of h.b.size (fun k hk e => by have := h.zb; omega)), h.zb, h.bv⟩
theorem DS.frR {w wi wj : World} {B V R : Nat} {s s' : CurS} (h : DS w wi B V s) (hf : Fr (fun k => k = B ∨ k = R) wi wj) (hR : V < R) (hc : Cur wj B s') : DS w wj B V s' :=
  ⟨hc, h.v.fr hf (by have := h.bv; omega), h.z.fr hf (by have := h.zb; have := h.bv; omega), h.b.trans (hf.below_of h.b.size (fun k hk e => by have := h.zb; have := h.bv; omega)), h.zb, h.bv⟩

def DecR (l : List UInt8) (w : World) (e : Ending) (w' : World) : Prop :=
  e = .returned (.tuple #[recV (decS l).1, .int .i64 (decS l).2]) ∧ Below w.heap.size w w'

theorem DS.start {w w1 : World} {l : List UInt8} {B : Nat} {t1 t2 : TypeId} (hB : (w.alloc (.cells #[.int .u64 0, .int .i64 0, .string ⟨#[]⟩, .int .u64 0, .int .u64 0, .int .u64 0] t1)).heap.size ≤ B) (hc : Cur w1 B ⟨l, 0, 0⟩)
    (hb : Below (w.alloc (.cells #[.int .u64 0, .int .i64 0, .string ⟨#[]⟩, .int .u64 0, .int .u64 0, .int .u64 0] t1)).heap.size (w.alloc (.cells #[.int .u64 0, .int .i64 0, .string ⟨#[]⟩, .int .u64 0, .int .u64 0, .int .u64 0] t1)) w1) :
    DS w (w1.alloc (.cells #[.pointer (some ⟨B, 0, none⟩)] t2)) B w1.heap.size ⟨l, 0, 0⟩ := by
  have h0 : Below w1.heap.size w1 (w1.alloc (.cells #[.pointer (some ⟨B, 0, none⟩)] t2)) := (Below.refl _ _).alloc (Nat.le_refl _) _
  have hlt : B < w1.heap.size := by obtain ⟨_, _, _, hbl, _⟩ := hc; exact hbl.lt
  refine ⟨hc.below h0, Bl.new _ _ _, ((Bl.new w _ t1).below hb).below h0, bel_trans (bel_trans ((Below.refl _ _).alloc (Nat.le_refl _) _) hb) h0, ?_, hlt⟩
  simp at hB
  omega

/-- Number, its answer named -/
theorem num1_at {s s1 : CurS} {k : Nat} (hq : numS s 1 = (k, s1)) (B : Nat) (w : World) (h : Cur w B s) :
    Calls Try.prog 101 #[.pointer (some ⟨B, 0, none⟩), .int .i64 1] w fun e w' => e = .returned (.int .u64 (k : Int)) ∧ Cur w' B s1 ∧ Fr (· = B) w w' :=
  (num1 B s w h).mono fun e w' h => by unfold NumR at h; rw [hq] at h; exact h
theorem num8_at {s s1 : CurS} {k : Nat} (hq : numS s 8 = (k, s1)) (B : Nat) (w : World) (h : Cur w B s) :
    Calls Try.prog 101 #[.pointer (some ⟨B, 0, none⟩), .int .i64 8] w fun e w' => e = .returned (.int .u64 (k : Int)) ∧ Cur w' B s1 ∧ Fr (· = B) w w' :=
  (num8 B s w h).mono fun e w' h => by unfold NumR at h; rw [hq] at h; exact h
theorem text_at {s s1 : CurS} {t : List UInt8} (hq : textS s 16 = (t, s1)) (B : Nat) (w : World) (h : Cur w B s) :
    Calls Try.prog 104 #[.pointer (some ⟨B, 0, none⟩), .int .i64 1, .int .i64 16] w fun e w' => e = .returned (.string ⟨t.toArray⟩) ∧ Cur w' B s1 ∧ Fr (· = B) w w' :=
  (Text_any B s 16 w h (by omega)).mono fun e w' h => by unfold TextR at h; rw [hq] at h; exact h

theorem size_rec : (Try.prog.info? 37).map (·.size) = some 6 := by kernel_rfl
theorem recCells_one (r : Rec) : ∀ u ∈ recCells r, u.oneCell' = true := by intro u hu; simp at hu; rcases hu with rfl | rfl | rfl | rfl | rfl | rfl <;> rfl
theorem DS.vat {w wi : World} {B V : Nat} {s : CurS} (h : DS w wi B V s) (o : Obj) : (wi.alloc o).cell? ⟨V, 0, none⟩ = some (.pointer (some ⟨B, 0, none⟩)) := (h.below ((Below.refl _ _).alloc (Nat.le_refl _) o)).v.cell (i := 0) rfl
theorem DS.al {w wi : World} {B V : Nat} {s : CurS} (h : DS w wi B V s) (o : Obj) : DS w (wi.alloc o) B V s := h.below ((Below.refl _ _).alloc (Nat.le_refl _) o)
theorem DS.st {w wi : World} {B V R i : Nat} {s : CurS} (h : DS w wi B V s) (hR : V < R) (v : Value) : DS w (wi.setCell ⟨R, i, none⟩ v) B V s := by
  have hf : Fr (· = R) wi (wi.setCell ⟨R, i, none⟩ v) := Fr.setCell (S := (· = R)) (p := ⟨R, i, none⟩) (.inl rfl) _
  exact h.frR (hf.mono fun k _ e => .inr e) hR (h.cur.frR hf (by have := h.bv; omega))
theorem DS.setz {w wi wj : World} {B V : Nat} {s : CurS} (h : DS w wi B V s) (hf : Fr (· = w.heap.size) wi wj) : Below w.heap.size w wj :=
  h.b.trans (hf.below_of h.b.size (fun k hk e => by omega))

set_option maxHeartbeats 4000000 in
set_option maxRecDepth 100000 in
theorem Decode_kind (A : Option Addr) (n c : Nat) (l : List UInt8) (w : World) (h : By w A n l) (hn : n ≤ 100000000000) (he : (numS ⟨l, 0, 0⟩ 1).2.err = 0 ∧ knownR (numS ⟨l, 0, 0⟩ 1).1 = false) :
    Calls Try.prog 85 #[.slice A n c] w (DecR l w) := by
  have hz := zero_rec
  have hN := fun w' (hb : Below w.heap.size w w') => NewCursor_any A n c l w' (Rd.below h hb) hn
  have HN := Lib.hid hN
  clear hN h
  have hd : decS l = (zeroRec, 5) := by unfold decS; rw [if_pos he]
  have HD := Lib.hid hd
  have hk := num1_lt ⟨l, 0, 0⟩
  obtain ⟨he1, he2⟩ := he
  generalize hq : numS ⟨l, 0, 0⟩ 1 = q at *
  obtain ⟨k, s1⟩ := q
  simp only at he1 he2 hk
  have h1 := fun B w => num1_at hq B w
  have hK := fun w => known_rec (k : Int) w
  rw [he2] at hK
  have HK := Lib.hid hK
  have HE := Lib.hid he1
  have HN1 := Lib.hid h1
  have hE := fun B w (h : Cur w B s1) => Err_any B s1 w h
  rw [he1] at hE
  have HE2 := Lib.hid hE
  clear hd hK he1 he2 h1 hq hE
  go_enter Try.func85, Try.ntmps85
  go_wp2_with (first
    | (go_at_call 100; (with_reducible refine (HN.out _ ((Below.refl _ _).alloc (Nat.le_refl _) _)).mono ?_); rintro e w1 ⟨B, rfl, hB, hcur, hbel⟩; have H1 := Lib.hid (DS.start (t2 := 146) hB hcur hbel); clear hB hcur hbel)
    | (go_at_call 101; (with_reducible refine (HN1.out B _ H1.out.cur).mono ?_); rintro e w2 ⟨rfl, hcur, hfr⟩; have H2 := Lib.hid (DS.fr H1.out hfr hcur); clear hcur hfr; have cV := H2.out.vat)
    | (go_at_call 102; (with_reducible refine (HE2.out B _ (H2.out.al _).cur).mono ?_); rintro e w3 ⟨rfl, rfl⟩)
    | (go_at_call 103; (with_reducible refine (HK.out _).mono ?_); rintro e w3 ⟨rfl, rfl⟩)
    | (refine wpList_stBl rfl 37 _ _ rfl w.heap.size _ (recCells zeroRec) rfl rfl (H2.out.al _).z size_rec rfl (recCells_one _) ?_; intro w5 hz5 hf5 hs5; have H5 := Lib.hid (And.intro hz5 hf5); clear hz5 hf5 hs5))
  refine bodyPost_ret (results_cell_bl rfl _ w.heap.size (recCells zeroRec) (.int .i64 5) _ rfl rfl _ Try.underlying37 rfl size_rec H5.out.1) rfl ⟨by rw [HD.out], (H2.out.al _).setz H5.out.2⟩
end Go.Proofs.Ytblpnohfileibaa

/- Records: rec.Decode, any bytes. -/
namespace Go.Proofs.Ytblpnohfileibaa
open Go.RowKit

theorem each_bits (r : Rec) (s : CurS) (h : r.bits < 18446744073709551616) : (eachS r s).1.bits < 18446744073709551616 := by
  unfold eachS
  cases hasB r.kind with
  | true => exact num8_lt _
  | false => exact h

theorem each_at {r x : Rec} {s s1 : CurS} (hq : eachS r s = (x, s1)) (B R V : Nat) (w : World) (h : Cur w B s) (hR : Bl w R (recCells r)) (hV : w.cell? ⟨V, 0, none⟩ = some (.pointer (some ⟨B, 0, none⟩))) (hBR : B < R) (hVB : V ≠ B) (hVR : V ≠ R) :
    Calls Try.prog 105 #[.pointer (some ⟨R, 0, none⟩), visF V] w fun e w' => e = .returned (.tuple #[]) ∧ Bl w' R (recCells x) ∧ Cur w' B s1 ∧ Fr (fun k => k = B ∨ k = R) w w' :=
  (each_any B R V r s w h hR hV hBR hVB hVR).mono fun e w' h => by unfold EachR at h; rw [hq] at h; exact h

/-- which errno first -/
def finS (r : Rec) (d c : Int) : Rec × Int := if d ≠ 0 then (zeroRec, d) else if c ≠ 0 then (zeroRec, c) else (r, 0)

theorem Bl.recs {w : World} {R : Nat} {r : Rec} (h : Bl w R (recCells r)) : w.cell? ⟨R, 0, none⟩ = some (.int .u64 r.seq) ∧ w.cell? ⟨R, 1, none⟩ = some (.int .i64 r.kind) ∧ w.cell? ⟨R, 2, none⟩ = some (.string r.tenant) ∧
    w.cell? ⟨R, 3, none⟩ = some (.int .u64 r.lease) ∧ w.cell? ⟨R, 4, none⟩ = some (.int .u64 r.n) ∧ w.cell? ⟨R, 5, none⟩ = some (.int .u64 r.bits) :=
  ⟨h.cell rfl, h.cell rfl, h.cell rfl, h.cell rfl, h.cell rfl, h.cell rfl⟩

set_option maxHeartbeats 8000000 in
set_option maxRecDepth 100000 in
theorem Decode_rest (A : Option Addr) (n c : Nat) (l : List UInt8) (w : World) (h : By w A n l) (hn : n ≤ 100000000000) (he : ¬ ((numS ⟨l, 0, 0⟩ 1).2.err = 0 ∧ knownR (numS ⟨l, 0, 0⟩ 1).1 = false)) :
    Calls Try.prog 85 #[.slice A n c] w (DecR l w) := by
  have hz := zero_rec
  have hN := fun w' (hb : Below w.heap.size w w') => NewCursor_any A n c l w' (Rd.below h hb) hn
  have HN := Lib.hid hN
  clear hN h
  have hd : decS l = finS (eachS ⟨(numS (numS ⟨l, 0, 0⟩ 1).2 8).1, (numS ⟨l, 0, 0⟩ 1).1, ⟨(textS (numS (numS ⟨l, 0, 0⟩ 1).2 8).2 16).1.toArray⟩, 0, 0, 0⟩ (textS (numS (numS ⟨l, 0, 0⟩ 1).2 8).2 16).2).1
      (doneS (eachS ⟨(numS (numS ⟨l, 0, 0⟩ 1).2 8).1, (numS ⟨l, 0, 0⟩ 1).1, ⟨(textS (numS (numS ⟨l, 0, 0⟩ 1).2 8).2 16).1.toArray⟩, 0, 0, 0⟩ (textS (numS (numS ⟨l, 0, 0⟩ 1).2 8).2 16).2).2)
      (checkR (eachS ⟨(numS (numS ⟨l, 0, 0⟩ 1).2 8).1, (numS ⟨l, 0, 0⟩ 1).1, ⟨(textS (numS (numS ⟨l, 0, 0⟩ 1).2 8).2 16).1.toArray⟩, 0, 0, 0⟩ (textS (numS (numS ⟨l, 0, 0⟩ 1).2 8).2 16).2).1) := by
    unfold decS finS; rw [if_neg he]
  have hk := num1_lt ⟨l, 0, 0⟩
  unfold DecR
  rw [hd]
  clear hd
  generalize hq : numS ⟨l, 0, 0⟩ 1 = q at *
  obtain ⟨k, s1⟩ := q
  simp only at he hk ⊢
  have h1 := fun B w => num1_at hq B w
  have hb8 := num8_lt s1
  generalize hq2 : numS s1 8 = q2 at *
  obtain ⟨b, s2⟩ := q2
  simp only at hb8 ⊢
  have h2 := fun B w => num8_at hq2 B w
  generalize hq3 : textS s2 16 = q3 at *
  obtain ⟨t, s3⟩ := q3
  simp only at ⊢
  have h3 := fun B w => text_at hq3 B w
  have hbits := each_bits ⟨b, k, ⟨t.toArray⟩, 0, 0, 0⟩ s3 (by simp)
  generalize hq4 : eachS ⟨b, k, ⟨t.toArray⟩, 0, 0, 0⟩ s3 = q4 at *
  obtain ⟨r, s4⟩ := q4
  simp only at hbits ⊢
  have h4 := fun B R V w => each_at hq4 B R V w
  have h5 := fun B w => Done_any B s4 w
  have h6 := fun w => CheckRec_any r hbits w
  generalize hdv : doneS s4 = dv at *
  generalize hcv : checkR r = cv at *
  have HN1 := Lib.hid h1
  have HN2 := Lib.hid h2
  have HT := Lib.hid h3
  have HEA := Lib.hid h4
  have HDO := Lib.hid h5
  have HCH := Lib.hid h6
  have hE := fun B w (h : Cur w B s1) => Err_any B s1 w h
  have hK := fun w => known_rec (k : Int) w
  have hfin : ∃ x y, finS r dv cv = (x, y) := ⟨_, _, rfl⟩
  obtain ⟨x, y, hfin⟩ := hfin
  rw [hfin]
  unfold finS at hfin
  have HF := Lib.hid hfin
  clear h1 h2 h3 h4 h5 h6 hq hq2 hq3 hq4 hdv hcv hfin
  have main : (s1.err = 0 ∧ knownR (k : Int) = true) ∨ s1.err ≠ 0 := by
    by_cases h0 : s1.err = 0
    · left
      refine ⟨h0, ?_⟩
      cases hh : knownR (k : Int)
      · exact absurd ⟨h0, hh⟩ he
      · rfl
    · exact .inr h0
  clear he
  rcases main with ⟨h0, hkn⟩ | h0
  · rw [h0] at hE
    rw [hkn] at hK
    have HE := Lib.hid hE
    have HK := Lib.hid hK
    clear hE hK h0 hkn
    by_cases hd0 : dv = 0
    · subst hd0
      by_cases hc0 : cv = 0
      · subst hc0
        go_enter Try.func85, Try.ntmps85
        go_wp2_with (first
          | (go_at_call 100; (with_reducible refine (HN.out _ ((Below.refl _ _).alloc (Nat.le_refl _) _)).mono ?_); rintro e w1 ⟨B, rfl, hB, hcur, hbel⟩; have H1 := Lib.hid (DS.start (t2 := 146) hB hcur hbel); clear hB hcur hbel)
          | (go_at_call 101; (with_reducible refine (HN1.out B _ H1.out.cur).mono ?_); rintro e w2 ⟨rfl, hcur, hfr⟩; have H2 := Lib.hid (DS.fr H1.out hfr hcur); clear hcur hfr; have cV := H2.out.vat; have hlt := H2.out.v.lt; have hBV := H2.out.bv)
          | (go_at_call 102; (with_reducible refine (HE.out B _ (H2.out.al _).cur).mono ?_); rintro e w' ⟨rfl, rfl⟩)
          | (go_at_call 103; (with_reducible refine (HK.out _).mono ?_); rintro e w' ⟨rfl, rfl⟩)
          | (go_at_call 101; (with_reducible refine (HN2.out B _ (H2.out.al _).cur).mono ?_); rintro e w3 ⟨rfl, hcur, hfr⟩; have H3 := Lib.hid (DS.fr (H2.out.al _) hfr hcur); have HR3 := Lib.hid ((Bl.new w2 #[.int .u64 0, .int .i64 k, .string ⟨#[]⟩, .int .u64 0, .int .u64 0, .int .u64 0] 37).fr hfr (by omega)); clear hcur hfr; have c0 := HR3.out.cell (i := 0) rfl; have f0 := HR3.out.frozen 0; have cV3 := fun v => (H3.out.st (R := w2.heap.size) (i := 0) hlt v).v.cell (i := 0) rfl)
          | (go_at_call 104; (with_reducible refine (HT.out B _ (H3.out.st hlt _).cur).mono ?_); rintro e w4 ⟨rfl, hcur, hfr⟩; have H4 := Lib.hid (DS.fr (H3.out.st hlt _) hfr hcur); have HR4 := Lib.hid ((Bl.set HR3.out 0 _).fr hfr (by omega)); clear hcur hfr; have c2 := HR4.out.cell (i := 2) rfl; have f2 := HR4.out.frozen 2; have cV4 := fun v => (H4.out.st (R := w2.heap.size) (i := 2) hlt v).v.cell (i := 0) rfl; have hrr : Bl (w4.setCell ⟨w2.heap.size, 2, none⟩ (.string ⟨t.toArray⟩)) w2.heap.size (recCells ⟨b, k, ⟨t.toArray⟩, 0, 0, 0⟩) := (Bl.set HR4.out 2 (.string ⟨t.toArray⟩)); have HRR := Lib.hid hrr; clear hrr)
          | (go_at_call 105; (with_reducible refine (HEA.out B w2.heap.size w1.heap.size _ (H4.out.st hlt _).cur HRR.out (cV4 _) (Nat.lt_trans hBV hlt) (Nat.ne_of_gt hBV) (Nat.ne_of_lt hlt)).mono ?_); rintro e w5 ⟨rfl, hR5, hcur, hfr⟩; have H5 := Lib.hid (DS.frR (H4.out.st hlt _) hfr hlt hcur); have HR5 := Lib.hid hR5; clear hR5 hcur hfr; have cV5 := H5.out.v.cell (i := 0) rfl)
          | (go_at_call 107; (with_reducible refine (HDO.out B _ H5.out.cur).mono ?_); rintro e w6 ⟨rfl, hb⟩; have H6 := Lib.hid (H5.out.below hb); have HR6 := Lib.hid (HR5.out.below hb); clear hb; obtain ⟨r0, r1, r2, r3, r4, r5⟩ := HR6.out.recs)
          | (go_at_call 108; (with_reducible refine (HCH.out _).mono ?_); rintro e w7 ⟨rfl, hb⟩; have H7 := Lib.hid (H6.out.below hb); have HR7 := Lib.hid (HR6.out.below hb); clear hb; obtain ⟨t0, t1, t2, t3, t4, t5⟩ := HR7.out.recs)
          | (refine wpList_stBl rfl 37 _ _ rfl w.heap.size _ (recCells zeroRec) rfl rfl H6.out.z size_rec rfl (recCells_one _) ?_; intro w8 hz8 hf8 hs8; have H8 := Lib.hid (And.intro hz8 (H6.out.setz hf8)); clear hz8 hf8 hs8)
          | (refine wpList_stBl rfl 37 _ _ rfl w.heap.size _ (recCells zeroRec) rfl rfl H7.out.z size_rec rfl (recCells_one _) ?_; intro w8 hz8 hf8 hs8; have H8 := Lib.hid (And.intro hz8 (H7.out.setz hf8)); clear hz8 hf8 hs8)
          | (refine wpList_stBl rfl 37 _ _ rfl w.heap.size _ (recCells r) rfl rfl H7.out.z size_rec rfl (recCells_one _) ?_; intro w8 hz8 hf8 hs8; have H8 := Lib.hid (And.intro hz8 (H7.out.setz hf8)); clear hz8 hf8 hs8))
        refine bodyPost_ret (results_cell_bl rfl _ w.heap.size (recCells r) (.int .i64 0) _ rfl rfl _ Try.underlying37 rfl size_rec H8.out.1) rfl ⟨?_, H8.out.2⟩
        have hf := HF.out
        rw [if_neg (by simp), if_neg (by simp)] at hf; cases hf; rfl
      · have hc1 : (cv != 0) = true := by simpa using hc0
        have HC0 := Lib.hid hc0
        clear hc0
        go_enter Try.func85, Try.ntmps85
        go_wp2_with (first
          | (go_at_call 100; (with_reducible refine (HN.out _ ((Below.refl _ _).alloc (Nat.le_refl _) _)).mono ?_); rintro e w1 ⟨B, rfl, hB, hcur, hbel⟩; have H1 := Lib.hid (DS.start (t2 := 146) hB hcur hbel); clear hB hcur hbel)
          | (go_at_call 101; (with_reducible refine (HN1.out B _ H1.out.cur).mono ?_); rintro e w2 ⟨rfl, hcur, hfr⟩; have H2 := Lib.hid (DS.fr H1.out hfr hcur); clear hcur hfr; have cV := H2.out.vat; have hlt := H2.out.v.lt; have hBV := H2.out.bv)
          | (go_at_call 102; (with_reducible refine (HE.out B _ (H2.out.al _).cur).mono ?_); rintro e w' ⟨rfl, rfl⟩)
          | (go_at_call 103; (with_reducible refine (HK.out _).mono ?_); rintro e w' ⟨rfl, rfl⟩)
          | (go_at_call 101; (with_reducible refine (HN2.out B _ (H2.out.al _).cur).mono ?_); rintro e w3 ⟨rfl, hcur, hfr⟩; have H3 := Lib.hid (DS.fr (H2.out.al _) hfr hcur); have HR3 := Lib.hid ((Bl.new w2 #[.int .u64 0, .int .i64 k, .string ⟨#[]⟩, .int .u64 0, .int .u64 0, .int .u64 0] 37).fr hfr (by omega)); clear hcur hfr; have c0 := HR3.out.cell (i := 0) rfl; have f0 := HR3.out.frozen 0; have cV3 := fun v => (H3.out.st (R := w2.heap.size) (i := 0) hlt v).v.cell (i := 0) rfl)
          | (go_at_call 104; (with_reducible refine (HT.out B _ (H3.out.st hlt _).cur).mono ?_); rintro e w4 ⟨rfl, hcur, hfr⟩; have H4 := Lib.hid (DS.fr (H3.out.st hlt _) hfr hcur); have HR4 := Lib.hid ((Bl.set HR3.out 0 _).fr hfr (by omega)); clear hcur hfr; have c2 := HR4.out.cell (i := 2) rfl; have f2 := HR4.out.frozen 2; have cV4 := fun v => (H4.out.st (R := w2.heap.size) (i := 2) hlt v).v.cell (i := 0) rfl; have hrr : Bl (w4.setCell ⟨w2.heap.size, 2, none⟩ (.string ⟨t.toArray⟩)) w2.heap.size (recCells ⟨b, k, ⟨t.toArray⟩, 0, 0, 0⟩) := (Bl.set HR4.out 2 (.string ⟨t.toArray⟩)); have HRR := Lib.hid hrr; clear hrr)
          | (go_at_call 105; (with_reducible refine (HEA.out B w2.heap.size w1.heap.size _ (H4.out.st hlt _).cur HRR.out (cV4 _) (Nat.lt_trans hBV hlt) (Nat.ne_of_gt hBV) (Nat.ne_of_lt hlt)).mono ?_); rintro e w5 ⟨rfl, hR5, hcur, hfr⟩; have H5 := Lib.hid (DS.frR (H4.out.st hlt _) hfr hlt hcur); have HR5 := Lib.hid hR5; clear hR5 hcur hfr; have cV5 := H5.out.v.cell (i := 0) rfl)
          | (go_at_call 107; (with_reducible refine (HDO.out B _ H5.out.cur).mono ?_); rintro e w6 ⟨rfl, hb⟩; have H6 := Lib.hid (H5.out.below hb); have HR6 := Lib.hid (HR5.out.below hb); clear hb; obtain ⟨r0, r1, r2, r3, r4, r5⟩ := HR6.out.recs)
          | (go_at_call 108; (with_reducible refine (HCH.out _).mono ?_); rintro e w7 ⟨rfl, hb⟩; have H7 := Lib.hid (H6.out.below hb); have HR7 := Lib.hid (HR6.out.below hb); clear hb; obtain ⟨t0, t1, t2, t3, t4, t5⟩ := HR7.out.recs)
          | (refine wpList_stBl rfl 37 _ _ rfl w.heap.size _ (recCells zeroRec) rfl rfl H6.out.z size_rec rfl (recCells_one _) ?_; intro w8 hz8 hf8 hs8; have H8 := Lib.hid (And.intro hz8 (H6.out.setz hf8)); clear hz8 hf8 hs8)
          | (refine wpList_stBl rfl 37 _ _ rfl w.heap.size _ (recCells zeroRec) rfl rfl H7.out.z size_rec rfl (recCells_one _) ?_; intro w8 hz8 hf8 hs8; have H8 := Lib.hid (And.intro hz8 (H7.out.setz hf8)); clear hz8 hf8 hs8)
          | (refine wpList_stBl rfl 37 _ _ rfl w.heap.size _ (recCells r) rfl rfl H7.out.z size_rec rfl (recCells_one _) ?_; intro w8 hz8 hf8 hs8; have H8 := Lib.hid (And.intro hz8 (H7.out.setz hf8)); clear hz8 hf8 hs8))
        refine bodyPost_ret (results_cell_bl rfl _ w.heap.size (recCells zeroRec) (.int .i64 cv) _ rfl rfl _ Try.underlying37 rfl size_rec H8.out.1) rfl ⟨?_, H8.out.2⟩
        have hf := HF.out
        rw [if_neg (by simp), if_pos HC0.out] at hf; cases hf; rfl
    · have hd1 : (dv != 0) = true := by simpa using hd0
      have HD0 := Lib.hid hd0
      clear hd0
      go_enter Try.func85, Try.ntmps85
      go_wp2_with (first
        | (go_at_call 100; (with_reducible refine (HN.out _ ((Below.refl _ _).alloc (Nat.le_refl _) _)).mono ?_); rintro e w1 ⟨B, rfl, hB, hcur, hbel⟩; have H1 := Lib.hid (DS.start (t2 := 146) hB hcur hbel); clear hB hcur hbel)
        | (go_at_call 101; (with_reducible refine (HN1.out B _ H1.out.cur).mono ?_); rintro e w2 ⟨rfl, hcur, hfr⟩; have H2 := Lib.hid (DS.fr H1.out hfr hcur); clear hcur hfr; have cV := H2.out.vat; have hlt := H2.out.v.lt; have hBV := H2.out.bv)
        | (go_at_call 102; (with_reducible refine (HE.out B _ (H2.out.al _).cur).mono ?_); rintro e w' ⟨rfl, rfl⟩)
        | (go_at_call 103; (with_reducible refine (HK.out _).mono ?_); rintro e w' ⟨rfl, rfl⟩)
        | (go_at_call 101; (with_reducible refine (HN2.out B _ (H2.out.al _).cur).mono ?_); rintro e w3 ⟨rfl, hcur, hfr⟩; have H3 := Lib.hid (DS.fr (H2.out.al _) hfr hcur); have HR3 := Lib.hid ((Bl.new w2 #[.int .u64 0, .int .i64 k, .string ⟨#[]⟩, .int .u64 0, .int .u64 0, .int .u64 0] 37).fr hfr (by omega)); clear hcur hfr; have c0 := HR3.out.cell (i := 0) rfl; have f0 := HR3.out.frozen 0; have cV3 := fun v => (H3.out.st (R := w2.heap.size) (i := 0) hlt v).v.cell (i := 0) rfl)
        | (go_at_call 104; (with_reducible refine (HT.out B _ (H3.out.st hlt _).cur).mono ?_); rintro e w4 ⟨rfl, hcur, hfr⟩; have H4 := Lib.hid (DS.fr (H3.out.st hlt _) hfr hcur); have HR4 := Lib.hid ((Bl.set HR3.out 0 _).fr hfr (by omega)); clear hcur hfr; have c2 := HR4.out.cell (i := 2) rfl; have f2 := HR4.out.frozen 2; have cV4 := fun v => (H4.out.st (R := w2.heap.size) (i := 2) hlt v).v.cell (i := 0) rfl; have hrr : Bl (w4.setCell ⟨w2.heap.size, 2, none⟩ (.string ⟨t.toArray⟩)) w2.heap.size (recCells ⟨b, k, ⟨t.toArray⟩, 0, 0, 0⟩) := (Bl.set HR4.out 2 (.string ⟨t.toArray⟩)); have HRR := Lib.hid hrr; clear hrr)
        | (go_at_call 105; (with_reducible refine (HEA.out B w2.heap.size w1.heap.size _ (H4.out.st hlt _).cur HRR.out (cV4 _) (Nat.lt_trans hBV hlt) (Nat.ne_of_gt hBV) (Nat.ne_of_lt hlt)).mono ?_); rintro e w5 ⟨rfl, hR5, hcur, hfr⟩; have H5 := Lib.hid (DS.frR (H4.out.st hlt _) hfr hlt hcur); have HR5 := Lib.hid hR5; clear hR5 hcur hfr; have cV5 := H5.out.v.cell (i := 0) rfl)
        | (go_at_call 107; (with_reducible refine (HDO.out B _ H5.out.cur).mono ?_); rintro e w6 ⟨rfl, hb⟩; have H6 := Lib.hid (H5.out.below hb); have HR6 := Lib.hid (HR5.out.below hb); clear hb; obtain ⟨r0, r1, r2, r3, r4, r5⟩ := HR6.out.recs)
        | (go_at_call 108; (with_reducible refine (HCH.out _).mono ?_); rintro e w7 ⟨rfl, hb⟩; have H7 := Lib.hid (H6.out.below hb); have HR7 := Lib.hid (HR6.out.below hb); clear hb; obtain ⟨t0, t1, t2, t3, t4, t5⟩ := HR7.out.recs)
        | (refine wpList_stBl rfl 37 _ _ rfl w.heap.size _ (recCells zeroRec) rfl rfl H6.out.z size_rec rfl (recCells_one _) ?_; intro w8 hz8 hf8 hs8; have H8 := Lib.hid (And.intro hz8 (H6.out.setz hf8)); clear hz8 hf8 hs8)
        | (refine wpList_stBl rfl 37 _ _ rfl w.heap.size _ (recCells zeroRec) rfl rfl H7.out.z size_rec rfl (recCells_one _) ?_; intro w8 hz8 hf8 hs8; have H8 := Lib.hid (And.intro hz8 (H7.out.setz hf8)); clear hz8 hf8 hs8)
        | (refine wpList_stBl rfl 37 _ _ rfl w.heap.size _ (recCells r) rfl rfl H7.out.z size_rec rfl (recCells_one _) ?_; intro w8 hz8 hf8 hs8; have H8 := Lib.hid (And.intro hz8 (H7.out.setz hf8)); clear hz8 hf8 hs8))
      refine bodyPost_ret (results_cell_bl rfl _ w.heap.size (recCells zeroRec) (.int .i64 dv) _ rfl rfl _ Try.underlying37 rfl size_rec H8.out.1) rfl ⟨?_, H8.out.2⟩
      have hf := HF.out
      rw [if_pos HD0.out] at hf; cases hf; rfl
  · have h0' : (s1.err == 0) = false := by rw [beq_eq_false_iff_ne]; exact h0
    have HE := Lib.hid hE
    have HK := Lib.hid hK
    clear hE hK h0
    by_cases hd0 : dv = 0
    · subst hd0
      by_cases hc0 : cv = 0
      · subst hc0
        go_enter Try.func85, Try.ntmps85
        go_wp2_with (first
          | (go_at_call 100; (with_reducible refine (HN.out _ ((Below.refl _ _).alloc (Nat.le_refl _) _)).mono ?_); rintro e w1 ⟨B, rfl, hB, hcur, hbel⟩; have H1 := Lib.hid (DS.start (t2 := 146) hB hcur hbel); clear hB hcur hbel)
          | (go_at_call 101; (with_reducible refine (HN1.out B _ H1.out.cur).mono ?_); rintro e w2 ⟨rfl, hcur, hfr⟩; have H2 := Lib.hid (DS.fr H1.out hfr hcur); clear hcur hfr; have cV := H2.out.vat; have hlt := H2.out.v.lt; have hBV := H2.out.bv)
          | (go_at_call 102; (with_reducible refine (HE.out B _ (H2.out.al _).cur).mono ?_); rintro e w' ⟨rfl, rfl⟩)
          | (go_at_call 103; (with_reducible refine (HK.out _).mono ?_); rintro e w' ⟨rfl, rfl⟩)
          | (go_at_call 101; (with_reducible refine (HN2.out B _ (H2.out.al _).cur).mono ?_); rintro e w3 ⟨rfl, hcur, hfr⟩; have H3 := Lib.hid (DS.fr (H2.out.al _) hfr hcur); have HR3 := Lib.hid ((Bl.new w2 #[.int .u64 0, .int .i64 k, .string ⟨#[]⟩, .int .u64 0, .int .u64 0, .int .u64 0] 37).fr hfr (by omega)); clear hcur hfr; have c0 := HR3.out.cell (i := 0) rfl; have f0 := HR3.out.frozen 0; have cV3 := fun v => (H3.out.st (R := w2.heap.size) (i := 0) hlt v).v.cell (i := 0) rfl)
          | (go_at_call 104; (with_reducible refine (HT.out B _ (H3.out.st hlt _).cur).mono ?_); rintro e w4 ⟨rfl, hcur, hfr⟩; have H4 := Lib.hid (DS.fr (H3.out.st hlt _) hfr hcur); have HR4 := Lib.hid ((Bl.set HR3.out 0 _).fr hfr (by omega)); clear hcur hfr; have c2 := HR4.out.cell (i := 2) rfl; have f2 := HR4.out.frozen 2; have cV4 := fun v => (H4.out.st (R := w2.heap.size) (i := 2) hlt v).v.cell (i := 0) rfl; have hrr : Bl (w4.setCell ⟨w2.heap.size, 2, none⟩ (.string ⟨t.toArray⟩)) w2.heap.size (recCells ⟨b, k, ⟨t.toArray⟩, 0, 0, 0⟩) := (Bl.set HR4.out 2 (.string ⟨t.toArray⟩)); have HRR := Lib.hid hrr; clear hrr)
          | (go_at_call 105; (with_reducible refine (HEA.out B w2.heap.size w1.heap.size _ (H4.out.st hlt _).cur HRR.out (cV4 _) (Nat.lt_trans hBV hlt) (Nat.ne_of_gt hBV) (Nat.ne_of_lt hlt)).mono ?_); rintro e w5 ⟨rfl, hR5, hcur, hfr⟩; have H5 := Lib.hid (DS.frR (H4.out.st hlt _) hfr hlt hcur); have HR5 := Lib.hid hR5; clear hR5 hcur hfr; have cV5 := H5.out.v.cell (i := 0) rfl)
          | (go_at_call 107; (with_reducible refine (HDO.out B _ H5.out.cur).mono ?_); rintro e w6 ⟨rfl, hb⟩; have H6 := Lib.hid (H5.out.below hb); have HR6 := Lib.hid (HR5.out.below hb); clear hb; obtain ⟨r0, r1, r2, r3, r4, r5⟩ := HR6.out.recs)
          | (go_at_call 108; (with_reducible refine (HCH.out _).mono ?_); rintro e w7 ⟨rfl, hb⟩; have H7 := Lib.hid (H6.out.below hb); have HR7 := Lib.hid (HR6.out.below hb); clear hb; obtain ⟨t0, t1, t2, t3, t4, t5⟩ := HR7.out.recs)
          | (refine wpList_stBl rfl 37 _ _ rfl w.heap.size _ (recCells zeroRec) rfl rfl H6.out.z size_rec rfl (recCells_one _) ?_; intro w8 hz8 hf8 hs8; have H8 := Lib.hid (And.intro hz8 (H6.out.setz hf8)); clear hz8 hf8 hs8)
          | (refine wpList_stBl rfl 37 _ _ rfl w.heap.size _ (recCells zeroRec) rfl rfl H7.out.z size_rec rfl (recCells_one _) ?_; intro w8 hz8 hf8 hs8; have H8 := Lib.hid (And.intro hz8 (H7.out.setz hf8)); clear hz8 hf8 hs8)
          | (refine wpList_stBl rfl 37 _ _ rfl w.heap.size _ (recCells r) rfl rfl H7.out.z size_rec rfl (recCells_one _) ?_; intro w8 hz8 hf8 hs8; have H8 := Lib.hid (And.intro hz8 (H7.out.setz hf8)); clear hz8 hf8 hs8))
        refine bodyPost_ret (results_cell_bl rfl _ w.heap.size (recCells r) (.int .i64 0) _ rfl rfl _ Try.underlying37 rfl size_rec H8.out.1) rfl ⟨?_, H8.out.2⟩
        have hf := HF.out
        rw [if_neg (by simp), if_neg (by simp)] at hf; cases hf; rfl
      · have hc1 : (cv != 0) = true := by simpa using hc0
        have HC0 := Lib.hid hc0
        clear hc0
        go_enter Try.func85, Try.ntmps85
        go_wp2_with (first
          | (go_at_call 100; (with_reducible refine (HN.out _ ((Below.refl _ _).alloc (Nat.le_refl _) _)).mono ?_); rintro e w1 ⟨B, rfl, hB, hcur, hbel⟩; have H1 := Lib.hid (DS.start (t2 := 146) hB hcur hbel); clear hB hcur hbel)
          | (go_at_call 101; (with_reducible refine (HN1.out B _ H1.out.cur).mono ?_); rintro e w2 ⟨rfl, hcur, hfr⟩; have H2 := Lib.hid (DS.fr H1.out hfr hcur); clear hcur hfr; have cV := H2.out.vat; have hlt := H2.out.v.lt; have hBV := H2.out.bv)
          | (go_at_call 102; (with_reducible refine (HE.out B _ (H2.out.al _).cur).mono ?_); rintro e w' ⟨rfl, rfl⟩)
          | (go_at_call 103; (with_reducible refine (HK.out _).mono ?_); rintro e w' ⟨rfl, rfl⟩)
          | (go_at_call 101; (with_reducible refine (HN2.out B _ (H2.out.al _).cur).mono ?_); rintro e w3 ⟨rfl, hcur, hfr⟩; have H3 := Lib.hid (DS.fr (H2.out.al _) hfr hcur); have HR3 := Lib.hid ((Bl.new w2 #[.int .u64 0, .int .i64 k, .string ⟨#[]⟩, .int .u64 0, .int .u64 0, .int .u64 0] 37).fr hfr (by omega)); clear hcur hfr; have c0 := HR3.out.cell (i := 0) rfl; have f0 := HR3.out.frozen 0; have cV3 := fun v => (H3.out.st (R := w2.heap.size) (i := 0) hlt v).v.cell (i := 0) rfl)
          | (go_at_call 104; (with_reducible refine (HT.out B _ (H3.out.st hlt _).cur).mono ?_); rintro e w4 ⟨rfl, hcur, hfr⟩; have H4 := Lib.hid (DS.fr (H3.out.st hlt _) hfr hcur); have HR4 := Lib.hid ((Bl.set HR3.out 0 _).fr hfr (by omega)); clear hcur hfr; have c2 := HR4.out.cell (i := 2) rfl; have f2 := HR4.out.frozen 2; have cV4 := fun v => (H4.out.st (R := w2.heap.size) (i := 2) hlt v).v.cell (i := 0) rfl; have hrr : Bl (w4.setCell ⟨w2.heap.size, 2, none⟩ (.string ⟨t.toArray⟩)) w2.heap.size (recCells ⟨b, k, ⟨t.toArray⟩, 0, 0, 0⟩) := (Bl.set HR4.out 2 (.string ⟨t.toArray⟩)); have HRR := Lib.hid hrr; clear hrr)
          | (go_at_call 105; (with_reducible refine (HEA.out B w2.heap.size w1.heap.size _ (H4.out.st hlt _).cur HRR.out (cV4 _) (Nat.lt_trans hBV hlt) (Nat.ne_of_gt hBV) (Nat.ne_of_lt hlt)).mono ?_); rintro e w5 ⟨rfl, hR5, hcur, hfr⟩; have H5 := Lib.hid (DS.frR (H4.out.st hlt _) hfr hlt hcur); have HR5 := Lib.hid hR5; clear hR5 hcur hfr; have cV5 := H5.out.v.cell (i := 0) rfl)
          | (go_at_call 107; (with_reducible refine (HDO.out B _ H5.out.cur).mono ?_); rintro e w6 ⟨rfl, hb⟩; have H6 := Lib.hid (H5.out.below hb); have HR6 := Lib.hid (HR5.out.below hb); clear hb; obtain ⟨r0, r1, r2, r3, r4, r5⟩ := HR6.out.recs)
          | (go_at_call 108; (with_reducible refine (HCH.out _).mono ?_); rintro e w7 ⟨rfl, hb⟩; have H7 := Lib.hid (H6.out.below hb); have HR7 := Lib.hid (HR6.out.below hb); clear hb; obtain ⟨t0, t1, t2, t3, t4, t5⟩ := HR7.out.recs)
          | (refine wpList_stBl rfl 37 _ _ rfl w.heap.size _ (recCells zeroRec) rfl rfl H6.out.z size_rec rfl (recCells_one _) ?_; intro w8 hz8 hf8 hs8; have H8 := Lib.hid (And.intro hz8 (H6.out.setz hf8)); clear hz8 hf8 hs8)
          | (refine wpList_stBl rfl 37 _ _ rfl w.heap.size _ (recCells zeroRec) rfl rfl H7.out.z size_rec rfl (recCells_one _) ?_; intro w8 hz8 hf8 hs8; have H8 := Lib.hid (And.intro hz8 (H7.out.setz hf8)); clear hz8 hf8 hs8)
          | (refine wpList_stBl rfl 37 _ _ rfl w.heap.size _ (recCells r) rfl rfl H7.out.z size_rec rfl (recCells_one _) ?_; intro w8 hz8 hf8 hs8; have H8 := Lib.hid (And.intro hz8 (H7.out.setz hf8)); clear hz8 hf8 hs8))
        refine bodyPost_ret (results_cell_bl rfl _ w.heap.size (recCells zeroRec) (.int .i64 cv) _ rfl rfl _ Try.underlying37 rfl size_rec H8.out.1) rfl ⟨?_, H8.out.2⟩
        have hf := HF.out
        rw [if_neg (by simp), if_pos HC0.out] at hf; cases hf; rfl
    · have hd1 : (dv != 0) = true := by simpa using hd0
      have HD0 := Lib.hid hd0
      clear hd0
      go_enter Try.func85, Try.ntmps85
      go_wp2_with (first
        | (go_at_call 100; (with_reducible refine (HN.out _ ((Below.refl _ _).alloc (Nat.le_refl _) _)).mono ?_); rintro e w1 ⟨B, rfl, hB, hcur, hbel⟩; have H1 := Lib.hid (DS.start (t2 := 146) hB hcur hbel); clear hB hcur hbel)
        | (go_at_call 101; (with_reducible refine (HN1.out B _ H1.out.cur).mono ?_); rintro e w2 ⟨rfl, hcur, hfr⟩; have H2 := Lib.hid (DS.fr H1.out hfr hcur); clear hcur hfr; have cV := H2.out.vat; have hlt := H2.out.v.lt; have hBV := H2.out.bv)
        | (go_at_call 102; (with_reducible refine (HE.out B _ (H2.out.al _).cur).mono ?_); rintro e w' ⟨rfl, rfl⟩)
        | (go_at_call 103; (with_reducible refine (HK.out _).mono ?_); rintro e w' ⟨rfl, rfl⟩)
        | (go_at_call 101; (with_reducible refine (HN2.out B _ (H2.out.al _).cur).mono ?_); rintro e w3 ⟨rfl, hcur, hfr⟩; have H3 := Lib.hid (DS.fr (H2.out.al _) hfr hcur); have HR3 := Lib.hid ((Bl.new w2 #[.int .u64 0, .int .i64 k, .string ⟨#[]⟩, .int .u64 0, .int .u64 0, .int .u64 0] 37).fr hfr (by omega)); clear hcur hfr; have c0 := HR3.out.cell (i := 0) rfl; have f0 := HR3.out.frozen 0; have cV3 := fun v => (H3.out.st (R := w2.heap.size) (i := 0) hlt v).v.cell (i := 0) rfl)
        | (go_at_call 104; (with_reducible refine (HT.out B _ (H3.out.st hlt _).cur).mono ?_); rintro e w4 ⟨rfl, hcur, hfr⟩; have H4 := Lib.hid (DS.fr (H3.out.st hlt _) hfr hcur); have HR4 := Lib.hid ((Bl.set HR3.out 0 _).fr hfr (by omega)); clear hcur hfr; have c2 := HR4.out.cell (i := 2) rfl; have f2 := HR4.out.frozen 2; have cV4 := fun v => (H4.out.st (R := w2.heap.size) (i := 2) hlt v).v.cell (i := 0) rfl; have hrr : Bl (w4.setCell ⟨w2.heap.size, 2, none⟩ (.string ⟨t.toArray⟩)) w2.heap.size (recCells ⟨b, k, ⟨t.toArray⟩, 0, 0, 0⟩) := (Bl.set HR4.out 2 (.string ⟨t.toArray⟩)); have HRR := Lib.hid hrr; clear hrr)
        | (go_at_call 105; (with_reducible refine (HEA.out B w2.heap.size w1.heap.size _ (H4.out.st hlt _).cur HRR.out (cV4 _) (Nat.lt_trans hBV hlt) (Nat.ne_of_gt hBV) (Nat.ne_of_lt hlt)).mono ?_); rintro e w5 ⟨rfl, hR5, hcur, hfr⟩; have H5 := Lib.hid (DS.frR (H4.out.st hlt _) hfr hlt hcur); have HR5 := Lib.hid hR5; clear hR5 hcur hfr; have cV5 := H5.out.v.cell (i := 0) rfl)
        | (go_at_call 107; (with_reducible refine (HDO.out B _ H5.out.cur).mono ?_); rintro e w6 ⟨rfl, hb⟩; have H6 := Lib.hid (H5.out.below hb); have HR6 := Lib.hid (HR5.out.below hb); clear hb; obtain ⟨r0, r1, r2, r3, r4, r5⟩ := HR6.out.recs)
        | (go_at_call 108; (with_reducible refine (HCH.out _).mono ?_); rintro e w7 ⟨rfl, hb⟩; have H7 := Lib.hid (H6.out.below hb); have HR7 := Lib.hid (HR6.out.below hb); clear hb; obtain ⟨t0, t1, t2, t3, t4, t5⟩ := HR7.out.recs)
        | (refine wpList_stBl rfl 37 _ _ rfl w.heap.size _ (recCells zeroRec) rfl rfl H6.out.z size_rec rfl (recCells_one _) ?_; intro w8 hz8 hf8 hs8; have H8 := Lib.hid (And.intro hz8 (H6.out.setz hf8)); clear hz8 hf8 hs8)
        | (refine wpList_stBl rfl 37 _ _ rfl w.heap.size _ (recCells zeroRec) rfl rfl H7.out.z size_rec rfl (recCells_one _) ?_; intro w8 hz8 hf8 hs8; have H8 := Lib.hid (And.intro hz8 (H7.out.setz hf8)); clear hz8 hf8 hs8)
        | (refine wpList_stBl rfl 37 _ _ rfl w.heap.size _ (recCells r) rfl rfl H7.out.z size_rec rfl (recCells_one _) ?_; intro w8 hz8 hf8 hs8; have H8 := Lib.hid (And.intro hz8 (H7.out.setz hf8)); clear hz8 hf8 hs8))
      refine bodyPost_ret (results_cell_bl rfl _ w.heap.size (recCells zeroRec) (.int .i64 dv) _ rfl rfl _ Try.underlying37 rfl size_rec H8.out.1) rfl ⟨?_, H8.out.2⟩
      have hf := HF.out
      rw [if_pos HD0.out] at hf; cases hf; rfl

theorem Decode_any (A : Option Addr) (n c : Nat) (l : List UInt8) (w : World) (h : By w A n l) (hn : n ≤ 100000000000) :
    Calls Try.prog 85 #[.slice A n c] w (DecR l w) := by
  by_cases he : (numS ⟨l, 0, 0⟩ 1).2.err = 0 ∧ knownR (numS ⟨l, 0, 0⟩ 1).1 = false
  · exact Decode_kind A n c l w h hn he
  · exact Decode_rest A n c l w h hn he
end Go.Proofs.Ytblpnohfileibaa

/- Sums of 32 bits: crc.More, crc.Sum; they are the reference's. -/
namespace Go.Proofs.Ytblpnohfileibaa
open Go.RowKit

def crcF (r : Nat) : Nat := if r % 2 = 1 then (r / 2) ^^^ 2197175160 else r / 2
def crcIt : Nat → Nat → Nat
  | 0, r => r
  | j + 1, r => crcF (crcIt j r)
def crcReg (r : Nat) (l : List UInt8) : Nat := l.foldl (fun r x => crcIt 8 (r ^^^ x.toNat)) r
def crcMore (s : Nat) (l : List UInt8) : Nat := 4294967295 ^^^ crcReg (4294967295 ^^^ s) l

theorem xor_lt {a b : Nat} (ha : a < 4294967296) (hb : b < 4294967296) : a ^^^ b < 4294967296 := Nat.xor_lt_two_pow (n := 32) ha hb
theorem crcF_lt {r : Nat} (h : r < 4294967296) : crcF r < 4294967296 := by
  unfold crcF
  split
  · exact xor_lt (by omega) (by omega)
  · omega
theorem crcIt_lt (j : Nat) {r : Nat} (h : r < 4294967296) : crcIt j r < 4294967296 := by
  induction j with
  | zero => exact h
  | succ j ih => exact crcF_lt ih
theorem crcReg_lt {r : Nat} (h : r < 4294967296) (l : List UInt8) : crcReg r l < 4294967296 := by
  induction l generalizing r with
  | nil => exact h
  | cons x l ih => exact ih (crcIt_lt 8 (xor_lt h (by have := x.toNat_lt; omega)))
theorem crcReg_snoc (r : Nat) (l : List UInt8) (x : UInt8) : crcReg r (l ++ [x]) = crcIt 8 (crcReg r l ^^^ x.toNat) := by simp [crcReg]

theorem and1 (r : Nat) (h : r < 4294967296) : bits .and .u32 (r : Int) 1 = ((r % 2 : Nat) : Int) := by
  have := u32_and_nat r 1 h (by omega)
  rw [Nat.and_one_is_mod] at this
  exact this

set_option maxHeartbeats 1000000 in
set_option maxRecDepth 100000 in
theorem More_any (s : Nat) (hs : s < 4294967296) (A : Option Addr) (n c : Nat) (l : List UInt8) (w : World) (hby : By w A n l) (hn : n ≤ 1000000000000) :
    Calls Try.prog 162 #[.int .u32 s, .slice A n c] w fun e w' => e = .returned (.int .u32 (crcMore s l)) ∧ w = w' := by
  have hl : l.length = n := by simpa using hby.1
  have hsg : IntKind.u32.signed = false := rfl
  have hmx : IntKind.u32.max = 4294967295 := by decide
  have h0 : bits .xor .u32 4294967295 (s : Int) = ((4294967295 ^^^ s : Nat) : Int) := u32_xor_nat 4294967295 s (by omega) hs
  have hx : bits .xor .u32 4294967295 (crcReg (4294967295 ^^^ s) l : Int) = ((4294967295 ^^^ crcReg (4294967295 ^^^ s) l : Nat) : Int) := u32_xor_nat 4294967295 (crcReg (4294967295 ^^^ s) l) (by omega) (crcReg_lt (xor_lt (by omega) hs) l)
  have hlt := xor_lt (a := 4294967295) (by omega) hs
  have hm : crcMore s l = 4294967295 ^^^ crcReg (4294967295 ^^^ s) l := rfl
  have HM := Lib.hid hm
  have HL := Lib.hid hl
  have HX := Lib.hid hx
  clear hl hx hm
  go_enter Try.func162, Try.ntmps162
  go_wp2
  go_loop [5, 13] (fun r i => ∃ k : Nat, k ≤ n ∧ i = .int .i64 k ∧ r = .int .u32 (crcReg (4294967295 ^^^ s) (l.take k) : Nat)) (fun _ i => n - (intOf i).toNat)
  case atStart => exact ⟨0, Nat.zero_le _, rfl, rfl⟩
  case round =>
    obtain ⟨k, hk, rfl, rfl⟩ := hrel
    clear h0
    by_cases hlt2 : k < n
    · obtain ⟨b, o, rfl, x, hxk, hc⟩ := hby.at_ hlt2
      have hr := crcReg_lt hlt (l.take k)
      have hsn : crcReg (4294967295 ^^^ s) (l.take (k + 1)) = crcIt 8 (crcReg (4294967295 ^^^ s) (l.take k) ^^^ x.toNat) := by
        rw [List.take_add_one, hxk]; exact crcReg_snoc _ _ _
      have HSN := Lib.hid hsn
      have HXK := Lib.hid hxk
      have HBY := Lib.hid hby
      clear hsn hxk hby
      generalize crcReg (4294967295 ^^^ s) (l.take k) = r at *
      have hx1 : bits .xor .u32 (r : Int) ((x.toNat : Int) % 4294967296) = ((r ^^^ x.toNat : Nat) : Int) := by
        rw [Int.emod_eq_of_lt (by omega) (by have := x.toNat_lt; omega)]
        exact u32_xor_nat r x.toNat hr (by have := x.toNat_lt; omega)
      have hr1 := xor_lt hr (b := x.toNat) (by have := x.toNat_lt; omega)
      generalize r ^^^ x.toNat = r1 at *
      go_wp2
      go_loop [5, 21] (fun r i => ∃ j : Nat, j ≤ 8 ∧ i = .int .i64 j ∧ r = .int .u32 (crcIt j r1 : Nat)) (fun _ i => 8 - (intOf i).toNat)
      case atStart => exact ⟨0, Nat.zero_le _, rfl, rfl⟩
      case round =>
        obtain ⟨j, hj, rfl, rfl⟩ := hrel
        clear hx1
        by_cases hj8 : j < 8
        · have hq := crcIt_lt j hr1
          have hq2 : crcIt (j + 1) r1 = crcF (crcIt j r1) := rfl
          have HQ2 := Lib.hid hq2
          clear hq2
          generalize crcIt j r1 = q at *
          have ha := and1 q hq
          have hx2 : bits .xor .u32 ((q : Int) / 2) 2197175160 = (((q / 2) ^^^ 2197175160 : Nat) : Int) := u32_xor_nat (q / 2) 2197175160 (by omega) (by omega)
          by_cases hodd : q % 2 = 1
          · have hf : crcF q = (q / 2) ^^^ 2197175160 := by unfold crcF; rw [if_pos hodd]
            have hodd' : (((q % 2 : Nat) : Int) == 1) = true := by rw [hodd]; rfl
            have HF := Lib.hid hf
            clear hf
            go_wp2
            refine ⟨⟨j + 1, by omega, by go_num, ?_⟩, by simp [intOf]; omega⟩
            rw [HQ2.out, HF.out]
          · have hf : crcF q = q / 2 := by unfold crcF; rw [if_neg hodd]
            have hodd' : (((q % 2 : Nat) : Int) == 1) = false := by rw [show q % 2 = 0 by omega]; rfl
            have HF := Lib.hid hf
            clear hf
            go_wp2
            refine ⟨⟨j + 1, by omega, by go_num, ?_⟩, by simp [intOf]; omega⟩
            rw [HQ2.out, HF.out]
            simp
        · obtain rfl : j = 8 := by omega
          go_wp2
          refine ⟨⟨k + 1, by omega, by go_num, by rw [HSN.out]⟩, by simp [intOf]; omega⟩
    · obtain rfl : k = n := by omega
      have e : l.take k = l := List.take_of_length_le (by rw [HL.out]; exact Nat.le_refl _)
      rw [e]
      have hx := HX.out
      go_wp2
      go_ret
      exact ⟨by rw [HM.out]; simp, rfl⟩
end Go.Proofs.Ytblpnohfileibaa
