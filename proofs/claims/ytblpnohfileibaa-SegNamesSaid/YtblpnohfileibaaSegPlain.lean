/- Plain facts on hex digits: a name leads back to its number, and names rise as numbers do. -/
import Derived.Test.YtblpnohfileibaaSegNum
namespace Go.Proofs.Ytblpnohfileibaa
open Go.RowKit

theorem hexd_nat (x : Nat) (h : x < 16) : (hexd x).toNat = if x < 10 then 48 + x else 87 + x := by
  unfold hexd
  rw [UInt8.toNat_ofNat']
  split <;> omega
theorem hexd_nib (x : Nat) (h : x < 16) : nibk (hexd x).toNat = true ∧ nibv (hexd x).toNat = x := by
  rw [hexd_nat x h]
  unfold nibk nibv
  split <;> constructor <;> simp <;> omega
theorem nib_hexd (c : UInt8) (h : nibk c.toNat = true) : hexd (nibv c.toNat).toNat = c := by
  apply UInt8.toNat_inj.1
  have := nibv_bd _ h
  rw [hexd_nat _ (by omega)]
  simp [nibk] at h
  unfold nibv at *
  by_cases h9 : (c.toNat : Int) ≤ 57
  · rw [if_pos h9] at this ⊢
    split <;> omega
  · rw [if_neg h9] at this ⊢
    split <;> omega

theorem hv_foldl (l : List UInt8) (hk : hexk l = true) : ∀ a, l.foldl (fun a c => if nibk c.toNat then 16 * a + (nibv c.toNat).toNat else a) a = a * 16 ^ l.length + hv l := by
  induction l with
  | nil => intro a; simp [hv]
  | cons c l ih =>
    intro a
    unfold hexk at hk
    simp only [List.all_cons, Bool.and_eq_true] at hk
    have ih := ih hk.2
    unfold hv
    simp only [List.foldl_cons, hk.1, if_true]
    rw [ih, ih, List.length_cons, Nat.pow_succ]
    simp only [Nat.add_mul, Nat.mul_zero, Nat.zero_add]
    rw [Nat.add_assoc, Nat.mul_comm 16 a, Nat.mul_assoc, Nat.mul_comm 16]
theorem hv_cons (c : UInt8) (l : List UInt8) (hk : hexk (c :: l) = true) : hv (c :: l) = (nibv c.toNat).toNat * 16 ^ l.length + hv l := by
  unfold hexk at hk
  simp only [List.all_cons, Bool.and_eq_true] at hk
  have := hv_foldl l hk.2 ((nibv c.toNat).toNat)
  unfold hv at *
  simp only [List.foldl_cons, hk.1, if_true, Nat.mul_zero, Nat.zero_add]
  exact this

theorem hexLow_hexk (n k : Nat) : hexk (hexLow n k) = true := by
  induction k with
  | zero => rfl
  | succ k ih =>
    unfold hexk at *
    simp only [hexLow, List.all_cons, ih, Bool.and_true]
    exact (hexd_nib _ (Nat.mod_lt _ (by omega))).1
theorem hv_hexLow (n k : Nat) : hv (hexLow n k) = n % 16 ^ k := by
  induction k with
  | zero => simp [hexLow, hv, Nat.mod_one]
  | succ k ih =>
    rw [hexLow, hv_cons _ _ (hexLow_hexk n (k + 1)), ih, hexLow_length, (hexd_nib _ (Nat.mod_lt _ (by omega))).2, Nat.pow_succ]
    rw [Int.toNat_natCast, Nat.mod_mul (a := 16 ^ k)]
    rw [Nat.mul_comm, Nat.add_comm]
theorem hexLow_mod (n k : Nat) : ∀ v, hexLow (v * 16 ^ k + n) k = hexLow n k := by
  induction k with
  | zero => intro v; rfl
  | succ k ih =>
    intro v
    have e : v * 16 ^ (k + 1) = (v * 16) * 16 ^ k := by rw [Nat.pow_succ, Nat.mul_comm (16 ^ k), Nat.mul_assoc]
    rw [hexLow, hexLow, e, ih, Nat.add_comm, Nat.add_mul_div_right _ _ (Nat.pow_pos (by omega)), Nat.add_mul_mod_self_right]
theorem hexLow_hv (d : List UInt8) (hk : hexk d = true) : hexLow (hv d) d.length = d := by
  induction d with
  | nil => rfl
  | cons c l ih =>
    have hk' := hk
    unfold hexk at hk'
    simp only [List.all_cons, Bool.and_eq_true] at hk'
    have hlt := hv_lt l
    rw [hv_cons c l hk, List.length_cons, hexLow, hexLow_mod, ih hk'.2, Nat.add_comm, Nat.add_mul_div_right _ _ (Nat.pow_pos (by omega)), Nat.div_eq_of_lt hlt, Nat.zero_add]
    have := nibv_bd _ hk'.1
    rw [Nat.mod_eq_of_lt (by omega), nib_hexd c hk'.1]

theorem hexd_lt (x y : Nat) (hx : x < 16) (hy : y < 16) : (hexd x < hexd y) = (x < y) := by
  rw [UInt8.lt_iff_toNat_lt, hexd_nat x hx, hexd_nat y hy]
  apply propext
  split <;> split <;> omega
theorem hexd_eq (x y : Nat) (hx : x < 16) (hy : y < 16) : (hexd x == hexd y) = decide (x = y) := by
  rw [Bool.eq_iff_iff]
  simp only [beq_iff_eq, decide_eq_true_eq]
  constructor
  · intro h
    have h := congrArg UInt8.toNat h
    rw [hexd_nat x hx, hexd_nat y hy] at h
    split at h <;> split at h <;> omega
  · rintro rfl; rfl
theorem less_hexLow (a b k : Nat) : Op.bytesLess (hexLow a k) (hexLow b k) = decide (a % 16 ^ k < b % 16 ^ k) := by
  induction k with
  | zero => simp [hexLow, Op.bytesLess, Nat.mod_one]
  | succ k ih =>
    rw [hexLow, hexLow, Op.bytesLess, ih, hexd_eq _ _ (Nat.mod_lt _ (by omega)) (Nat.mod_lt _ (by omega))]
    simp only [hexd_lt _ _ (Nat.mod_lt (a / 16 ^ k) (by omega : (16 : Nat) > 0)) (Nat.mod_lt (b / 16 ^ k) (by omega : (16 : Nat) > 0))]
    rw [Nat.pow_succ, Nat.mod_mul (x := a), Nat.mod_mul (x := b)]
    have ha := Nat.mod_lt a (Nat.pow_pos (n := k) (by omega : 0 < 16))
    have hb := Nat.mod_lt b (Nat.pow_pos (n := k) (by omega : 0 < 16))
    generalize a / 16 ^ k % 16 = x
    generalize b / 16 ^ k % 16 = y
    generalize a % 16 ^ k = p at *
    generalize b % 16 ^ k = q at *
    generalize 16 ^ k = m at *
    rw [Bool.eq_iff_iff]
    simp only [Bool.or_eq_true, Bool.and_eq_true, decide_eq_true_eq]
    constructor
    · rintro (h | ⟨rfl, h⟩)
      · have : m * (x + 1) ≤ m * y := Nat.mul_le_mul_left m h
        rw [Nat.mul_add] at this
        omega
      · omega
    · intro h
      rcases Nat.lt_trichotomy x y with h1 | h1 | h1
      · exact .inl h1
      · exact .inr ⟨h1, by subst h1; omega⟩
      · have : m * (y + 1) ≤ m * x := Nat.mul_le_mul_left m h1
        rw [Nat.mul_add] at this
        omega

theorem name_eq (n : Nat) : nameL n = 119 :: hexLow n 16 := (hexLow_name n).symm
theorem name_hv (d : List UInt8) (hd : d.length = 16) (hk : hexk d = true) : nameL (hv d) = 119 :: d := by
  rw [name_eq, ← hd, hexLow_hv d hk]
theorem name_of_eq (n : Nat) (c0 : UInt8) (d : List UInt8) (h : nameL n = c0 :: d) : c0 = 119 ∧ hexk d = true := by
  rw [name_eq] at h
  injection h with h1 h2
  exact ⟨h1.symm, h2 ▸ hexLow_hexk n 16⟩
theorem name_beq (c0 : UInt8) (d : List UInt8) (hd : d.length = 16) : (nameL (hv d) == c0 :: d) = (c0 == 119 && hexk d) := by
  rw [Bool.eq_iff_iff]
  simp only [beq_iff_eq, Bool.and_eq_true]
  constructor
  · intro h; exact name_of_eq _ _ _ h
  · rintro ⟨rfl, h⟩; exact name_hv d hd h
theorem hv_name (n : Nat) (hn : n < 18446744073709551616) : hv (hexLow n 16) = n := by
  rw [hv_hexLow]; exact Nat.mod_eq_of_lt hn
theorem less_name (a b : Nat) (ha : a < 18446744073709551616) (hb : b < 18446744073709551616) : Op.bytesLess (nameL a) (nameL b) = decide (a < b) := by
  rw [name_eq, name_eq, Op.bytesLess, less_hexLow, Nat.mod_eq_of_lt (show a < 16 ^ 16 from ha), Nat.mod_eq_of_lt (show b < 16 ^ 16 from hb)]
  simp
end Go.Proofs.Ytblpnohfileibaa
