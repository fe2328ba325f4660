/- seg.Number and its reference give the number of a name, for every string. -/
import Derived.Test.YtblpnohfileibaaSTornM3
import Derived.Test.YtblpnohfileibaaSTornM0
import Derived.Deep.QuietTactic
import Derived.BigQuiet
import Derived.Deep.RegionHeld3
namespace Go.Proofs.Ytblpnohfileibaa
open Go.RowKit

/-- a hex digit's number -/
def hv (l : List UInt8) : Nat := l.foldl (fun a c => if nibk c.toNat then 16 * a + (nibv c.toNat).toNat else a) 0
theorem hv_snoc (l : List UInt8) (c : UInt8) : hv (l ++ [c]) = if nibk c.toNat then 16 * hv l + (nibv c.toNat).toNat else hv l := by simp [hv]
theorem hv_lt (l : List UInt8) : hv l < 16 ^ l.length := by
  suffices H : ∀ n (l : List UInt8), l.length = n → hv l < 16 ^ n from H _ l rfl
  intro n
  induction n with
  | zero => intro l h; rw [List.eq_nil_of_length_eq_zero h]; simp [hv]
  | succ n ih =>
    intro l' h'
    obtain ⟨l, c, rfl⟩ : ∃ l c, l' = l ++ [c] := ⟨l'.dropLast, l'.getLast (by intro e; rw [e] at h'; simp at h'), (List.dropLast_concat_getLast _).symm⟩
    have ih := ih l (by simpa using h')
    rw [hv_snoc, Nat.pow_succ]
    split
    · have := nibv_bd _ ‹_›
      omega
    · omega

theorem hv_dig (q : Nat) (x : UInt8) (h1 : 48 ≤ (x.toNat : Int)) (h2 : (x.toNat : Int) ≤ 57) : 16 * (q : Int) + ((x.toNat : Int) - 48) = ((if nibk x.toNat then 16 * q + (nibv x.toNat).toNat else q : Nat) : Int) := by
  have : nibk x.toNat = true := by simp [nibk]; omega
  rw [if_pos this]; unfold nibv; rw [if_pos h2]; omega
theorem hv_let (q : Nat) (x : UInt8) (h1 : 97 ≤ (x.toNat : Int)) (h2 : (x.toNat : Int) ≤ 102) : 16 * (q : Int) + ((x.toNat : Int) - 97) + 10 = ((if nibk x.toNat then 16 * q + (nibv x.toNat).toNat else q : Nat) : Int) := by
  have : nibk x.toNat = true := by simp [nibk]; omega
  rw [if_pos this]; unfold nibv; rw [if_neg (by omega)]; omega
theorem hv_not (q : Nat) (x : UInt8) (h1 : ¬ (48 ≤ (x.toNat : Int) ∧ (x.toNat : Int) ≤ 57)) (h2 : ¬ (97 ≤ (x.toNat : Int) ∧ (x.toNat : Int) ≤ 102)) : (q : Int) = ((if nibk x.toNat then 16 * q + (nibv x.toNat).toNat else q : Nat) : Int) := by
  have : ¬ nibk x.toNat = true := by simp [nibk]; omega
  rw [if_neg this]

set_option maxRecDepth 100000 in
theorem refNumber_any (s : ByteArray) (d : List UInt8) (c0 : UInt8) (hs : s.data.toList = c0 :: d) (hd : d.length = 16) (w : World) :
    Calls Try.prog 13 #[.string s] w fun e w' => e = .returned (.tuple #[.int .u64 (hv d : Int), .bool (nameL (hv d) == c0 :: d)]) ∧ w = w' := by
  have hsz : s.size = 17 := by
    have : s.size = s.data.toList.length := by simp
    rw [this, hs]; simp [hd]
  have HS := Lib.hid hs
  clear hs
  go_enter Try.func13, Try.ntmps13
  go_wp2_with fail
  go_loop [4, 5] (fun a i => ∃ k : Nat, k ≤ 16 ∧ i = .int .i64 ((k + 1 : Nat) : Int) ∧ a = .int .u64 (hv (d.take k) : Int)) (fun _ i => 17 - (intOf i).toNat)
  case atStart => exact ⟨0, by omega, rfl, rfl⟩
  case round =>
    obtain ⟨k, hk, rfl, rfl⟩ := hrel
    by_cases hlt : k < 16
    · obtain ⟨x, hx⟩ : ∃ x, d[k]? = some x := ⟨_, List.getElem?_eq_getElem (by omega)⟩
      have hsx : s.data.toList[k + 1]? = some x := by rw [HS.out]; simpa using hx
      have hq : hv (d.take k) < 16 ^ 15 := by
        have := hv_lt (d.take k)
        refine Nat.lt_of_lt_of_le this (Nat.pow_le_pow_right (by omega) ?_)
        rw [List.length_take]; omega
      have hsn : hv (d.take (k + 1)) = if nibk x.toNat then 16 * hv (d.take k) + (nibv x.toNat).toNat else hv (d.take k) := by
        rw [List.take_add_one, hx]; simp [hv_snoc]
      have hix : s[k + 1]'(by omega) = x := by rw [getElem_bs]; exact (List.getElem?_eq_some_iff.1 hsx).2
      have HSN := Lib.hid hsn
      generalize hg : hv (d.take k) = q at *
      have HG := Lib.hid hg
      have HX := Lib.hid hx
      have HSX := Lib.hid hsx
      clear hg hsn hx hsx
      have hq2 : q ≤ 1152921504606846975 := by omega
      clear hq
      go_wp2_with fail
      all_goals
        refine ⟨⟨k + 1, by omega, by go_num, ?_⟩, by simp [intOf]; omega⟩
        rw [HSN.out]
        first
          | rw [hv_dig q x (by omega) (by omega)]
          | rw [hv_let q x (by omega) (by omega)]
          | rw [← hv_not q x (by omega) (by omega)]
    · obtain rfl : k = 16 := by omega
      have hlt := hv_lt d
      rw [hd] at hlt
      have ht : d.take 16 = d := List.take_of_length_le (by omega)
      rw [ht]
      clear ht
      have hL : s.toList = c0 :: d := by rw [Lib.toList_data, HS.out]
      go_wp2_with (go_at_call 14; refine (refName_any _ hlt _).mono ?_; rintro e w' ⟨rfl, rfl⟩)
      go_ret2
      refine ⟨?_, rfl⟩
      simp [hL]

theorem refNumber_no (s : ByteArray) (hs : s.data.toList.length ≠ 17) (w : World) :
    Calls Try.prog 13 #[.string s] w fun e w' => e = .returned (.tuple #[.int .u64 0, .bool false]) ∧ w = w' := by
  have hsz : ((s.size : Int) == 17) = false := by
    have : s.size = s.data.toList.length := by simp
    rw [this]; simp at hs ⊢; omega
  have hsz' : ((s.size : Int) != 17) = true := by simpa [bne] using hsz
  go_enter Try.func13, Try.ntmps13
  go_wp2
  go_ret2
  simp

theorem Number_bad1 (s : ByteArray) (hs : s.data.toList.length ≠ 17) (w : World) :
    Calls Try.prog 11 #[.string s] w fun e w' => e = .returned (.tuple #[.int .u64 0, .int .i64 2]) ∧ w = w' := by
  have hsz : ((s.size : Int) == 17) = false := by
    have : s.size = s.data.toList.length := by simp
    rw [this]; simp at hs ⊢; omega
  have hsz' : ((s.size : Int) != 17) = true := by simpa [bne] using hsz
  go_enter Try.func11, Try.ntmps11
  go_wp2
  go_ret2
  simp

theorem Number_bad2 (s : ByteArray) (c0 : UInt8) (d : List UInt8) (hs : s.data.toList = c0 :: d) (hd : d.length = 16) (h0 : c0 ≠ 119) (w : World) :
    Calls Try.prog 11 #[.string s] w fun e w' => e = .returned (.tuple #[.int .u64 0, .int .i64 2]) ∧ w = w' := by
  have hsz : s.size = 17 := by
    have : s.size = s.data.toList.length := by simp
    rw [this, hs]; simp [hd]
  have hx : ((s.extract 0 1).toList == [119]) = false := by
    rw [Lib.toList_data, Lib.extract_data, hs]; simp [h0]
  clear hs
  go_enter Try.func11, Try.ntmps11
  go_wp2
  go_ret2
  simp

theorem shl_or8 (q x : Int) (h0 : 0 ≤ q) (h1 : q < 72057594037927936) (h2 : 0 ≤ x) (h3 : x ≤ 255) : bits .or .u64 (q * 256) x = q * 256 + x :=
  bits_join .u64 64 (by decide) (fun n h0 h1 => by unfold IntKind.wrap; simp [IntKind.signed, IntKind.bits]; omega) 8 (q * 256) x (by omega) (by omega) (by omega) h2 (by omega) (by omega)

theorem hv_two (d : List UInt8) (k : Nat) (hl : 2 * k + 2 ≤ 16) (hk : hexk d = true) (hd : d.length = 16) : ((hv (d.take (2 * k + 2 * 1)) : Nat) : Int) = hv (d.take (2 * k)) * 256 + unb d 16 k := by
  have h1 : ∀ i, i < 16 → nibk (d.getD i 0).toNat = true := by
    intro i hi
    unfold hexk at hk
    refine List.all_eq_true.1 hk _ ?_
    rw [List.getD_eq_getElem?_getD, List.getElem?_eq_getElem (by omega)]
    exact List.getElem_mem _
  have e1 : d.take (2 * k + 2 * 1) = d.take (2 * k) ++ [d.getD (2 * k) 0] ++ [d.getD (2 * k + 1) 0] := by
    rw [show 2 * k + 2 * 1 = (2 * k + 1) + 1 from rfl, List.take_add_one, List.take_add_one]
    rw [List.getElem?_eq_getElem (show 2 * k < d.length by omega), List.getElem?_eq_getElem (show 2 * k + 1 < d.length by omega)]
    simp [List.getD_eq_getElem?_getD, List.getElem?_eq_getElem (show 2 * k < d.length by omega), List.getElem?_eq_getElem (show 2 * k + 1 < d.length by omega)]
  rw [e1, hv_snoc, hv_snoc, if_pos (h1 _ (by omega)), if_pos (h1 _ (by omega))]
  have b1 := nibv_bd _ (h1 (2 * k) (by omega))
  have b2 := nibv_bd _ (h1 (2 * k + 1) (by omega))
  unfold unb
  rw [if_pos (by omega), if_pos (by omega), if_pos (by omega)]
  omega

set_option maxRecDepth 100000 in
theorem Number_hex (s : ByteArray) (d : List UInt8) (hs : s.data.toList = 119 :: d) (hd : d.length = 16) (hk : hexk d = true) (w : World) :
    Calls Try.prog 11 #[.string s] w fun e w' => e = .returned (.tuple #[.int .u64 (hv d : Int), .int .i64 0]) ∧ Below w.heap.size w w' := by
  have hsz : s.size = 17 := by
    have : s.size = s.data.toList.length := by simp
    rw [this, hs]; simp [hd]
  have hx : ((s.extract 0 1).toList == [119]) = true := by
    rw [Lib.toList_data, Lib.extract_data, hs]; simp
  have hd' : (s.extract 1 17).data.toList = d := by
    rw [Lib.extract_data, hs]; simp [List.take_of_length_le, hd]
  have HD := Lib.hid hd'
  clear hs hd'
  go_enter Try.func11, Try.ntmps11
  go_wp2_with (go_at_call 44; refine (Bytes_hex _ d 8 HD.out (by rw [hd]) (by omega) (by omega) hk _).mono ?_; rintro e w1 ⟨g, rfl, hrow, hb⟩)
  have hbd : ∀ j, j < 8 → 0 ≤ unb d 16 j ∧ unb d 16 j ≤ 255 := by
    intro j hj
    have h1 : ∀ i, i < 16 → 0 ≤ nibv (d.getD i 0).toNat ∧ nibv (d.getD i 0).toNat ≤ 15 := by
      intro i hi
      refine nibv_bd _ ?_
      unfold hexk at hk
      refine List.all_eq_true.1 hk _ ?_
      rw [List.getD_eq_getElem?_getD, List.getElem?_eq_getElem (by omega)]
      exact List.getElem_mem _
    have h2 := h1 (2 * j) (by omega)
    have h3 := h1 (2 * j + 1) (by omega)
    unfold unb
    rw [if_pos (by omega), if_pos (by omega), if_pos (by omega)]
    omega
  have hcells : ∀ j, j < 8 → w1.cell? ⟨g, j, none⟩ = some (.int .u8 (unb d 16 j)) := by
    intro j hj
    rw [hrow.cellAt j (by omega)]
    unfold unbs
    rw [List.getElem?_map, List.getElem?_range (by omega)]
    rfl
  have HK := Lib.hid hk
  have HC := Lib.hid hcells
  have HB := Lib.hid hbd
  clear hk hrow hcells hbd
  go_wp2_with fail
  go_loop [6, 27] (fun a i => ∃ k : Nat, k ≤ 8 ∧ i = .int .i64 (k : Int) ∧ a = .int .u64 (hv (d.take (2 * k)) : Int)) (fun _ i => 8 - (intOf i).toNat)
  case atStart => exact ⟨0, by omega, rfl, rfl⟩
  case round =>
    obtain ⟨k, hk, rfl, rfl⟩ := hrel
    by_cases hlt : k < 8
    · have hcell := HC.out k hlt
      obtain ⟨hu0, hu1⟩ := HB.out k hlt
      have hq : hv (d.take (2 * k)) < 16 ^ 14 := by
        have := hv_lt (d.take (2 * k))
        refine Nat.lt_of_lt_of_le this (Nat.pow_le_pow_right (by omega) ?_)
        rw [List.length_take]; omega
      have hsn := hv_two d k (by omega) HK.out hd
      generalize hv (d.take (2 * k)) = q at *
      generalize unb d 16 k = u at *
      have HSN := Lib.hid hsn
      clear hsn
      have hq2 : q ≤ 72057594037927935 := by omega
      clear hq
      go_wp2_with fail
      refine ⟨⟨k + 1, by omega, by go_num, ?_⟩, by simp [intOf]; omega⟩
      rw [shl_or8 _ _ (by omega) (by omega) hu0 hu1, Nat.mul_add, HSN.out]
    · obtain rfl : k = 8 := by omega
      have ht : d.take (2 * 8) = d := List.take_of_length_le (by omega)
      rw [ht]
      go_wp2
      go_ret2
      exact ⟨by simp, hb⟩

theorem Number_bad3 (s : ByteArray) (d : List UInt8) (hs : s.data.toList = 119 :: d) (hd : d.length = 16) (hk : hexk d = false) (w : World) :
    Calls Try.prog 11 #[.string s] w fun e w' => e = .returned (.tuple #[.int .u64 0, .int .i64 2]) ∧ Below w.heap.size w w' := by
  have hsz : s.size = 17 := by
    have : s.size = s.data.toList.length := by simp
    rw [this, hs]; simp [hd]
  have hx : ((s.extract 0 1).toList == [119]) = true := by
    rw [Lib.toList_data, Lib.extract_data, hs]; simp
  have hd' : (s.extract 1 17).data.toList = d := by
    rw [Lib.extract_data, hs]; simp [List.take_of_length_le, hd]
  have HD := Lib.hid hd'
  clear hs hd'
  go_enter Try.func11, Try.ntmps11
  go_wp2_with (go_at_call 44; refine (Bytes_bad _ d 8 HD.out (by rw [hd]) (by omega) (by omega) hk _).mono ?_; rintro e w1 ⟨rfl, hb⟩)
  go_ret2
  exact ⟨by simp, hb⟩
end Go.Proofs.Ytblpnohfileibaa

/- Plain facts on hex digits: a name leads back to its number, and names rise as numbers do. -/
namespace Go.Proofs.Ytblpnohfileibaa
open Go.RowKit

theorem hexd_nat (x : Nat) (h : x < 16) : (hexd x).toNat = if x < 10 then 48 + x else 87 + x := by
  unfold hexd
  rw [UInt8.toNat_ofNat']
  split <;> omega
theorem hexd_nib (x : Nat) (h : x < 16) : nibk (hexd x).toNat = true ∧ nibv (hexd x).toNat = x := by
  rw [hexd_nat x h]
  unfold nibk nibv
  split <;> constructor <;> simp <;> omega
theorem nib_hexd (c : UInt8) (h : nibk c.toNat = true) : hexd (nibv c.toNat).toNat = c := by
  apply UInt8.toNat_inj.1
  have := nibv_bd _ h
  rw [hexd_nat _ (by omega)]
  simp [nibk] at h
  unfold nibv at *
  by_cases h9 : (c.toNat : Int) ≤ 57
  · rw [if_pos h9] at this ⊢
    split <;> omega
  · rw [if_neg h9] at this ⊢
    split <;> omega

theorem hv_foldl (l : List UInt8) (hk : hexk l = true) : ∀ a, l.foldl (fun a c => if nibk c.toNat then 16 * a + (nibv c.toNat).toNat else a) a = a * 16 ^ l.length + hv l := by
  induction l with
  | nil => intro a; simp [hv]
  | cons c l ih =>
    intro a
    unfold hexk at hk
    simp only [List.all_cons, Bool.and_eq_true] at hk
    have ih := ih hk.2
    unfold hv
    simp only [List.foldl_cons, hk.1, if_true]
    rw [ih, ih, List.length_cons, Nat.pow_succ]
    simp only [Nat.add_mul, Nat.mul_zero, Nat.zero_add]
    rw [Nat.add_assoc, Nat.mul_comm 16 a, Nat.mul_assoc, Nat.mul_comm 16]
theorem hv_cons (c : UInt8) (l : List UInt8) (hk : hexk (c :: l) = true) : hv (c :: l) = (nibv c.toNat).toNat * 16 ^ l.length + hv l := by
  unfold hexk at hk
  simp only [List.all_cons, Bool.and_eq_true] at hk
  have := hv_foldl l hk.2 ((nibv c.toNat).toNat)
  unfold hv at *
  simp only [List.foldl_cons, hk.1, if_true, Nat.mul_zero, Nat.zero_add]
  exact this

theorem hexLow_hexk (n k : Nat) : hexk (hexLow n k) = true := by
  induction k with
  | zero => rfl
  | succ k ih =>
    unfold hexk at *
    simp only [hexLow, List.all_cons, ih, Bool.and_true]
    exact (hexd_nib _ (Nat.mod_lt _ (by omega))).1
theorem hv_hexLow (n k : Nat) : hv (hexLow n k) = n % 16 ^ k := by
  induction k with
  | zero => simp [hexLow, hv, Nat.mod_one]
  | succ k ih =>
    rw [hexLow, hv_cons _ _ (hexLow_hexk n (k + 1)), ih, hexLow_length, (hexd_nib _ (Nat.mod_lt _ (by omega))).2, Nat.pow_succ]
    rw [Int.toNat_natCast, Nat.mod_mul (a := 16 ^ k)]
    rw [Nat.mul_comm, Nat.add_comm]
theorem hexLow_mod (n k : Nat) : ∀ v, hexLow (v * 16 ^ k + n) k = hexLow n k := by
  induction k with
  | zero => intro v; rfl
  | succ k ih =>
    intro v
    have e : v * 16 ^ (k + 1) = (v * 16) * 16 ^ k := by rw [Nat.pow_succ, Nat.mul_comm (16 ^ k), Nat.mul_assoc]
    rw [hexLow, hexLow, e, ih, Nat.add_comm, Nat.add_mul_div_right _ _ (Nat.pow_pos (by omega)), Nat.add_mul_mod_self_right]
theorem hexLow_hv (d : List UInt8) (hk : hexk d = true) : hexLow (hv d) d.length = d := by
  induction d with
  | nil => rfl
  | cons c l ih =>
    have hk' := hk
    unfold hexk at hk'
    simp only [List.all_cons, Bool.and_eq_true] at hk'
    have hlt := hv_lt l
    rw [hv_cons c l hk, List.length_cons, hexLow, hexLow_mod, ih hk'.2, Nat.add_comm, Nat.add_mul_div_right _ _ (Nat.pow_pos (by omega)), Nat.div_eq_of_lt hlt, Nat.zero_add]
    have := nibv_bd _ hk'.1
    rw [Nat.mod_eq_of_lt (by omega), nib_hexd c hk'.1]

theorem hexd_lt (x y : Nat) (hx : x < 16) (hy : y < 16) : (hexd x < hexd y) = (x < y) := by
  rw [UInt8.lt_iff_toNat_lt, hexd_nat x hx, hexd_nat y hy]
  apply propext
  split <;> split <;> omega
theorem hexd_eq (x y : Nat) (hx : x < 16) (hy : y < 16) : (hexd x == hexd y) = decide (x = y) := by
  rw [Bool.eq_iff_iff]
  simp only [beq_iff_eq, decide_eq_true_eq]
  constructor
  · intro h
    have h := congrArg UInt8.toNat h
    rw [hexd_nat x hx, hexd_nat y hy] at h
    split at h <;> split at h <;> omega
  · rintro rfl; rfl
theorem less_hexLow (a b k : Nat) : Op.bytesLess (hexLow a k) (hexLow b k) = decide (a % 16 ^ k < b % 16 ^ k) := by
  induction k with
  | zero => simp [hexLow, Op.bytesLess, Nat.mod_one]
  | succ k ih =>
    rw [hexLow, hexLow, Op.bytesLess, ih, hexd_eq _ _ (Nat.mod_lt _ (by omega)) (Nat.mod_lt _ (by omega))]
    simp only [hexd_lt _ _ (Nat.mod_lt (a / 16 ^ k) (by omega : (16 : Nat) > 0)) (Nat.mod_lt (b / 16 ^ k) (by omega : (16 : Nat) > 0))]
    rw [Nat.pow_succ, Nat.mod_mul (x := a), Nat.mod_mul (x := b)]
    have ha := Nat.mod_lt a (Nat.pow_pos (n := k) (by omega : 0 < 16))
    have hb := Nat.mod_lt b (Nat.pow_pos (n := k) (by omega : 0 < 16))
    generalize a / 16 ^ k % 16 = x
    generalize b / 16 ^ k % 16 = y
    generalize a % 16 ^ k = p at *
    generalize b % 16 ^ k = q at *
    generalize 16 ^ k = m at *
    rw [Bool.eq_iff_iff]
    simp only [Bool.or_eq_true, Bool.and_eq_true, decide_eq_true_eq]
    constructor
    · rintro (h | ⟨rfl, h⟩)
      · have : m * (x + 1) ≤ m * y := Nat.mul_le_mul_left m h
        rw [Nat.mul_add] at this
        omega
      · omega
    · intro h
      rcases Nat.lt_trichotomy x y with h1 | h1 | h1
      · exact .inl h1
      · exact .inr ⟨h1, by subst h1; omega⟩
      · have : m * (y + 1) ≤ m * x := Nat.mul_le_mul_left m h1
        rw [Nat.mul_add] at this
        omega

theorem name_eq (n : Nat) : nameL n = 119 :: hexLow n 16 := (hexLow_name n).symm
theorem name_hv (d : List UInt8) (hd : d.length = 16) (hk : hexk d = true) : nameL (hv d) = 119 :: d := by
  rw [name_eq, ← hd, hexLow_hv d hk]
theorem name_of_eq (n : Nat) (c0 : UInt8) (d : List UInt8) (h : nameL n = c0 :: d) : c0 = 119 ∧ hexk d = true := by
  rw [name_eq] at h
  injection h with h1 h2
  exact ⟨h1.symm, h2 ▸ hexLow_hexk n 16⟩
theorem name_beq (c0 : UInt8) (d : List UInt8) (hd : d.length = 16) : (nameL (hv d) == c0 :: d) = (c0 == 119 && hexk d) := by
  rw [Bool.eq_iff_iff]
  simp only [beq_iff_eq, Bool.and_eq_true]
  constructor
  · intro h; exact name_of_eq _ _ _ h
  · rintro ⟨rfl, h⟩; exact name_hv d hd h
theorem hv_name (n : Nat) (hn : n < 18446744073709551616) : hv (hexLow n 16) = n := by
  rw [hv_hexLow]; exact Nat.mod_eq_of_lt hn
theorem less_name (a b : Nat) (ha : a < 18446744073709551616) (hb : b < 18446744073709551616) : Op.bytesLess (nameL a) (nameL b) = decide (a < b) := by
  rw [name_eq, name_eq, Op.bytesLess, less_hexLow, Nat.mod_eq_of_lt (show a < 16 ^ 16 from ha), Nat.mod_eq_of_lt (show b < 16 ^ 16 from hb)]
  simp
end Go.Proofs.Ytblpnohfileibaa

/- The walk of the law SegNames: it returns true for every two numbers below 2^64 and every string. -/
namespace Go.Proofs.Ytblpnohfileibaa
open Go.RowKit

theorem Number_no (s : ByteArray) (h : ∀ d, s.data.toList = 119 :: d → d.length = 16 → hexk d = false) (w : World) :
    Calls Try.prog 11 #[.string s] w fun e w' => e = .returned (.tuple #[.int .u64 0, .int .i64 2]) ∧ Below w.heap.size w w' := by
  by_cases hl : s.data.toList.length = 17
  · obtain ⟨c0, d, hs⟩ : ∃ c0 d, s.data.toList = c0 :: d := by
      cases hh : s.data.toList with
      | nil => rw [hh] at hl; simp at hl
      | cons c d => exact ⟨c, d, rfl⟩
    have hd : d.length = 16 := by rw [hs] at hl; simpa using hl
    by_cases hc : c0 = 119
    · subst hc
      exact Number_bad3 s d hs hd (h d hs hd) w
    · exact (Number_bad2 s c0 d hs hd hc w).mono fun e w' ⟨h1, h2⟩ => ⟨h1, h2 ▸ bel_rfl⟩
  · exact (Number_bad1 s hl w).mono fun e w' ⟨h1, h2⟩ => ⟨h1, h2 ▸ bel_rfl⟩

def d255 : List UInt8 := [48, 48, 48, 48, 48, 48, 48, 48, 48, 48, 48, 48, 48, 48, 102, 102]
theorem awake13 (w : World) : Calls Try.prog 10 #[] w fun e w' => e = .returned (.bool true) ∧ Below w.heap.size w w' := by
  have hN := fun w => Number_hex ⟨#[119, 48, 48, 48, 48, 48, 48, 48, 48, 48, 48, 48, 48, 48, 48, 102, 102]⟩ d255 rfl rfl (by decide) w
  have hv255 : ((hv d255 : Nat) : Int) = 255 := by decide
  rw [hv255] at hN
  have HN := Lib.hid hN
  have hM := fun w => Name_any 255 (by omega) w
  have hnm : nameL 255 = [119, 48, 48, 48, 48, 48, 48, 48, 48, 48, 48, 48, 48, 48, 48, 102, 102] := by decide
  rw [hnm] at hM
  have HM := Lib.hid hM
  clear hN hv255 hM hnm
  go_enter Try.func10, Try.ntmps10
  go_wp2_with (first | (go_at_call 11; refine (HN.out _).mono ?_; rintro e w' ⟨rfl, hb⟩) | (go_at_call 12; refine (HM.out _).mono ?_; rintro e w' ⟨rfl, hb2⟩))
  go_ret
  exact ⟨by simp, bel_trans hb hb2⟩

theorem Number_name (n : Nat) (hn : n < 18446744073709551616) (w : World) :
    Calls Try.prog 11 #[.string ⟨(nameL n).toArray⟩] w fun e w' => e = .returned (.tuple #[.int .u64 (n : Int), .int .i64 0]) ∧ Below w.heap.size w w' := by
  have := Number_hex ⟨(nameL n).toArray⟩ (hexLow n 16) (by rw [name_eq]) (hexLow_length n 16) (hexLow_hexk n 16) w
  rw [hv_name n hn] at this
  exact this

set_option maxRecDepth 100000 in
theorem segNames_walk (a b : Nat) (s : ByteArray) (ha : a < 18446744073709551616) (hb : b < 18446744073709551616) (w : World) :
    Calls Try.prog 3 #[.int .u64 (a : Int), .int .u64 (b : Int), .string s] w fun e w' => e = .returned (.bool true) ∧ Below w.heap.size w w' := by
  have HA := Lib.hid ha
  have HB := Lib.hid hb
  clear ha hb
  by_cases hl : 100 < s.size
  · go_enter Try.func3, Try.ntmps3
    go_wp2_with (go_at_call 10; refine (awake13 _).mono ?_; rintro e w' ⟨rfl, hb⟩)
    go_ret
    exact ⟨by simp, hb⟩
  have hless := less_name a b HA.out HB.out
  have hL : ∀ n, (⟨(nameL n).toArray⟩ : ByteArray).toList = nameL n := fun n => by rw [Lib.toList_data]
  by_cases hyes : ∃ d, s.data.toList = 119 :: d ∧ d.length = 16 ∧ hexk d = true
  · obtain ⟨d, hs, hd, hk⟩ := hyes
    have HS := Lib.hid hs
    have HD := Lib.hid hd
    have HK := Lib.hid hk
    have hR := fun w => refNumber_any s d 119 hs hd w
    rw [name_hv d hd hk, beq_self_eq_true] at hR
    have HR := Lib.hid hR
    clear hs hd hk hR
    go_enter Try.func3, Try.ntmps3
    go_wp2_with (first
      | (go_at_call 10; refine (awake13 _).mono ?_; rintro e w' ⟨rfl, hb⟩)
      | (go_at_call 12; refine (Name_any _ (by first | exact HA.out | exact HB.out) _).mono ?_; rintro e w' ⟨rfl, hb⟩)
      | (go_at_call 14; refine (refName_any _ HA.out _).mono ?_; rintro e w' ⟨rfl, rfl⟩)
      | (go_at_call 13; refine (HR.out _).mono ?_; rintro e w' ⟨rfl, rfl⟩)
      | (go_at_call 11; with_reducible refine (Number_name _ HA.out _).mono ?_; rintro e w' ⟨rfl, hb⟩)
      | (go_at_call 11; with_reducible refine (Number_hex s d HS.out HD.out HK.out _).mono ?_; rintro e w' ⟨rfl, hb⟩))
    go_ret
    refine ⟨by simp, ?_⟩
    repeat (first | exact bel_rfl | assumption | refine bel_trans ?_ (by assumption))
  · have hno : ∀ d, s.data.toList = 119 :: d → d.length = 16 → hexk d = false := by
      intro d h1 h2
      cases h3 : hexk d
      · rfl
      · exact absurd ⟨d, h1, h2, h3⟩ hyes
    have HNO := Lib.hid hno
    have hR : ∃ v : Nat, ∀ w, Calls Try.prog 13 #[.string s] w fun e w' => e = .returned (.tuple #[.int .u64 (v : Int), .bool false]) ∧ w = w' := by
      by_cases hl : s.data.toList.length = 17
      · obtain ⟨c0, d, hs⟩ : ∃ c0 d, s.data.toList = c0 :: d := by
          cases hh : s.data.toList with
          | nil => rw [hh] at hl; simp at hl
          | cons c d => exact ⟨c, d, rfl⟩
        have hd : d.length = 16 := by rw [hs] at hl; simpa using hl
        refine ⟨hv d, fun w => ?_⟩
        have := refNumber_any s d c0 hs hd w
        rw [name_beq c0 d hd] at this
        have hf : (c0 == 119 && hexk d) = false := by
          by_cases hc : c0 = 119
          · subst hc; simp [hno d hs hd]
          · simp [hc]
        rw [hf] at this
        exact this
      · exact ⟨0, fun w => refNumber_no s hl w⟩
    obtain ⟨v, hR⟩ := hR
    have HR := Lib.hid hR
    clear hR hno hyes
    go_enter Try.func3, Try.ntmps3
    go_wp2_with (first
      | (go_at_call 10; refine (awake13 _).mono ?_; rintro e w' ⟨rfl, hb⟩)
      | (go_at_call 12; refine (Name_any _ (by first | exact HA.out | exact HB.out) _).mono ?_; rintro e w' ⟨rfl, hb⟩)
      | (go_at_call 14; refine (refName_any _ HA.out _).mono ?_; rintro e w' ⟨rfl, rfl⟩)
      | (go_at_call 13; refine (HR.out _).mono ?_; rintro e w' ⟨rfl, rfl⟩)
      | (go_at_call 11; with_reducible refine (Number_name _ HA.out _).mono ?_; rintro e w' ⟨rfl, hb⟩)
      | (go_at_call 11; with_reducible refine (Number_no s HNO.out _).mono ?_; rintro e w' ⟨rfl, hb⟩))
    go_ret
    refine ⟨by simp, ?_⟩
    repeat (first | exact bel_rfl | assumption | refine bel_trans ?_ (by assumption))
end Go.Proofs.Ytblpnohfileibaa

/- A region that draws its order, whose callees make memory of their own (Below), walked once in the order of the text. -/
namespace Go.Proofs.Ytblpnohfileibaa
open Go.RowKit

/-- a world behind w in which all that stood is as it was -/
structure Later (w : World) where
  val : World
  b : Below w.heap.size w val
instance (w : World) : Inhabited (Later w) := ⟨⟨w, bel_rfl⟩⟩

theorem wp_region_quiet_later {P : Program} {id : Nat} {Q : Exit → Act → World → Prop} {a : Act} {w : World} {l : List Oper} (hm : P.follows .mixedOrders = true) (hB : Region.lexB .any l.toArray = true)
    (h : wpQuiet P l.toArray (fun w' => ∃ p : Later w, w' = p.val) (fun a' => ∀ w', (∃ p : Later w, w' = p.val) → Q .normal a' w') l a) : (Code.region id l.toArray true).wp P Q a w :=
  wp_region_quiet (C := fun w' => ∃ p : Later w, w' = p.val) hm hB ⟨⟨w.drew, Below.drew (Below.refl _ _)⟩, rfl⟩ (by simpa using h)

/-- a callee that makes memory, met in such a world -/
theorem later_of {P : Program} {f : FuncId} {args : Array Value} {w : World} {p : Later w} {v : Value} (h : Calls P f args p.val fun e w' => e = .returned v ∧ Below p.val.heap.size p.val w') :
    Calls P f args p.val fun e w'' => e = .returned v ∧ ∃ q : Later w, w'' = q.val :=
  h.mono fun _ w' ⟨he, hb⟩ => ⟨he, ⟨w', bel_trans p.b hb⟩, rfl⟩
theorem later_same {P : Program} {f : FuncId} {args : Array Value} {w : World} {p : Later w} {v : Value} (h : Calls P f args p.val fun e w' => e = .returned v ∧ p.val = w') :
    Calls P f args p.val fun e w'' => e = .returned v ∧ ∃ q : Later w, w'' = q.val :=
  h.mono fun _ w' ⟨he, hb⟩ => ⟨he, p, hb.symm⟩
theorem later_cell {w : World} {a : Addr} {v : Value} (h : w.cell? a = some v) (p : Later w) : p.val.cell? a = some v := (p.b.cell (cell_lt h)).trans h
end Go.Proofs.Ytblpnohfileibaa

/- The law SegTorn, walked. -/
namespace Go.Proofs.Ytblpnohfileibaa
open Go.RowKit

theorem info_sl : (Try.prog.info? 32).map (fun i => (i.zero, i.size, i.bytes)) = some (some (.slice none 0 0), 1, 24) := by kernel_rfl

/-- the cells of a record that came in -/
def RecAt (w : World) (b o : Nat) (r : Rec) : Prop :=
  w.cell? ⟨b, o, none⟩ = some (.int .u64 r.seq) ∧ w.cell? ⟨b, o + 1, none⟩ = some (.int .i64 r.kind) ∧ w.cell? ⟨b, o + 2, none⟩ = some (.string r.tenant) ∧
  w.cell? ⟨b, o + 3, none⟩ = some (.int .u64 r.lease) ∧ w.cell? ⟨b, o + 4, none⟩ = some (.int .u64 r.n) ∧ w.cell? ⟨b, o + 5, none⟩ = some (.int .u64 r.bits)
theorem recs_at {w : World} {A : Option Addr} {n : Nat} {rs : List Rec} (h : Rows 6 recCells w A n rs) {k : Nat} (hk : k < n) : ∃ b o r, A = some ⟨b, o, none⟩ ∧ rs[k]? = some r ∧ RecAt w b (o + k * 6) r := by
  obtain ⟨b, o, r, e, hr, hc⟩ := h.at_ hk
  refine ⟨b, o, r, e, hr, ?_⟩
  have g : ∀ i u, (recCells r)[i]? = some u → w.cell? ⟨b, o + k * 6 + i, none⟩ = some u := fun i u hu => by rw [Nat.add_assoc]; exact hc i u hu
  exact ⟨by simpa using g 0 _ rfl, g 1 _ rfl, g 2 _ rfl, g 3 _ rfl, g 4 _ rfl, g 5 _ rfl⟩
theorem RecAt.below {w w' : World} {b o : Nat} {r : Rec} (h : RecAt w b o r) (hb : Below w.heap.size w w') : RecAt w' b o r := by
  obtain ⟨h0, h1, h2, h3, h4, h5⟩ := h
  have g : ∀ {p u}, w.cell? p = some u → w'.cell? p = some u := fun hu => (hb.cell (cell_lt hu)).trans hu
  exact ⟨g h0, g h1, g h2, g h3, g h4, g h5⟩

theorem al1 (w : World) (o : Obj) : Below w.heap.size w (w.alloc o) := (Below.refl _ _).alloc (Nat.le_refl _) _
theorem rows_take {k : Nat} {α : Type} {enc : α → List Value} {w : World} {A : Option Addr} {n m : Nat} {l : List α} (h : Rows k enc w A n l) (hm : m ≤ n) : Rows k enc w A m (l.take m) := by
  obtain ⟨h1, h2, h3⟩ := h
  refine ⟨by rw [List.length_take]; omega, h2, fun h0 => ?_⟩
  obtain ⟨b, o, e, hc⟩ := h3 (by omega)
  refine ⟨b, o, e, fun j a ha => hc j a ?_⟩
  rw [List.getElem?_take] at ha
  split at ha
  · exact ha
  · cases ha

theorem flat_pos (r : Rec) : 6 ≤ (boxR r).length := by rw [boxR, boxB_len]; omega
theorem tail_full {rs : List Rec} {k : Nat} {segs : List (List Rec)} {last : List Rec} {lb : List UInt8} (h : TP rs k segs last) (hlb : lb = last.flatMap boxR) {j : Nat} (hj : j ≤ last.length) (hp : lb.length ≤ ((last.take j).flatMap boxR).length) : j = last.length := by
  rcases Nat.lt_or_ge j last.length with hlt | hge
  · exfalso
    have e : last.flatMap boxR = (last.take j).flatMap boxR ++ (boxR last[j] ++ (last.drop (j + 1)).flatMap boxR) := by
      rw [← List.flatMap_cons, ← List.drop_eq_getElem_cons hlt, ← List.flatMap_append, List.take_append_drop]
    have := flat_pos last[j]
    rw [hlb, e, List.length_append, List.length_append] at hp
    omega
  · omega

theorem tail_lt {last : List Rec} {lb : List UInt8} (hlb : lb = last.flatMap boxR) {j : Nat} (hj : j ≤ last.length) (hp : ((last.take j).flatMap boxR).length < lb.length) : j < last.length := by
  rcases Nat.lt_or_ge j last.length with h | h
  · exact h
  · rw [List.take_of_length_le h, ← hlb] at hp
    omega
theorem tail_at {rs : List Rec} {n : Nat} {segs : List (List Rec)} {last : List Rec} (h : TP rs n segs last) (hrl : rs.length = n) {q j z : Nat} (hq : q = segs.flatten.length) (hz : z = q + j) (hj : j < last.length) {r : Rec} (hr : rs[z]? = some r) : last[j]? = some r := by
  have e := h.cat
  rw [← hrl, List.take_length] at e
  rw [← e, hz, hq, List.getElem?_append_right (by omega), Nat.add_sub_cancel_left] at hr
  exact hr
theorem tail_step {last : List Rec} {j : Nat} {r : Rec} (h : last[j]? = some r) : ((last.take (j + 1)).flatMap boxR).length = ((last.take j).flatMap boxR).length + (boxR r).length := by
  rw [List.take_add_one, h, List.flatMap_append, List.length_append]
  simp

/-- the tail of the law: what seg.Records answers -/
theorem tail_recs {w wr w2 : World} {sv : Value} {A9 : Option Addr} {n c9 q j m z : Nat} {hs : List Hd} {lb : List UInt8} {rs : List Rec} {segs : List (List Rec)} {last : List Rec}
    (hts : TS w sv (.slice A9 lb.length c9) hs lb wr) (hb2 : Below wr.heap.size wr w2) (htp : TP rs n segs last) (hmap : hs.map (·.l) = segs.map (fun s => s.flatMap boxR)) (hrl : rs.length = n) (hok : ∀ r ∈ rs, RecOk r)
    (hlb : lb = last.flatMap boxR) (hq : q = segs.flatten.length) (hz : z = q + j) (hj : j ≤ last.length) (h1 : ((last.take j).flatMap boxR).length ≤ m) (hm : m ≤ lb.length) (h3 : j = last.length ∨ m < ((last.take (j + 1)).flatMap boxR).length) :
    ∀ (A8 : Option Addr) (c8 : Nat) (w8 : World), w8.ownsRow w.heap.size 32 1 (.slice A8 (hs.length + 1) c8) (hs.length + 1) (hs.flatMap hdCells ++ [.slice A9 m c9]) → (w2.alloc (.cells #[.slice A9 m c9] 32)).grownBy w8 sv.ownBlock → hs.length ≤ 60 → lb.length ≤ 3360 →
    Below w.heap.size w w8 ∧ ∀ w', Below w8.heap.size w8 w' → Calls Try.prog 19 #[.slice A8 (hs.length + 1) c8] w' fun e w'' => ∃ A c, e = .returned (.slice A z c) ∧ Rows 6 recCells w'' A z (rs.take z) ∧ z ≤ c ∧ Below w'.heap.size w' w'' := by
  intro A8 c8 w8 hown hg hhl hll
  subst hz
  have hp := ((hts.below hb2).below (al1 w2 (.cells #[.slice A9 m c9] 32))).push hm (by omega) hown hg
  refine ⟨hp.b, fun w' hb => ?_⟩
  have hp' := hp.below hb
  have hrow : Rows 1 hdCells w' A8 (hs.length + 1) (hs ++ [⟨A9, m, c9, lb.take m⟩]) := by
    have := hp'.s
    rw [List.length_append] at this
    exact Rows.of_rd (fun _ => rfl) (by simp) (own_rd this)
  have hR := Records_any A8 (hs.length + 1) c8 _ w' ⟨hrow, fun h hh => by obtain ⟨a, b, c, d⟩ := hp'.ok h hh; exact ⟨a, by omega, d⟩⟩ (by omega)
  have hplain : segsS (true, 0) ((hs ++ [(⟨A9, m, c9, lb.take m⟩ : Hd)]).map (·.l)) = rs.take (q + j) := by
    rw [List.map_append, List.map_cons, List.map_nil, hmap, hq]
    simp only
    rw [hlb] at hm ⊢
    subst hrl
    exact torn_plain htp hok j m hj h1 hm h3 _ rfl
  unfold RecsR at hR
  rw [hplain] at hR
  have hlen : (rs.take (q + j)).length = q + j := by
    rw [List.length_take]
    have := htp.len (by omega)
    omega
  rw [hlen] at hR
  exact hR

theorem keepR {w w1 w2 : World} {b o : Nat} {r : Rec} (h : RecAt w1 b o r) (hb0 : Below w.heap.size w w1) (hb : Below w1.heap.size w1 w2) :
    w2.cell? ⟨b, o, none⟩ = some (.int .u64 r.seq) ∧ w2.cell? ⟨b, o + 1, none⟩ = some (.int .i64 r.kind) ∧ w2.cell? ⟨b, o + 2, none⟩ = some (.string r.tenant) ∧
    w2.cell? ⟨b, o + 3, none⟩ = some (.int .u64 r.lease) ∧ w2.cell? ⟨b, o + 4, none⟩ = some (.int .u64 r.n) ∧ w2.cell? ⟨b, o + 5, none⟩ = some (.int .u64 r.bits) ∧ Below w.heap.size w w2 := by
  obtain ⟨h0, h1, h2, h3, h4, h5⟩ := h.below hb
  exact ⟨h0, h1, h2, h3, h4, h5, bel_trans hb0 hb⟩

set_option maxHeartbeats 4000000 in
set_option maxRecDepth 100000 in
theorem torn_any (A A2 : Option Addr) (n c n2 c2 : Nat) (rs : List Rec) (cuts : List UInt8) (m : Int) (w : World) (h : Rows 6 recCells w A n rs) (hok : ∀ r ∈ rs, RecOk r) (hn' : n ≤ 140737488355328) (hcap : n ≤ c) (h2 : By w A2 n2 cuts) (hn2' : n2 ≤ 140737488355328) :
    Calls Try.prog 4 #[.slice A n c, .slice A2 n2 c2, .int .i64 m] w fun e w' => e = .returned (.bool true) ∧ Below w.heap.size w w' := by
  have hL := refLarge_any A n c rs w h hn' hcap
  have HLR := Lib.hid hL
  have HR := Lib.hid h
  have HC := Lib.hid h2
  have HOK := Lib.hid hok
  clear hL h h2 hok
  obtain ⟨i0', hi, hz0, hz1, hz2⟩ := info_parts info_sl
  by_cases hbad : n2 ≤ 60 ∧ 0 ≤ m
  · obtain ⟨hn2, hm0⟩ := hbad
    obtain ⟨m, rfl⟩ := Int.eq_ofNat_of_zero_le hm0
    go_enter Try.func4, Try.ntmps4
    go_wp2_with (first
      | (go_at_call 15; refine HLR.out.mono ?_; rintro e w1 ⟨b, rfl, hlarge, hb1⟩; cases b)
      | (go_at_call 10; refine (awake13 _).mono ?_; rintro e w2 ⟨rfl, hb2⟩))
    · have hn : n ≤ 60 := (hlarge trivial).1
      clear hlarge hn' hn2'
      go_loopw [7, 8, 9, 10] (fun s l wh i wr => ∃ (sv lv : Value) (k q : Nat) (segs : List (List Rec)) (last : List Rec) (hs : List Hd) (lb : List UInt8), sv = s ∧ lv = l ∧ k ≤ n ∧ wh = .int .i64 q ∧ i = .int .i64 k ∧
        TS w1 sv lv hs lb wr ∧ TP rs k segs last ∧ hs.map (·.l) = segs.map (fun s => s.flatMap boxR) ∧ hs.length ≤ k ∧ lb = last.flatMap boxR ∧ q = segs.flatten.length) (fun _ _ _ i _ => n - (intOf i).toNat)
      case atStart =>
        exact ⟨_, _, 0, 0, [], [], [], [], rfl, rfl, Nat.zero_le _, rfl, rfl, TS.start w1, ⟨by simp, fun j r hj => absurd hj (Nat.not_lt_zero _), fun j a b hj => absurd hj (Nat.not_lt_zero _)⟩, rfl, Nat.le_refl _, rfl, rfl⟩
      case round =>
        obtain ⟨sv, lv, k, q, segs, last, hs, lb, rfl, rfl, hk, rfl, rfl, hts, htp, hmap, hsl, hlb, hq⟩ := hrel
        have hbw : Below w.heap.size w wr := bel_trans hb1 hts.b
        have hRL : rs.length = n := HR.out.1
        have hll : lb.length ≤ 3360 := by
          have h1 := flat_len_le last htp.last_chk
          have h2 := htp.len (by omega)
          rw [hlb]; omega
        have hqk : segs.flatten.length + last.length = k := htp.len (by omega)
        have HTS := Lib.hid hts
        have HTP := Lib.hid htp
        have HMAP := Lib.hid hmap
        have HLB := Lib.hid hlb
        have HQ := Lib.hid hq
        have HQK := Lib.hid hqk
        have HRL := Lib.hid hRL
        obtain ⟨A9, c9, rfl, hc9, _⟩ := own_slice hts.l
        clear hts htp hmap hlb hq hqk hRL
        by_cases hlt : k < n
        · obtain ⟨b, o, r, rfl, hr, hc⟩ := recs_at HR.out hlt
          have hro := HOK.out r (List.mem_of_getElem? hr)
          have HCK := Lib.hid (fun w' => refCheck_any r hro w')
          have HRK := Lib.hid hr
          have HRO := Lib.hid hro
          have HC0 := Lib.hid hc
          obtain ⟨q0, q1, q2, q3, q4, q5⟩ := hc.below hbw
          have g0 := later_cell q0
          have g1 := later_cell q1
          have g2 := later_cell q2
          have g3 := later_cell q3
          have g4 := later_cell q4
          have g5 := later_cell q5
          have i0 : (0 : Int) ≤ (k : Int) := by omega
          have i1 : (k : Int) < (n : Int) := by omega
          clear hr hro hc q0 q1 q2 q3 q4 q5
          by_cases hck : checkR r = 0
          · have hbx := fun w' => refBox_any r hck HRO.out w'
            have HBX := Lib.hid hbx
            have hbl := recB_len hck
            have hbl2 : (boxR r).length ≤ 56 := by rw [boxR, boxB_len]; omega
            have HCKR := Lib.hid hck
            rw [hck] at HCK
            clear hbx hbl hck
            by_cases hk0 : k = 0
            · have hseq := Lib.hid (show ∀ a, 0 < k → rs[k - 1]? = some a → r.seq = (a.seq + 1) % 18446744073709551616 from fun a h => by omega)
              have d0 : decide ((0 : Int) < (k : Int)) = false := by rw [decide_eq_false_iff_not]; omega
              have d1 : decide (0 < k) = false := by rw [decide_eq_false_iff_not]; omega
              clear hk0
              by_cases hk2 : k < n2
              · have hk2' : decide ((k : Nat) < n2) = true := by simpa using hk2
                by_cases hcu : ∀ x, cuts[k]? = some x → ((x.toNat : Int) % 3 == 0) = true
                · have hcut := hcu
                  clear hcu
                  have HCUT := Lib.hid hcut
                  clear hcut
                  go_wp2
                  refine wp_region_quiet_later (by kernel_rfl) (by kernel_rfl) ?_
                  repeat (go_big_quiet_step (first | (go_at_call 16; exact later_of (HCK.out _))))
                  refine wpQuiet_nil ?_
                  intro wq hw'
                  obtain ⟨⟨wq2, hbq⟩, hw''⟩ := hw'
                  dsimp only at hw''
                  subst hw''
                  have HTQ := Lib.hid (HTS.out.below hbq)
                  have hbwq := bel_trans hbw hbq
                  obtain ⟨b2, o2, rfl, x, hx, hcx⟩ := By.at_ (Rd.below HC.out hbwq) (show k < n2 from hk2)
                  have HX := Lib.hid hx
                  clear hx
                  have hx3 := (HCUT.out x HX.out)
                  go_wp2_with (first
                    | (at_builtin; refine wpList_append_rd _ rfl (.tmp 78) (.tmp 80) 34 rfl w1.heap.size 32 i0' (.slice none 0 0) 1 24 Try.underlying34 hi hz0 hz1 hz2 rfl (by decide) sv hs.length (hs.flatMap hdCells) rfl (HTQ.out.below (al1 _ _)).s (some ⟨wq.heap.size, 0, none⟩) 1 1 [.slice A9 lb.length c9] rfl (Rd.lit wq 1 1 #[.slice A9 lb.length c9] _ rfl) (by simp [Value.oneCell']) (by unfold maxLen; omega) (by omega) (by have := (HTQ.out.below (al1 wq (.cells #[.slice A9 lb.length c9] 32))).b.size; exact this) ?_; intro A8 c8 w8 hown hg hblk; have H8 := Lib.hid ((HTQ.out.below (al1 _ _)).push (m := lb.length) (Nat.le_refl _) (by omega) hown hg); obtain ⟨e0, e1, e2, e3, e4, e5⟩ := HC0.out.below (bel_trans hb1 H8.out.b); clear hown hg hblk)
                    | (go_at_call 17; (with_reducible refine (HBX.out _).mono ?_); rintro e w5 ⟨A5, c5, rfl, hby5, hb5⟩; have HBY5 := Lib.hid hby5; have HT5 := Lib.hid (H8.out.below hb5); clear hby5 hb5)
                    | (at_builtin; refine app_u8 _ rfl (.tmp 83) (.tmp 88) rfl w1.heap.size (.slice none 0 0) 0 [] rfl HT5.out.l A5 (boxR r).length c5 ((boxR r).map bv) rfl HBY5.out (bv_oneCell _) (by omega) HT5.out.b.size ?_; intro A6 c6 w6 hown hg hblk; have h6 := HT5.out.add (bx := boxR r) (by simpa using hown) hg hblk; rw [Nat.zero_add] at h6; have HT6 := Lib.hid h6; clear hown hg hblk h6))
                  go_roundw
                  case rel =>
                    exact ⟨_, _, _, _, segs ++ [last], [] ++ [r], _, _, rfl, rfl, by omega, rfl, by go_num, HT6.out, HTP.out.cut.step HRK.out HCKR.out hseq.out, by rw [List.map_append, List.map_append, HMAP.out, List.take_length, HLB.out]; rfl, by simp; omega, by simp, by have := HQK.out; simp at this ⊢; omega⟩
                  case measure => simp [intOf]; omega
                · have HCUT := Lib.hid (show ∀ x, cuts[k]? = some x → ((x.toNat : Int) % 3 == 0) = false from fun x hx => by
                    cases h : ((x.toNat : Int) % 3 == 0) with
                    | false => rfl
                    | true => exact absurd (fun y hy => by rw [hx] at hy; cases hy; exact h) hcu)
                  clear hcu
                  go_wp2
                  refine wp_region_quiet_later (by kernel_rfl) (by kernel_rfl) ?_
                  repeat (go_big_quiet_step (first | (go_at_call 16; exact later_of (HCK.out _))))
                  refine wpQuiet_nil ?_
                  intro wq hw'
                  obtain ⟨⟨wq2, hbq⟩, hw''⟩ := hw'
                  dsimp only at hw''
                  subst hw''
                  have HTQ := Lib.hid (HTS.out.below hbq)
                  have hbwq := bel_trans hbw hbq
                  obtain ⟨b2, o2, rfl, x, hx, hcx⟩ := By.at_ (Rd.below HC.out hbwq) (show k < n2 from hk2)
                  have HX := Lib.hid hx
                  clear hx
                  have hx3 := (HCUT.out x HX.out)
                  obtain ⟨e0, e1, e2, e3, e4, e5⟩ := HC0.out.below hbwq
                  go_wp2_with (first
                    | (go_at_call 17; (with_reducible refine (HBX.out _).mono ?_); rintro e w5 ⟨A5, c5, rfl, hby5, hb5⟩; have HBY5 := Lib.hid hby5; have HT5 := Lib.hid (HTQ.out.below hb5); clear hby5 hb5)
                    | (at_builtin; refine app_u8 _ rfl (.tmp 83) (.tmp 88) rfl w1.heap.size (.slice A9 lb.length c9) lb.length (lb.map bv) rfl HT5.out.l A5 (boxR r).length c5 ((boxR r).map bv) rfl HBY5.out (bv_oneCell _) (by omega) HT5.out.b.size ?_; intro A6 c6 w6 hown hg hblk; have HT6 := Lib.hid (HT5.out.add (bx := boxR r) hown hg hblk); clear hown hg hblk))
                  go_roundw
                  case rel =>
                    exact ⟨_, _, _, _, segs, last ++ [r], _, _, rfl, rfl, by omega, rfl, by go_num, HT6.out, HTP.out.step HRK.out HCKR.out hseq.out, HMAP.out, by omega, by rw [HLB.out]; simp, HQ.out⟩
                  case measure => simp [intOf]; omega
              · have hk2' : decide ((k : Nat) < n2) = false := by simpa using hk2
                go_wp2
                refine wp_region_quiet_later (by kernel_rfl) (by kernel_rfl) ?_
                repeat (go_big_quiet_step (first | (go_at_call 16; exact later_of (HCK.out _))))
                refine wpQuiet_nil ?_
                intro wq hw'
                obtain ⟨⟨wq2, hbq⟩, hw''⟩ := hw'
                dsimp only at hw''
                subst hw''
                have HTQ := Lib.hid (HTS.out.below hbq)
                have hbwq := bel_trans hbw hbq
                obtain ⟨e0, e1, e2, e3, e4, e5⟩ := HC0.out.below hbwq
                go_wp2_with (first
                  | (go_at_call 17; (with_reducible refine (HBX.out _).mono ?_); rintro e w5 ⟨A5, c5, rfl, hby5, hb5⟩; have HBY5 := Lib.hid hby5; have HT5 := Lib.hid (HTQ.out.below hb5); clear hby5 hb5)
                  | (at_builtin; refine app_u8 _ rfl (.tmp 83) (.tmp 88) rfl w1.heap.size (.slice A9 lb.length c9) lb.length (lb.map bv) rfl HT5.out.l A5 (boxR r).length c5 ((boxR r).map bv) rfl HBY5.out (bv_oneCell _) (by omega) HT5.out.b.size ?_; intro A6 c6 w6 hown hg hblk; have HT6 := Lib.hid (HT5.out.add (bx := boxR r) hown hg hblk); clear hown hg hblk))
                go_roundw
                case rel =>
                  exact ⟨_, _, _, _, segs, last ++ [r], _, _, rfl, rfl, by omega, rfl, by go_num, HT6.out, HTP.out.step HRK.out HCKR.out hseq.out, HMAP.out, by omega, by rw [HLB.out]; simp, HQ.out⟩
                case measure => simp [intOf]; omega
            · obtain ⟨k', rfl⟩ : ∃ k', k = k' + 1 := ⟨k - 1, by omega⟩
              clear hk0
              obtain ⟨b', o', p, eb, hp, hcp⟩ := recs_at HR.out (show k' < n by omega)
              cases eb
              have HP := Lib.hid hp
              have hpo := (HOK.out p (List.mem_of_getElem? hp)).1
              have p0 := later_cell (hcp.below hbw).1
              have j0 : (0 : Int) ≤ (k' : Int) := by omega
              have j1 : (k' : Int) < (n : Int) := by omega
              have j2 : (0 : Int) < (k' : Int) + 1 := by omega
              clear hp hcp
              by_cases hmax : p.seq = 18446744073709551615
              · have hm1 : ((p.seq : Int) == 18446744073709551615) = true := by rw [hmax]; rfl
                clear hmax
                go_wp2
                refine wp_region_quiet_later (by kernel_rfl) (by kernel_rfl) ?_
                repeat (go_big_quiet_step (first | (go_at_call 16; exact later_of (HCK.out _))))
                refine wpQuiet_nil ?_
                intro wq hw'
                obtain ⟨⟨wq2, hbq⟩, hw''⟩ := hw'
                dsimp only at hw''
                subst hw''
                go_wp2_with (go_at_call 10; refine (awake13 _).mono ?_; rintro e w4 ⟨rfl, hb4⟩)
                go_ret
                exact ⟨by simp, bel_trans hbw (bel_trans hbq hb4)⟩
              · have hm1 : ((p.seq : Int) == 18446744073709551615) = false := by rw [beq_eq_false_iff_ne]; omega
                have hwr : IntKind.u64.wrap ((p.seq : Int) + 1) = ((p.seq + 1 : Nat) : Int) := by rw [show ((p.seq : Int) + 1) = ((p.seq + 1 : Nat) : Int) from rfl]; exact wu64 _ (by omega)
                by_cases hs1 : r.seq = p.seq + 1
                · have hm2 : ((r.seq : Int) != ((p.seq + 1 : Nat) : Int)) = false := by rw [hs1]; simp
                  have hm3 : ((r.seq : Int) != (p.seq : Int) + 1) = false := by rw [hs1]; simp
                  have hseq := Lib.hid (show ∀ a, 0 < k' + 1 → rs[k' + 1 - 1]? = some a → r.seq = (a.seq + 1) % 18446744073709551616 from fun a _ ha => by
                    rw [Nat.add_sub_cancel, HP.out] at ha; cases ha; rw [hs1]; omega)
                  clear hs1 hmax
                  by_cases hk2 : k' + 1 < n2
                  · have hk2' : decide ((k' + 1 : Nat) < n2) = true := by simpa using hk2
                    by_cases hcu : ∀ x, cuts[k' + 1]? = some x → ((x.toNat : Int) % 3 == 0) = true
                    · have hcut := hcu
                      clear hcu
                      have HCUT := Lib.hid hcut
                      clear hcut
                      go_wp2
                      refine wp_region_quiet_later (by kernel_rfl) (by kernel_rfl) ?_
                      repeat (go_big_quiet_step (first | (go_at_call 16; exact later_of (HCK.out _))))
                      refine wpQuiet_nil ?_
                      intro wq hw'
                      obtain ⟨⟨wq2, hbq⟩, hw''⟩ := hw'
                      dsimp only at hw''
                      subst hw''
                      have HTQ := Lib.hid (HTS.out.below hbq)
                      have hbwq := bel_trans hbw hbq
                      obtain ⟨b2, o2, rfl, x, hx, hcx⟩ := By.at_ (Rd.below HC.out hbwq) (show k' + 1 < n2 from hk2)
                      have HX := Lib.hid hx
                      clear hx
                      have hx3 := (HCUT.out x HX.out)
                      go_wp2_with (first
                        | (at_builtin; refine wpList_append_rd _ rfl (.tmp 78) (.tmp 80) 34 rfl w1.heap.size 32 i0' (.slice none 0 0) 1 24 Try.underlying34 hi hz0 hz1 hz2 rfl (by decide) sv hs.length (hs.flatMap hdCells) rfl (HTQ.out.below (al1 _ _)).s (some ⟨wq.heap.size, 0, none⟩) 1 1 [.slice A9 lb.length c9] rfl (Rd.lit wq 1 1 #[.slice A9 lb.length c9] _ rfl) (by simp [Value.oneCell']) (by unfold maxLen; omega) (by omega) (by have := (HTQ.out.below (al1 wq (.cells #[.slice A9 lb.length c9] 32))).b.size; exact this) ?_; intro A8 c8 w8 hown hg hblk; have H8 := Lib.hid ((HTQ.out.below (al1 _ _)).push (m := lb.length) (Nat.le_refl _) (by omega) hown hg); obtain ⟨e0, e1, e2, e3, e4, e5⟩ := HC0.out.below (bel_trans hb1 H8.out.b); clear hown hg hblk)
                        | (go_at_call 17; (with_reducible refine (HBX.out _).mono ?_); rintro e w5 ⟨A5, c5, rfl, hby5, hb5⟩; have HBY5 := Lib.hid hby5; have HT5 := Lib.hid (H8.out.below hb5); clear hby5 hb5)
                        | (at_builtin; refine app_u8 _ rfl (.tmp 83) (.tmp 88) rfl w1.heap.size (.slice none 0 0) 0 [] rfl HT5.out.l A5 (boxR r).length c5 ((boxR r).map bv) rfl HBY5.out (bv_oneCell _) (by omega) HT5.out.b.size ?_; intro A6 c6 w6 hown hg hblk; have h6 := HT5.out.add (bx := boxR r) (by simpa using hown) hg hblk; rw [Nat.zero_add] at h6; have HT6 := Lib.hid h6; clear hown hg hblk h6))
                      go_roundw
                      case rel =>
                        exact ⟨_, _, _, _, segs ++ [last], [] ++ [r], _, _, rfl, rfl, by omega, rfl, by go_num, HT6.out, HTP.out.cut.step HRK.out HCKR.out hseq.out, by rw [List.map_append, List.map_append, HMAP.out, List.take_length, HLB.out]; rfl, by simp; omega, by simp, by have := HQK.out; simp at this ⊢; omega⟩
                      case measure => simp [intOf]; omega
                    · have HCUT := Lib.hid (show ∀ x, cuts[k' + 1]? = some x → ((x.toNat : Int) % 3 == 0) = false from fun x hx => by
                        cases h : ((x.toNat : Int) % 3 == 0) with
                        | false => rfl
                        | true => exact absurd (fun y hy => by rw [hx] at hy; cases hy; exact h) hcu)
                      clear hcu
                      go_wp2
                      refine wp_region_quiet_later (by kernel_rfl) (by kernel_rfl) ?_
                      repeat (go_big_quiet_step (first | (go_at_call 16; exact later_of (HCK.out _))))
                      refine wpQuiet_nil ?_
                      intro wq hw'
                      obtain ⟨⟨wq2, hbq⟩, hw''⟩ := hw'
                      dsimp only at hw''
                      subst hw''
                      have HTQ := Lib.hid (HTS.out.below hbq)
                      have hbwq := bel_trans hbw hbq
                      obtain ⟨b2, o2, rfl, x, hx, hcx⟩ := By.at_ (Rd.below HC.out hbwq) (show k' + 1 < n2 from hk2)
                      have HX := Lib.hid hx
                      clear hx
                      have hx3 := (HCUT.out x HX.out)
                      obtain ⟨e0, e1, e2, e3, e4, e5⟩ := HC0.out.below hbwq
                      go_wp2_with (first
                        | (go_at_call 17; (with_reducible refine (HBX.out _).mono ?_); rintro e w5 ⟨A5, c5, rfl, hby5, hb5⟩; have HBY5 := Lib.hid hby5; have HT5 := Lib.hid (HTQ.out.below hb5); clear hby5 hb5)
                        | (at_builtin; refine app_u8 _ rfl (.tmp 83) (.tmp 88) rfl w1.heap.size (.slice A9 lb.length c9) lb.length (lb.map bv) rfl HT5.out.l A5 (boxR r).length c5 ((boxR r).map bv) rfl HBY5.out (bv_oneCell _) (by omega) HT5.out.b.size ?_; intro A6 c6 w6 hown hg hblk; have HT6 := Lib.hid (HT5.out.add (bx := boxR r) hown hg hblk); clear hown hg hblk))
                      go_roundw
                      case rel =>
                        exact ⟨_, _, _, _, segs, last ++ [r], _, _, rfl, rfl, by omega, rfl, by go_num, HT6.out, HTP.out.step HRK.out HCKR.out hseq.out, HMAP.out, by omega, by rw [HLB.out]; simp, HQ.out⟩
                      case measure => simp [intOf]; omega
                  · have hk2' : decide ((k' + 1 : Nat) < n2) = false := by simpa using hk2
                    go_wp2
                    refine wp_region_quiet_later (by kernel_rfl) (by kernel_rfl) ?_
                    repeat (go_big_quiet_step (first | (go_at_call 16; exact later_of (HCK.out _))))
                    refine wpQuiet_nil ?_
                    intro wq hw'
                    obtain ⟨⟨wq2, hbq⟩, hw''⟩ := hw'
                    dsimp only at hw''
                    subst hw''
                    have HTQ := Lib.hid (HTS.out.below hbq)
                    have hbwq := bel_trans hbw hbq
                    obtain ⟨e0, e1, e2, e3, e4, e5⟩ := HC0.out.below hbwq
                    go_wp2_with (first
                      | (go_at_call 17; (with_reducible refine (HBX.out _).mono ?_); rintro e w5 ⟨A5, c5, rfl, hby5, hb5⟩; have HBY5 := Lib.hid hby5; have HT5 := Lib.hid (HTQ.out.below hb5); clear hby5 hb5)
                      | (at_builtin; refine app_u8 _ rfl (.tmp 83) (.tmp 88) rfl w1.heap.size (.slice A9 lb.length c9) lb.length (lb.map bv) rfl HT5.out.l A5 (boxR r).length c5 ((boxR r).map bv) rfl HBY5.out (bv_oneCell _) (by omega) HT5.out.b.size ?_; intro A6 c6 w6 hown hg hblk; have HT6 := Lib.hid (HT5.out.add (bx := boxR r) hown hg hblk); clear hown hg hblk))
                    go_roundw
                    case rel =>
                      exact ⟨_, _, _, _, segs, last ++ [r], _, _, rfl, rfl, by omega, rfl, by go_num, HT6.out, HTP.out.step HRK.out HCKR.out hseq.out, HMAP.out, by omega, by rw [HLB.out]; simp, HQ.out⟩
                    case measure => simp [intOf]; omega
                · have hm2 : ((r.seq : Int) != ((p.seq + 1 : Nat) : Int)) = true := by rw [bne_iff_ne]; omega
                  have hm3 : ((r.seq : Int) != (p.seq : Int) + 1) = true := by rw [bne_iff_ne]; omega
                  clear hs1 hmax
                  go_wp2
                  refine wp_region_quiet_later (by kernel_rfl) (by kernel_rfl) ?_
                  repeat (go_big_quiet_step (first | (go_at_call 16; exact later_of (HCK.out _))))
                  refine wpQuiet_nil ?_
                  intro wq hw'
                  obtain ⟨⟨wq2, hbq⟩, hw''⟩ := hw'
                  dsimp only at hw''
                  subst hw''
                  go_wp2_with (go_at_call 10; refine (awake13 _).mono ?_; rintro e w4 ⟨rfl, hb4⟩)
                  go_ret
                  exact ⟨by simp, bel_trans hbw (bel_trans hbq hb4)⟩
          · have hck' : (checkR r != 0) = true := by simpa using hck
            generalize checkR r = cr at HCK hck'
            clear hck
            go_wp2
            refine wp_region_quiet_later (by kernel_rfl) (by kernel_rfl) ?_
            repeat (go_big_quiet_step (first | (go_at_call 16; exact later_of (HCK.out _))))
            refine wpQuiet_nil ?_
            intro wq hw'
            obtain ⟨⟨wq2, hbq⟩, hw''⟩ := hw'
            dsimp only at hw''
            subst hw''
            go_wp2_with (go_at_call 10; refine (awake13 _).mono ?_; rintro e w4 ⟨rfl, hb4⟩)
            go_ret
            exact ⟨by simp, bel_trans hbw (bel_trans hbq hb4)⟩
        · -- EXIT
          obtain rfl : n = k := by omega
          have hqk := HQK.out
          have hqv : q + last.length = n := by have := HQ.out; omega
          by_cases hm : lb.length < m
          · go_wp2_with (go_at_call 10; refine (awake13 _).mono ?_; rintro e w4 ⟨rfl, hb4⟩)
            go_ret
            exact ⟨by simp, bel_trans hbw hb4⟩
          · have hmle : m ≤ lb.length := by omega
            go_wp2
            obtain ⟨wo, rfl⟩ : ∃ wo : World, wo = wr := ⟨_, rfl⟩
            go_loopw [9, 11] (fun wh at_ w2 => ∃ (j p z : Nat), z = q + j ∧ j ≤ last.length ∧ wh = .int .i64 z ∧ at_ = .int .i64 p ∧ p = ((last.take j).flatMap boxR).length ∧ p ≤ m ∧ Below wo.heap.size wo w2) (fun _ at_ _ => lb.length - (intOf at_).toNat)
            case atStart => exact ⟨0, 0, q, rfl, Nat.zero_le _, rfl, rfl, by simp, Nat.zero_le _, bel_rfl⟩
            case round =>
              obtain ⟨j, p, z, hz, hj, rfl, rfl, hp, hpm, hb2⟩ := hrel
              have hzn : z ≤ n := by omega
              have HZ := Lib.hid hz
              have HP := Lib.hid hp
              clear hp hqk hm hz
              by_cases hpl : p < lb.length
              · have hjl : j < last.length := tail_lt HLB.out hj (by rw [← HP.out]; exact hpl)
                have hzl : z < n := by have := HZ.out; omega
                obtain ⟨b, o, r, rfl, hr, hc⟩ := recs_at HR.out hzl
                have hlj := tail_at HTP.out HRL.out HQ.out HZ.out hjl hr
                have hck := HTP.out.chk z r hzl hr
                have hro := HOK.out r (List.mem_of_getElem? hr)
                have HBX := Lib.hid (fun w' => refBox_any r hck hro w')
                have hbl := recB_len hck
                have hbl2 : (boxR r).length ≤ 56 := by rw [boxR, boxB_len]; omega
                have hbl3 := flat_pos r
                have HST := Lib.hid (tail_step hlj)
                obtain ⟨e0, e1, e2, e3, e4, e5⟩ := hc.below (bel_trans hbw hb2)
                have z0 : (0 : Int) ≤ (z : Int) := by omega
                have z1 : (z : Int) < (n : Int) := by omega
                clear hr hlj hck hro hbl hc
                by_cases hps : m < p + (boxR r).length
                · have HJ1 := Lib.hid (show ((last.take j).flatMap boxR).length ≤ m by rw [← HP.out]; exact hpm)
                  have HJ3 := Lib.hid (show j = last.length ∨ m < ((last.take (j + 1)).flatMap boxR).length from .inr (by rw [HST.out, ← HP.out]; exact hps))
                  have hps' : decide ((m : Int) < (p : Int) + ((boxR r).length : Int)) = true := by rw [decide_eq_true_iff]; omega
                  have HTK := Lib.hid (rows_take HR.out hzn)
                  have s0 : (0 : Int) ≤ (m : Int) := by omega
                  have s1 : m ≤ c9 := by omega
                  have s2 : (m : Int) ≤ (c9 : Int) := by omega
                  have s3 : z ≤ c := by omega
                  have s4 : (z : Int) ≤ (c : Int) := by omega
                  have s5 : (0 : Int) ≤ (z : Int) := by omega
                  go_wp2_with (first
                    | (go_at_call 17; (with_reducible refine (HBX.out _).mono ?_); rintro e w5 ⟨A5, c5, rfl, hby5, hb5⟩; clear hby5; have hb25 := bel_trans hb2 hb5; have HREC := Lib.hid (tail_recs HTS.out hb25 HTP.out HMAP.out HRL.out HOK.out HLB.out HQ.out HZ.out hj HJ1.out hmle HJ3.out))
                    | (at_builtin; refine wpList_append_rd _ rfl (.tmp 115) (.tmp 119) 34 rfl w1.heap.size 32 i0' (.slice none 0 0) 1 24 Try.underlying34 hi hz0 hz1 hz2 rfl (by decide) sv hs.length (hs.flatMap hdCells) rfl ((HTS.out.below hb25).below (al1 _ _)).s (some ⟨w5.heap.size, 0, none⟩) 1 1 [.slice A9 m c9] rfl (Rd.lit w5 1 1 #[.slice A9 m c9] _ rfl) (by simp [Value.oneCell']) (by unfold maxLen; omega) (by omega) (by have := ((HTS.out.below hb25).below (al1 w5 (.cells #[.slice A9 m c9] 32))).b.size; exact this) ?_; intro A8 c8 w8 hown hg hblk; have HR8 := Lib.hid (HREC.out A8 c8 w8 hown hg (by omega) hll); clear hown hg hblk))
                  go_region_held3 (fun w' => Below w8.heap.size w8 w')
                    (first | exact Below.drew bel_rfl | exact bel_rfl | (repeat (first | exact bel_rfl | assumption | exact Below.drew bel_rfl | refine bel_trans ?_ (by assumption))))
                    (first
                      | (go_at_call 19; (with_reducible refine (HR8.out.2 _ ?_).mono ?_); (repeat (first | exact bel_rfl | assumption | exact Below.drew bel_rfl | refine bel_trans ?_ (by assumption))); rintro e w10 ⟨A10, c10, rfl, hrows, hc10, hb10⟩; have hbw8 := HR8.out.1; have HSM := Lib.hid (fun w' (hb : Below w10.heap.size w10 w') (hb' : Below w8.heap.size w8 w') => refSame_any A10 _ z c10 c _ w' (hrows.below hb) (HTK.out.below (bel_trans (bel_trans hb1 hbw8) hb')) (by omega) hc10 s3); clear hrows hc10)
                      | (go_at_call 18; (with_reducible refine (HSM.out _ ?_ ?_).mono ?_); (repeat (first | exact bel_rfl | assumption | exact Below.drew bel_rfl | refine bel_trans ?_ (by assumption))); (repeat (first | exact bel_rfl | assumption | exact Below.drew bel_rfl | refine bel_trans ?_ (by assumption))); rintro e w11 ⟨rfl, hb11⟩)
                      | (go_at_call 10; (with_reducible refine (awake13 _).mono ?_); rintro e w12 ⟨rfl, hb12⟩))
                  go_wp2
                  go_ret
                  refine ⟨by simp, bel_trans (bel_trans hb1 hbw8) ?_⟩
                  repeat (first | exact bel_rfl | assumption | exact Below.drew bel_rfl | refine bel_trans ?_ (by assumption))
                · have hps' : decide ((m : Int) < (p : Int) + ((boxR r).length : Int)) = false := by rw [decide_eq_false_iff_not]; omega
                  go_wp2_with (go_at_call 17; (with_reducible refine (HBX.out _).mono ?_); rintro e w5 ⟨A5, c5, rfl, hby5, hb5⟩; clear hby5)
                  go_roundw
                  case rel => exact ⟨j + 1, p + (boxR r).length, z + 1, by have := HZ.out; omega, by omega, by go_num, by go_num, by rw [HST.out, ← HP.out], by omega, bel_trans hb2 hb5⟩
                  case measure => simp [intOf]; omega
              · have HJ1 := Lib.hid (show ((last.take j).flatMap boxR).length ≤ m by rw [← HP.out]; exact hpm)
                have HJ3 := Lib.hid (show j = last.length ∨ m < ((last.take (j + 1)).flatMap boxR).length from .inl (tail_full HTP.out HLB.out hj (by rw [← HP.out]; omega)))
                have HREC := Lib.hid (tail_recs HTS.out hb2 HTP.out HMAP.out HRL.out HOK.out HLB.out HQ.out HZ.out hj HJ1.out hmle HJ3.out)
                have HTK := Lib.hid (rows_take HR.out hzn)
                have s0 : (0 : Int) ≤ (m : Int) := by omega
                have s1 : m ≤ c9 := by omega
                have s2 : (m : Int) ≤ (c9 : Int) := by omega
                have s3 : z ≤ c := by omega
                have s4 : (z : Int) ≤ (c : Int) := by omega
                have s5 : (0 : Int) ≤ (z : Int) := by omega
                go_wp2_with (first
                  | (at_builtin; refine wpList_append_rd _ rfl (.tmp 115) (.tmp 119) 34 rfl w1.heap.size 32 i0' (.slice none 0 0) 1 24 Try.underlying34 hi hz0 hz1 hz2 rfl (by decide) sv hs.length (hs.flatMap hdCells) rfl ((HTS.out.below hb2).below (al1 _ _)).s (some ⟨wr.heap.size, 0, none⟩) 1 1 [.slice A9 m c9] rfl (Rd.lit wr 1 1 #[.slice A9 m c9] _ rfl) (by simp [Value.oneCell']) (by unfold maxLen; omega) (by omega) (by have := ((HTS.out.below hb2).below (al1 wr (.cells #[.slice A9 m c9] 32))).b.size; exact this) ?_; intro A8 c8 w8 hown hg hblk; have HR8 := Lib.hid (HREC.out A8 c8 w8 hown hg (by omega) hll); clear hown hg hblk))
                go_region_held3 (fun w' => Below w8.heap.size w8 w')
                  (first | exact Below.drew bel_rfl | exact bel_rfl | (repeat (first | exact bel_rfl | assumption | exact Below.drew bel_rfl | refine bel_trans ?_ (by assumption))))
                  (first
                    | (go_at_call 19; (with_reducible refine (HR8.out.2 _ ?_).mono ?_); (repeat (first | exact bel_rfl | assumption | exact Below.drew bel_rfl | refine bel_trans ?_ (by assumption))); rintro e w10 ⟨A10, c10, rfl, hrows, hc10, hb10⟩; have hbw8 := HR8.out.1; have HSM := Lib.hid (fun w' (hb : Below w10.heap.size w10 w') (hb' : Below w8.heap.size w8 w') => refSame_any A10 _ z c10 c _ w' (hrows.below hb) (HTK.out.below (bel_trans (bel_trans hb1 hbw8) hb')) (by omega) hc10 s3); clear hrows hc10)
                    | (go_at_call 18; (with_reducible refine (HSM.out _ ?_ ?_).mono ?_); (repeat (first | exact bel_rfl | assumption | exact Below.drew bel_rfl | refine bel_trans ?_ (by assumption))); (repeat (first | exact bel_rfl | assumption | exact Below.drew bel_rfl | refine bel_trans ?_ (by assumption))); rintro e w11 ⟨rfl, hb11⟩)
                    | (go_at_call 10; (with_reducible refine (awake13 _).mono ?_); rintro e w12 ⟨rfl, hb12⟩))
                go_wp2
                go_ret
                refine ⟨by simp, bel_trans (bel_trans hb1 hbw8) ?_⟩
                repeat (first | exact bel_rfl | assumption | exact Below.drew bel_rfl | refine bel_trans ?_ (by assumption))
        -- EXIT END
    · go_ret
      exact ⟨by simp, bel_trans hb1 hb2⟩
  · have hb0 : n2 ≤ 60 → ¬ 0 ≤ m := fun h1 h2 => hbad ⟨h1, h2⟩
    clear hbad
    by_cases hn60 : n2 ≤ 60
    · have hm0 : m < 0 := by have := hb0 hn60; omega
      clear hb0
      go_enter Try.func4, Try.ntmps4
      go_wp2_with (first
        | (go_at_call 15; refine HLR.out.mono ?_; rintro e w1 ⟨b, rfl, hlarge, hb1⟩; clear hlarge; cases b)
        | (go_at_call 10; refine (awake13 _).mono ?_; rintro e w2 ⟨rfl, hb2⟩))
      all_goals go_ret
      all_goals exact ⟨by simp, bel_trans hb1 hb2⟩
    · clear hb0
      have hn61 : 60 < n2 := by omega
      go_enter Try.func4, Try.ntmps4
      go_wp2_with (first
        | (go_at_call 15; refine HLR.out.mono ?_; rintro e w1 ⟨b, rfl, hlarge, hb1⟩; clear hlarge; cases b)
        | (go_at_call 10; refine (awake13 _).mono ?_; rintro e w2 ⟨rfl, hb2⟩))
      all_goals go_ret
      all_goals exact ⟨by simp, bel_trans hb1 hb2⟩
end Go.Proofs.Ytblpnohfileibaa

/- Records that came in, opened. -/
namespace Go.Proofs.Ytblpnohfileibaa
open Go.RowKit Go.ChangeShapes Go.WideShapes

theorem cells_rec : Try.prog.cellsOf 37 = 6 := by kernel_rfl
theorem cells_i : Try.prog.cellsOf 3 = 1 := by kernel_rfl
theorem cells_u : Try.prog.cellsOf 22 = 1 := by kernel_rfl
theorem cells_s : Try.prog.cellsOf 9 = 1 := by kernel_rfl
theorem cells_b : Try.prog.cellsOf 5 = 1 := by kernel_rfl
theorem bytes_rec : Try.prog.bytesOf 37 = 56 := by kernel_rfl
theorem bytes_b : Try.prog.bytesOf 5 = 1 := by kernel_rfl

theorem u64_nat {a : Int} (h : (Lit.int .u64 a).wf = true) : ∃ n : Nat, a = (n : Int) ∧ n < 18446744073709551616 := by
  have hx : 0 ≤ a ∧ a ≤ 18446744073709551615 := by simpa [Lit.wf, IntKind.min, IntKind.max, IntKind.signed, IntKind.bits] using h
  exact ⟨a.toNat, by omega, by omega⟩

section
variable {H : Type} {enc : TypeId × Value → H} {w : World} {base : Nat} {spare : Nat → Bool} {held : Bool}

set_option maxRecDepth 100000 in
theorem open_rec {fuel : Nat} {cs : List Value} {x : DataW H × List MemPlace} (h : DataW.trod enc Try.prog w base spare held fuel 37 cs = some x) : ∃ r : Rec, cs = recCells r ∧ RecOk r := by
  obtain ⟨xs, n, _, rfl, hl, hxl, hf⟩ := DataW.trod_struct Try.underlying37 h
  rw [cells_rec] at hl
  match cs, hl, xs, hxl with
  | [c0, c1, c2, c3, c4, c5], _, [x0, x1, x2, x3, x4, x5], _ =>
    have t0 : DataW.trod enc Try.prog w base spare held n 22 (([c0, c1, c2, c3, c4, c5].drop 0).take (Try.prog.cellsOf 22)) = some x0 := hf 0 _ rfl
    have t1 : DataW.trod enc Try.prog w base spare held n 3 (([c0, c1, c2, c3, c4, c5].drop 1).take (Try.prog.cellsOf 3)) = some x1 := hf 1 _ rfl
    have t2 : DataW.trod enc Try.prog w base spare held n 9 (([c0, c1, c2, c3, c4, c5].drop 2).take (Try.prog.cellsOf 9)) = some x2 := hf 2 _ rfl
    have t3 : DataW.trod enc Try.prog w base spare held n 22 (([c0, c1, c2, c3, c4, c5].drop 3).take (Try.prog.cellsOf 22)) = some x3 := hf 3 _ rfl
    have t4 : DataW.trod enc Try.prog w base spare held n 22 (([c0, c1, c2, c3, c4, c5].drop 4).take (Try.prog.cellsOf 22)) = some x4 := hf 4 _ rfl
    have t5 : DataW.trod enc Try.prog w base spare held n 22 (([c0, c1, c2, c3, c4, c5].drop 5).take (Try.prog.cellsOf 22)) = some x5 := hf 5 _ rfl
    simp only [cells_i, cells_s, cells_u, List.drop, List.take, List.getElem?_cons_zero, List.getElem?_cons_succ] at t0 t1 t2 t3 t4 t5
    obtain ⟨q, e0, _, w0⟩ := DataW.trod_int Try.underlying22 t0
    obtain ⟨k, e1, _, _⟩ := DataW.trod_int Try.underlying3 t1
    obtain ⟨tn, e2, _, _⟩ := DataW.trod_string Try.underlying9 t2
    obtain ⟨le, e3, _, w3⟩ := DataW.trod_int Try.underlying22 t3
    obtain ⟨nn, e4, _, w4⟩ := DataW.trod_int Try.underlying22 t4
    obtain ⟨bi, e5, _, w5⟩ := DataW.trod_int Try.underlying22 t5
    simp only [List.cons.injEq, and_true] at e0 e1 e2 e3 e4 e5
    subst e0 e1 e2 e3 e4 e5
    obtain ⟨q, rfl, hq⟩ := u64_nat w0
    obtain ⟨le, rfl, hle⟩ := u64_nat w3
    obtain ⟨nn, rfl, hnn⟩ := u64_nat w4
    obtain ⟨bi, rfl, hbi⟩ := u64_nat w5
    exact ⟨⟨q, k, tn, le, nn, bi⟩, rfl, hq, hle, hnn, hbi⟩

instance : Inhabited Rec := ⟨zeroRec⟩

theorem open_recs {fuel : Nat} {A : Option Addr} {n c : Nat} {x : DataW H × List MemPlace} (h : DataW.trod enc Try.prog w base spare held fuel 31 [.slice A n c] = some x) :
    ∃ l : List Rec, Rows 6 recCells w A n l ∧ (∀ r ∈ l, RecOk r) ∧ n ≤ c ∧ ∀ B, (∀ q ∈ x.1.weights Try.prog 31, q ≤ B) → n * 56 ≤ B := by
  rcases Go.Deep.open_slice Try.underlying31 h with ⟨hcs, rfl⟩ | ⟨a, len, cap, m, f, D, Pl, hcs, _, hl, hm, hmm, rfl, hx⟩
  · simp only [List.cons.injEq, Value.slice.injEq, and_true] at hcs
    obtain ⟨rfl, rfl, rfl⟩ := hcs
    exact ⟨[], ⟨rfl, fun _ => rfl, fun h => absurd h (Nat.lt_irrefl _)⟩, fun e he => absurd he List.not_mem_nil, Nat.le_refl _, fun B _ => by omega⟩
  · simp only [List.cons.injEq, Value.slice.injEq, and_true] at hcs
    obtain ⟨rfl, rfl, rfl⟩ := hcs
    have hnm : n ≤ m := by rw [hmm]; split <;> omega
    obtain ⟨E, hE⟩ := Go.Deep.choose_lt (n := n) (p := fun i (r : Rec) => w.cells? base (a.add (i * 6)) 6 = some (recCells r) ∧ RecOk r) (fun i hi => by
      obtain ⟨cs', h1, h2⟩ := hx i (by omega)
      rw [cells_rec] at h1
      obtain ⟨r, rfl, h3⟩ := open_rec h2
      exact ⟨r, h1, h3⟩)
    refine ⟨(List.range n).map E, ⟨by simp, fun _ => rfl, fun hn => ?_⟩, ?_, ?_, fun B hB => ?_⟩
    · obtain ⟨b, o, spot⟩ := a
      have h0 := (World.cells?_some (hE 0 hn).1).2.2 0 (by omega)
      have hspot : spot = none := by
        have := World.cell?_spot (h0.trans rfl)
        simpa [Addr.add] using this
      subst hspot
      refine ⟨b, o, rfl, fun j e he i u hu => ?_⟩
      obtain ⟨hj, rfl⟩ : j < n ∧ E j = e := by
        rw [List.getElem?_map] at he
        by_cases hj : j < n
        · rw [List.getElem?_range hj] at he
          exact ⟨hj, by simpa using he⟩
        · rw [List.getElem?_eq_none (by simpa using hj)] at he; cases he
      have hi : i < 6 := (List.getElem?_eq_some_iff.1 hu).1
      have := (World.cells?_some (hE j hj).1).2.2 i hi
      rw [add_plain, add_plain] at this
      rw [← Nat.add_assoc, this, hu]
    · intro e he
      obtain ⟨i, hi, rfl⟩ := List.mem_map.1 he
      exact (hE i (List.mem_range.1 hi)).2
    · first | exact hl | omega
    · have := hB ((((List.range n).map D).length + ((List.range (m - n)).map fun j => D (n + j)).length) * Try.prog.bytesOf 37) (by simp [DataW.weights, Try.underlying31])
      rw [bytes_rec] at this
      refine Nat.le_trans (Nat.mul_le_mul_right _ ?_) this
      simp
end
end Go.Proofs.Ytblpnohfileibaa
