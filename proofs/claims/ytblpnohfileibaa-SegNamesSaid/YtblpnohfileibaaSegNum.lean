/- seg.Number and its reference give the number of a name, for every string. -/
import Derived.Test.YtblpnohfileibaaSegR
namespace Go.Proofs.Ytblpnohfileibaa
open Go.RowKit

/-- a hex digit's number -/
def hv (l : List UInt8) : Nat := l.foldl (fun a c => if nibk c.toNat then 16 * a + (nibv c.toNat).toNat else a) 0
theorem hv_snoc (l : List UInt8) (c : UInt8) : hv (l ++ [c]) = if nibk c.toNat then 16 * hv l + (nibv c.toNat).toNat else hv l := by simp [hv]
theorem hv_lt (l : List UInt8) : hv l < 16 ^ l.length := by
  suffices H : ∀ n (l : List UInt8), l.length = n → hv l < 16 ^ n from H _ l rfl
  intro n
  induction n with
  | zero => intro l h; rw [List.eq_nil_of_length_eq_zero h]; simp [hv]
  | succ n ih =>
    intro l' h'
    obtain ⟨l, c, rfl⟩ : ∃ l c, l' = l ++ [c] := ⟨l'.dropLast, l'.getLast (by intro e; rw [e] at h'; simp at h'), (List.dropLast_concat_getLast _).symm⟩
    have ih := ih l (by simpa using h')
    rw [hv_snoc, Nat.pow_succ]
    split
    · have := nibv_bd _ ‹_›
      omega
    · omega

theorem hv_dig (q : Nat) (x : UInt8) (h1 : 48 ≤ (x.toNat : Int)) (h2 : (x.toNat : Int) ≤ 57) : 16 * (q : Int) + ((x.toNat : Int) - 48) = ((if nibk x.toNat then 16 * q + (nibv x.toNat).toNat else q : Nat) : Int) := by
  have : nibk x.toNat = true := by simp [nibk]; omega
  rw [if_pos this]; unfold nibv; rw [if_pos h2]; omega
theorem hv_let (q : Nat) (x : UInt8) (h1 : 97 ≤ (x.toNat : Int)) (h2 : (x.toNat : Int) ≤ 102) : 16 * (q : Int) + ((x.toNat : Int) - 97) + 10 = ((if nibk x.toNat then 16 * q + (nibv x.toNat).toNat else q : Nat) : Int) := by
  have : nibk x.toNat = true := by simp [nibk]; omega
  rw [if_pos this]; unfold nibv; rw [if_neg (by omega)]; omega
theorem hv_not (q : Nat) (x : UInt8) (h1 : ¬ (48 ≤ (x.toNat : Int) ∧ (x.toNat : Int) ≤ 57)) (h2 : ¬ (97 ≤ (x.toNat : Int) ∧ (x.toNat : Int) ≤ 102)) : (q : Int) = ((if nibk x.toNat then 16 * q + (nibv x.toNat).toNat else q : Nat) : Int) := by
  have : ¬ nibk x.toNat = true := by simp [nibk]; omega
  rw [if_neg this]

set_option maxRecDepth 100000 in
theorem refNumber_any (s : ByteArray) (d : List UInt8) (c0 : UInt8) (hs : s.data.toList = c0 :: d) (hd : d.length = 16) (w : World) :
    Calls Try.prog 13 #[.string s] w fun e w' => e = .returned (.tuple #[.int .u64 (hv d : Int), .bool (nameL (hv d) == c0 :: d)]) ∧ w = w' := by
  have hsz : s.size = 17 := by
    have : s.size = s.data.toList.length := by simp
    rw [this, hs]; simp [hd]
  have HS := Lib.hid hs
  clear hs
  go_enter Try.func13, Try.ntmps13
  go_wp2_with fail
  go_loop [4, 5] (fun a i => ∃ k : Nat, k ≤ 16 ∧ i = .int .i64 ((k + 1 : Nat) : Int) ∧ a = .int .u64 (hv (d.take k) : Int)) (fun _ i => 17 - (intOf i).toNat)
  case atStart => exact ⟨0, by omega, rfl, rfl⟩
  case round =>
    obtain ⟨k, hk, rfl, rfl⟩ := hrel
    by_cases hlt : k < 16
    · obtain ⟨x, hx⟩ : ∃ x, d[k]? = some x := ⟨_, List.getElem?_eq_getElem (by omega)⟩
      have hsx : s.data.toList[k + 1]? = some x := by rw [HS.out]; simpa using hx
      have hq : hv (d.take k) < 16 ^ 15 := by
        have := hv_lt (d.take k)
        refine Nat.lt_of_lt_of_le this (Nat.pow_le_pow_right (by omega) ?_)
        rw [List.length_take]; omega
      have hsn : hv (d.take (k + 1)) = if nibk x.toNat then 16 * hv (d.take k) + (nibv x.toNat).toNat else hv (d.take k) := by
        rw [List.take_add_one, hx]; simp [hv_snoc]
      have hix : s[k + 1]'(by omega) = x := by rw [getElem_bs]; exact (List.getElem?_eq_some_iff.1 hsx).2
      have HSN := Lib.hid hsn
      generalize hg : hv (d.take k) = q at *
      have HG := Lib.hid hg
      have HX := Lib.hid hx
      have HSX := Lib.hid hsx
      clear hg hsn hx hsx
      have hq2 : q ≤ 1152921504606846975 := by omega
      clear hq
      go_wp2_with fail
      all_goals
        refine ⟨⟨k + 1, by omega, by go_num, ?_⟩, by simp [intOf]; omega⟩
        rw [HSN.out]
        first
          | rw [hv_dig q x (by omega) (by omega)]
          | rw [hv_let q x (by omega) (by omega)]
          | rw [← hv_not q x (by omega) (by omega)]
    · obtain rfl : k = 16 := by omega
      have hlt := hv_lt d
      rw [hd] at hlt
      have ht : d.take 16 = d := List.take_of_length_le (by omega)
      rw [ht]
      clear ht
      have hL : s.toList = c0 :: d := by rw [Lib.toList_data, HS.out]
      go_wp2_with (go_at_call 14; refine (refName_any _ hlt _).mono ?_; rintro e w' ⟨rfl, rfl⟩)
      go_ret2
      refine ⟨?_, rfl⟩
      simp [hL]

theorem refNumber_no (s : ByteArray) (hs : s.data.toList.length ≠ 17) (w : World) :
    Calls Try.prog 13 #[.string s] w fun e w' => e = .returned (.tuple #[.int .u64 0, .bool false]) ∧ w = w' := by
  have hsz : ((s.size : Int) == 17) = false := by
    have : s.size = s.data.toList.length := by simp
    rw [this]; simp at hs ⊢; omega
  have hsz' : ((s.size : Int) != 17) = true := by simpa [bne] using hsz
  go_enter Try.func13, Try.ntmps13
  go_wp2
  go_ret2
  simp

theorem Number_bad1 (s : ByteArray) (hs : s.data.toList.length ≠ 17) (w : World) :
    Calls Try.prog 11 #[.string s] w fun e w' => e = .returned (.tuple #[.int .u64 0, .int .i64 2]) ∧ w = w' := by
  have hsz : ((s.size : Int) == 17) = false := by
    have : s.size = s.data.toList.length := by simp
    rw [this]; simp at hs ⊢; omega
  have hsz' : ((s.size : Int) != 17) = true := by simpa [bne] using hsz
  go_enter Try.func11, Try.ntmps11
  go_wp2
  go_ret2
  simp

theorem Number_bad2 (s : ByteArray) (c0 : UInt8) (d : List UInt8) (hs : s.data.toList = c0 :: d) (hd : d.length = 16) (h0 : c0 ≠ 119) (w : World) :
    Calls Try.prog 11 #[.string s] w fun e w' => e = .returned (.tuple #[.int .u64 0, .int .i64 2]) ∧ w = w' := by
  have hsz : s.size = 17 := by
    have : s.size = s.data.toList.length := by simp
    rw [this, hs]; simp [hd]
  have hx : ((s.extract 0 1).toList == [119]) = false := by
    rw [Lib.toList_data, Lib.extract_data, hs]; simp [h0]
  clear hs
  go_enter Try.func11, Try.ntmps11
  go_wp2
  go_ret2
  simp

theorem shl_or8 (q x : Int) (h0 : 0 ≤ q) (h1 : q < 72057594037927936) (h2 : 0 ≤ x) (h3 : x ≤ 255) : bits .or .u64 (q * 256) x = q * 256 + x :=
  bits_join .u64 64 (by decide) (fun n h0 h1 => by unfold IntKind.wrap; simp [IntKind.signed, IntKind.bits]; omega) 8 (q * 256) x (by omega) (by omega) (by omega) h2 (by omega) (by omega)

theorem hv_two (d : List UInt8) (k : Nat) (hl : 2 * k + 2 ≤ 16) (hk : hexk d = true) (hd : d.length = 16) : ((hv (d.take (2 * k + 2 * 1)) : Nat) : Int) = hv (d.take (2 * k)) * 256 + unb d 16 k := by
  have h1 : ∀ i, i < 16 → nibk (d.getD i 0).toNat = true := by
    intro i hi
    unfold hexk at hk
    refine List.all_eq_true.1 hk _ ?_
    rw [List.getD_eq_getElem?_getD, List.getElem?_eq_getElem (by omega)]
    exact List.getElem_mem _
  have e1 : d.take (2 * k + 2 * 1) = d.take (2 * k) ++ [d.getD (2 * k) 0] ++ [d.getD (2 * k + 1) 0] := by
    rw [show 2 * k + 2 * 1 = (2 * k + 1) + 1 from rfl, List.take_add_one, List.take_add_one]
    rw [List.getElem?_eq_getElem (show 2 * k < d.length by omega), List.getElem?_eq_getElem (show 2 * k + 1 < d.length by omega)]
    simp [List.getD_eq_getElem?_getD, List.getElem?_eq_getElem (show 2 * k < d.length by omega), List.getElem?_eq_getElem (show 2 * k + 1 < d.length by omega)]
  rw [e1, hv_snoc, hv_snoc, if_pos (h1 _ (by omega)), if_pos (h1 _ (by omega))]
  have b1 := nibv_bd _ (h1 (2 * k) (by omega))
  have b2 := nibv_bd _ (h1 (2 * k + 1) (by omega))
  unfold unb
  rw [if_pos (by omega), if_pos (by omega), if_pos (by omega)]
  omega

set_option maxRecDepth 100000 in
theorem Number_hex (s : ByteArray) (d : List UInt8) (hs : s.data.toList = 119 :: d) (hd : d.length = 16) (hk : hexk d = true) (w : World) :
    Calls Try.prog 11 #[.string s] w fun e w' => e = .returned (.tuple #[.int .u64 (hv d : Int), .int .i64 0]) ∧ Below w.heap.size w w' := by
  have hsz : s.size = 17 := by
    have : s.size = s.data.toList.length := by simp
    rw [this, hs]; simp [hd]
  have hx : ((s.extract 0 1).toList == [119]) = true := by
    rw [Lib.toList_data, Lib.extract_data, hs]; simp
  have hd' : (s.extract 1 17).data.toList = d := by
    rw [Lib.extract_data, hs]; simp [List.take_of_length_le, hd]
  have HD := Lib.hid hd'
  clear hs hd'
  go_enter Try.func11, Try.ntmps11
  go_wp2_with (go_at_call 44; refine (Bytes_hex _ d 8 HD.out (by rw [hd]) (by omega) (by omega) hk _).mono ?_; rintro e w1 ⟨g, rfl, hrow, hb⟩)
  have hbd : ∀ j, j < 8 → 0 ≤ unb d 16 j ∧ unb d 16 j ≤ 255 := by
    intro j hj
    have h1 : ∀ i, i < 16 → 0 ≤ nibv (d.getD i 0).toNat ∧ nibv (d.getD i 0).toNat ≤ 15 := by
      intro i hi
      refine nibv_bd _ ?_
      unfold hexk at hk
      refine List.all_eq_true.1 hk _ ?_
      rw [List.getD_eq_getElem?_getD, List.getElem?_eq_getElem (by omega)]
      exact List.getElem_mem _
    have h2 := h1 (2 * j) (by omega)
    have h3 := h1 (2 * j + 1) (by omega)
    unfold unb
    rw [if_pos (by omega), if_pos (by omega), if_pos (by omega)]
    omega
  have hcells : ∀ j, j < 8 → w1.cell? ⟨g, j, none⟩ = some (.int .u8 (unb d 16 j)) := by
    intro j hj
    rw [hrow.cellAt j (by omega)]
    unfold unbs
    rw [List.getElem?_map, List.getElem?_range (by omega)]
    rfl
  have HK := Lib.hid hk
  have HC := Lib.hid hcells
  have HB := Lib.hid hbd
  clear hk hrow hcells hbd
  go_wp2_with fail
  go_loop [6, 27] (fun a i => ∃ k : Nat, k ≤ 8 ∧ i = .int .i64 (k : Int) ∧ a = .int .u64 (hv (d.take (2 * k)) : Int)) (fun _ i => 8 - (intOf i).toNat)
  case atStart => exact ⟨0, by omega, rfl, rfl⟩
  case round =>
    obtain ⟨k, hk, rfl, rfl⟩ := hrel
    by_cases hlt : k < 8
    · have hcell := HC.out k hlt
      obtain ⟨hu0, hu1⟩ := HB.out k hlt
      have hq : hv (d.take (2 * k)) < 16 ^ 14 := by
        have := hv_lt (d.take (2 * k))
        refine Nat.lt_of_lt_of_le this (Nat.pow_le_pow_right (by omega) ?_)
        rw [List.length_take]; omega
      have hsn := hv_two d k (by omega) HK.out hd
      generalize hv (d.take (2 * k)) = q at *
      generalize unb d 16 k = u at *
      have HSN := Lib.hid hsn
      clear hsn
      have hq2 : q ≤ 72057594037927935 := by omega
      clear hq
      go_wp2_with fail
      refine ⟨⟨k + 1, by omega, by go_num, ?_⟩, by simp [intOf]; omega⟩
      rw [shl_or8 _ _ (by omega) (by omega) hu0 hu1, Nat.mul_add, HSN.out]
    · obtain rfl : k = 8 := by omega
      have ht : d.take (2 * 8) = d := List.take_of_length_le (by omega)
      rw [ht]
      go_wp2
      go_ret2
      exact ⟨by simp, hb⟩

theorem Number_bad3 (s : ByteArray) (d : List UInt8) (hs : s.data.toList = 119 :: d) (hd : d.length = 16) (hk : hexk d = false) (w : World) :
    Calls Try.prog 11 #[.string s] w fun e w' => e = .returned (.tuple #[.int .u64 0, .int .i64 2]) ∧ Below w.heap.size w w' := by
  have hsz : s.size = 17 := by
    have : s.size = s.data.toList.length := by simp
    rw [this, hs]; simp [hd]
  have hx : ((s.extract 0 1).toList == [119]) = true := by
    rw [Lib.toList_data, Lib.extract_data, hs]; simp
  have hd' : (s.extract 1 17).data.toList = d := by
    rw [Lib.extract_data, hs]; simp [List.take_of_length_le, hd]
  have HD := Lib.hid hd'
  clear hs hd'
  go_enter Try.func11, Try.ntmps11
  go_wp2_with (go_at_call 44; refine (Bytes_bad _ d 8 HD.out (by rw [hd]) (by omega) (by omega) hk _).mono ?_; rintro e w1 ⟨rfl, hb⟩)
  go_ret2
  exact ⟨by simp, hb⟩
end Go.Proofs.Ytblpnohfileibaa
