/- name.digit, name.nibble and name.Bytes give what they say, for every string of at most 2*10^11 letters. -/
import Derived.Test.YtblpnohfileibaaTypes
namespace Go.Proofs.Ytblpnohfileibaa
open Go.RowKit

def digk (r : Int) : Bool := decide (48 ≤ r) && decide (r ≤ 57)
theorem digit_any (r : Int) (w : World) : Calls Try.prog 97 #[.int .i32 r] w fun e w' => e = .returned (.bool (digk r)) ∧ w = w' := by
  unfold digk
  by_cases h : 48 ≤ r
  · go_enter Try.func97, Try.ntmps97
    go_wp2
    go_ret
    simp [h]
  · go_enter Try.func97, Try.ntmps97
    go_wp2
    go_ret
    simp [h]
    omega

def nibv (r : Int) : Int := if r ≤ 57 then r - 48 else r - 87
def nibk (r : Int) : Bool := decide (48 ≤ r ∧ r ≤ 57) || decide (97 ≤ r ∧ r ≤ 102)
theorem nibble_yes (r : Int) (h : nibk r = true) (w : World) : Calls Try.prog 76 #[.int .i32 r] w fun e w' => e = .returned (.tuple #[.int .u8 (nibv r), .bool true]) ∧ w = w' := by
  unfold nibv
  simp [nibk] at h
  rcases h with ⟨h1, h2⟩ | ⟨h1, h2⟩
  · have hd : digk r = true := by simp [digk]; omega
    go_enter Try.func76, Try.ntmps76
    go_wp2_with (go_at_call 97; refine (digit_any _ _).mono ?_; rintro e w' ⟨rfl, rfl⟩)
    go_ret2
    simp [h2]
  · have hd : digk r = false := by simp [digk]; omega
    go_enter Try.func76, Try.ntmps76
    go_wp2_with (go_at_call 97; refine (digit_any _ _).mono ?_; rintro e w' ⟨rfl, rfl⟩)
    go_ret2
    simp [show ¬ r ≤ 57 by omega]
    omega
theorem nibble_no (r : Int) (h : nibk r = false) (w : World) : Calls Try.prog 76 #[.int .i32 r] w fun e w' => e = .returned (.tuple #[.int .u8 0, .bool false]) ∧ w = w' := by
  simp [nibk] at h
  have hd : digk r = false := by simp [digk]; omega
  by_cases h1 : 97 ≤ r
  · have h2 : 102 < r := by omega
    go_enter Try.func76, Try.ntmps76
    go_wp2_with (go_at_call 97; refine (digit_any _ _).mono ?_; rintro e w' ⟨rfl, rfl⟩)
    go_ret2
    simp
  · go_enter Try.func76, Try.ntmps76
    go_wp2_with (go_at_call 97; refine (digit_any _ _).mono ?_; rintro e w' ⟨rfl, rfl⟩)
    go_ret2
    simp

/-- the k letters ahead, as half-filled bytes -/
def unb (l : List UInt8) (k j : Nat) : Int :=
  (if 2 * j < k then nibv ((l.getD (2 * j) 0).toNat) else 0) * (if 2 * j + 1 < k then 16 else 1) + (if 2 * j + 1 < k then nibv ((l.getD (2 * j + 1) 0).toNat) else 0)
def unbs (l : List UInt8) (k m : Nat) : List Value := (List.range m).map fun j => .int .u8 (unb l k j)
def hexk (l : List UInt8) : Bool := l.all fun b => nibk b.toNat

theorem nibv_bd (r : Int) (h : nibk r = true) : 0 ≤ nibv r ∧ nibv r ≤ 15 := by
  simp [nibk] at h
  unfold nibv
  split <;> omega

theorem unb_step (l : List UInt8) (k : Nat) (x : UInt8) (hx : l[k]? = some x) : unb l (k + 1) (k / 2) = unb l k (k / 2) * 16 + nibv x.toNat ∨ (k % 2 = 0 ∧ unb l k (k / 2) = 0 ∧ unb l (k + 1) (k / 2) = nibv x.toNat) := by
  have e : l.getD k 0 = x := by simp [List.getD, hx]
  rcases Nat.mod_two_eq_zero_or_one k with h | h
  · right
    have h2 : 2 * (k / 2) = k := by omega
    unfold unb
    rw [h2, e, if_neg (show ¬ k < k by omega), if_neg (show ¬ k + 1 < k by omega), if_neg (show ¬ k + 1 < k by omega), if_pos (show k < k + 1 by omega), if_neg (show ¬ k + 1 < k + 1 by omega), if_neg (show ¬ k + 1 < k + 1 by omega)]
    exact ⟨h, by omega, by omega⟩
  · left
    have h2 : 2 * (k / 2) + 1 = k := by omega
    have h3 : 2 * (k / 2) < k := by omega
    unfold unb
    rw [h2, e, if_pos (by omega), if_pos (by omega), if_pos (by omega), if_pos h3, if_neg (by omega), if_neg (by omega)]
    omega
theorem unb_bd (l : List UInt8) (k : Nat) (hk : ∀ j, j < k → nibk (l.getD j 0).toNat = true) : 0 ≤ unb l k (k / 2) ∧ unb l k (k / 2) ≤ 15 := by
  have h3 : ¬ (2 * (k / 2) + 1 < k) := by omega
  unfold unb
  rw [if_neg h3, if_neg h3]
  split
  · rename_i h
    have := nibv_bd _ (hk _ h)
    omega
  · omega
theorem unb_other (l : List UInt8) (k j : Nat) (h : j ≠ k / 2) : unb l (k + 1) j = unb l k j := by
  unfold unb
  have h1 : (2 * j < k + 1) ↔ (2 * j < k) := by omega
  have h2 : (2 * j + 1 < k + 1) ↔ (2 * j + 1 < k) := by omega
  simp only [h1, h2]
theorem unbs_step (l : List UInt8) (k m : Nat) (u : Int) (hk : k < 2 * m) (hu : unb l (k + 1) (k / 2) = u) : unbs l (k + 1) m = (unbs l k m).set (k / 2) (.int .u8 u) := by
  apply List.ext_getElem?
  intro j
  unfold unbs
  rw [List.getElem?_set]
  by_cases hj : k / 2 = j
  · subst hj
    have hd : k / 2 < m := by omega
    simp [hu, hd]
  · rw [if_neg hj]
    simp only [List.getElem?_map]
    by_cases hjm : j < m
    · simp [hjm, unb_other l k j (Ne.symm hj)]
    · simp [hjm]
theorem or16 (u v : Int) (h0 : 0 ≤ u) (h1 : u ≤ 15) (h2 : 0 ≤ v) (h3 : v ≤ 15) : bits .or .u8 (u * 16) v = u * 16 + v :=
  bits_join .u8 8 (by decide) wraps_u8 4 (u * 16) v (by omega) (by omega) (by omega) h2 (by omega) (by omega)

def BytesR (l : List UInt8) (m : Nat) (w : World) (e : Ending) (w' : World) : Prop :=
  (hexk l = true ∧ (∃ g, e = .returned (.tuple #[.slice (some ⟨g, 0, none⟩) m m, .int .i64 0]) ∧ w'.ownsRow w.heap.size 5 1 (.slice (some ⟨g, 0, none⟩) m m) m (unbs l (2 * m) m)) ∧ Below w.heap.size w w') ∨
  (hexk l = false ∧ e = .returned (.tuple #[.slice none 0 0, .int .i64 2]) ∧ Below w.heap.size w w')

set_option maxRecDepth 100000 in
theorem Bytes_even (s : ByteArray) (m : Nat) (hs : s.data.toList.length = 2 * m) (hm : m ≤ 100000000000) (h0 : 0 < m) (w : World) :
    Calls Try.prog 44 #[.string s] w (BytesR s.data.toList m w) := by
  have hsz : s.size = 2 * m := by rw [← hs]; simp
  have hL : s.toList = s.data.toList := Lib.toList_data s
  have hn0 : s.data.toList ≠ [] := by intro h; rw [h] at hs; simp at hs; omega
  have h1 : (s.toList == [45]) = false := by rw [hL]; simp; intro h; rw [h] at hs; simp at hs; omega
  have h2 : ¬ s.toList = [] := by rw [hL]; exact hn0
  have h3 : s.toList.isEmpty = false := by rw [hL]; simpa using hn0
  have HL := Lib.hid hL
  have HS := Lib.hid hs
  clear hL hs hn0
  go_enter Try.func44, Try.ntmps44
  go_wp2_with (at_make; refine mkf_u8 _ rfl _ _ rfl w.heap.size _ _ _ _ m rfl rfl (by omega) (by omega) (by omega) (Nat.le_refl _) ?_; intro w1 hown hgrow)
  go_loopw [] (fun wr => ∃ k : Nat, k ≤ 2 * m ∧ wr.heap[w1.heap.size]? = some (.stringIter s k) ∧ wr.ownsRow w.heap.size 5 1 (.slice (some ⟨w.heap.size, 0, none⟩) m m) m (unbs s.data.toList k m) ∧ (∀ j, j < k → nibk (s.data.toList.getD j 0).toNat = true) ∧ Below w.heap.size w wr) (fun wr => 2 * m - wr.iterPos w1.heap.size)
  case atStart =>
    refine ⟨0, Nat.zero_le _, by rw [World.iter_heap], ?_, fun j h => absurd h (Nat.not_lt_zero _), ?_⟩
    · have e : unbs s.data.toList 0 m = List.replicate m (.int .u8 0) := by
        apply List.ext_getElem?
        intro j
        unfold unbs unb
        by_cases hj : j < m <;> simp [hj, List.getElem?_replicate]
      rw [e]
      exact hown.alloc _
    · exact ((Below.refl _ _).grown hgrow (Nat.le_refl _) (fun k h => by cases h)).alloc hgrow.size _
  case round =>
    obtain ⟨k, hk2, hit, hrow, hall, hb⟩ := hrel
    by_cases hlt : k < 2 * m
    · obtain ⟨x, hx⟩ : ∃ x, s.data.toList[k]? = some x := ⟨_, List.getElem?_eq_getElem (by rw [HS.out]; omega)⟩
      have hxe : s.data.toList.getD k 0 = x := by simp [List.getD, hx]
      have HALL := Lib.hid hall
      have HXE := Lib.hid hxe
      clear hall hxe
      by_cases hxk : nibk x.toNat = true
      case neg =>
        have hno : hexk s.data.toList = false := by
          cases hh : hexk s.data.toList
          · rfl
          · unfold hexk at hh
            exact absurd (List.all_eq_true.1 hh x (List.mem_of_getElem? hx)) hxk
        have HNO := Lib.hid hno
        clear hno
        by_cases hxa : x.toNat < 128
        · have hnx := next_ascii (P := Try.prog) hit hx hxa
          have HXK := Lib.hid (Bool.eq_false_iff.2 hxk)
          have HIT := Lib.hid hit
          have HX := Lib.hid hx
          clear hx hit hxk
          go_wp2_with (go_at_call 76; refine (nibble_no _ HXK.out _).mono ?_; rintro e w' ⟨rfl, rfl⟩)
          go_ret2
          exact .inr ⟨HNO.out, by simp, Lib.below_iterAt hb (Nat.le_of_lt (hown.lt _ rfl).2) _ _⟩
        · obtain ⟨r, q, hr1, hr2, hq, hnx⟩ : ∃ (r q : Nat), 128 ≤ r ∧ r ≤ 1114111 ∧ 1 ≤ q ∧ ∀ ty, (Instr.next (.pointer (some ⟨w1.heap.size, 0, none⟩)) true ty).run Try.prog wr = .ok (.tuple #[.bool true, .int .i64 k, .int .i32 (r : Int)]) (wr.iterAt w1.heap.size s (k + q)) := by
            obtain ⟨h1, h2, h3⟩ := decode_high s k (by have := (List.getElem?_eq_some_iff.1 hx).1; simpa using this) (by rw [getElem_bs, (List.getElem?_eq_some_iff.1 hx).2]; exact hxa)
            exact ⟨_, _, h1, h2, h3, fun ty => Lib.run_next_any_at wr w1.heap.size s k ty hit (by have := (List.getElem?_eq_some_iff.1 hx).1; simpa using this)⟩
          have HRK : Hid (nibk (r : Int) = false) := Lib.hid (by simp [nibk]; omega)
          have HIT := Lib.hid hit
          have HX := Lib.hid hx
          have HXN := Lib.hid hxk
          clear hx hit hxk
          go_wp2_with (go_at_call 76; refine (nibble_no _ HRK.out _).mono ?_; rintro e w' ⟨rfl, rfl⟩)
          go_ret2
          exact .inr ⟨HNO.out, by simp, Lib.below_iterAt hb (Nat.le_of_lt (hown.lt _ rfl).2) _ _⟩
      have hxa : x.toNat < 128 := by simp [nibk] at hxk; omega
      have hnx := next_ascii (P := Try.prog) hit hx hxa
      have hcell : (wr.iterAt w1.heap.size s (k + 1)).cell? ⟨w.heap.size, k / 2, none⟩ = some (.int .u8 (unb s.data.toList k (k / 2))) := by
        have h1 : (wr.iterAt w1.heap.size s (k + 1)).cell? ⟨w.heap.size, k / 2, none⟩ = wr.cell? ⟨w.heap.size, k / 2, none⟩ := World.cell?_of_block (a := ⟨w.heap.size, k / 2, none⟩) (Lib.iterAt_other _ _ _ _ _ (by have := (hown.lt _ rfl).2; simp only at this ⊢; omega))
        rw [h1, hrow.cellAt _ (by omega)]
        unfold unbs
        rw [List.getElem?_map, List.getElem?_range (by omega)]
        rfl
      have hfz : (wr.iterAt w1.heap.size s (k + 1)).frozen? ⟨w.heap.size, k / 2, none⟩ = false := by
        have h1 : (wr.iterAt w1.heap.size s (k + 1)).frozen? ⟨w.heap.size, k / 2, none⟩ = wr.frozen? ⟨w.heap.size, k / 2, none⟩ := World.frozen?_of_block (a := ⟨w.heap.size, k / 2, none⟩) (Lib.iterAt_other _ _ _ _ _ (by have := (hown.lt _ rfl).2; simp only at this ⊢; omega))
        rw [h1, hrow.frozenAt]
      have hv := nibv_bd _ hxk
      have hub : 0 ≤ unb s.data.toList k (k / 2) ∧ unb s.data.toList k (k / 2) ≤ 15 := unb_bd _ _ HALL.out
      have HX := Lib.hid hx
      have HIT := Lib.hid hit
      have HROW := Lib.hid hrow
      have HXK := Lib.hid hxk
      clear hx hit hrow hxk
      generalize hu : unb s.data.toList k (k / 2) = u at *
      have HU := Lib.hid hu
      clear hu
      obtain ⟨hu0, hu1⟩ := hub
      obtain ⟨hv0, hv1⟩ := hv
      go_wp2_with (go_at_call 76; refine (nibble_yes _ HXK.out _).mono ?_; rintro e w' ⟨rfl, rfl⟩)
      have hg1 : w.heap.size < w1.heap.size := (hown.lt _ rfl).2
      have hrow1 : (wr.iterAt w1.heap.size s (k + 1)).ownsRow w.heap.size 5 1 (.slice (some ⟨w.heap.size, 0, none⟩) m m) m (unbs s.data.toList k m) :=
        ownsRow_iterAt' HROW.out (by simp [Value.ownBlock]; omega) _ _
      obtain ⟨hrow2, hgr2⟩ := hrow1.stored (k / 2) (.int .u8 (bits .or .u8 (u * 16) (nibv x.toNat)))
      have he : unb s.data.toList (k + 1) (k / 2) = bits .or .u8 (u * 16) (nibv x.toNat) := by
        rw [or16 u _ hu0 hu1 hv0 hv1]
        rcases unb_step _ _ _ HX.out with h | ⟨_, h, h'⟩
        · rw [h, HU.out]
        · rw [h', ← HU.out, h]; omega
      refine ⟨⟨k + 1, by omega, ?_, ?_, fun j hj => ?_, ?_⟩, ?_⟩
      · rw [Below.heap_setCell _ _ _ _ (by simp; omega)]
        exact Lib.iterAt_heap _ _ _ _ _ HIT.out
      · rw [unbs_step _ _ _ _ hlt he]
        exact hrow2
      · by_cases hjk : j < k
        · exact HALL.out j hjk
        · obtain rfl : j = k := by omega
          rw [HXE.out]; exact HXK.out
      · exact (Lib.below_iterAt hb (Nat.le_of_lt hg1) _ _).setCell (Nat.le_refl _) _
      · have h5 : ((wr.iterAt w1.heap.size s (k + 1)).setCell ⟨w.heap.size, k / 2, none⟩ (Value.int .u8 (bits BinOp.or .u8 (u * 16) (nibv x.toNat)))).heap[w1.heap.size]? = some (.stringIter s (k + 1)) := by
          rw [Below.heap_setCell _ _ _ _ (by simp; omega)]
          exact Lib.iterAt_heap _ _ _ _ _ HIT.out
        rw [iterPos_of h5, iterPos_of HIT.out]
        omega
    · obtain rfl : k = 2 * m := by omega
      have hnx := next_end (P := Try.prog) hit (by rw [HS.out]; omega)
      have HALL := Lib.hid hall
      have HROW := Lib.hid hrow
      clear hall hrow
      go_wp2
      go_ret2
      refine .inl ⟨?_, ⟨_, by simp, HROW.out⟩, hb⟩
      unfold hexk
      refine List.all_eq_true.2 fun y hy => ?_
      obtain ⟨j, hj, rfl⟩ := List.mem_iff_getElem.1 hy
      have := HALL.out j (by rw [HS.out] at hj; exact hj)
      rw [List.getD_eq_getElem?_getD, List.getElem?_eq_getElem hj] at this
      exact this

theorem Bytes_hex (s : ByteArray) (l : List UInt8) (m : Nat) (hl : s.data.toList = l) (hs : l.length = 2 * m) (hm : m ≤ 100000000000) (h0 : 0 < m) (hk : hexk l = true) (w : World) :
    Calls Try.prog 44 #[.string s] w fun e w' => ∃ g, e = .returned (.tuple #[.slice (some ⟨g, 0, none⟩) m m, .int .i64 0]) ∧ w'.ownsRow w.heap.size 5 1 (.slice (some ⟨g, 0, none⟩) m m) m (unbs l (2 * m) m) ∧ Below w.heap.size w w' := by
  subst hl
  refine (Bytes_even s m hs hm h0 w).mono fun e w' h => ?_
  rcases h with ⟨_, ⟨g, h1, h2⟩, h3⟩ | ⟨hno, _⟩
  · exact ⟨g, h1, h2, h3⟩
  · rw [hk] at hno; cases hno
theorem Bytes_bad (s : ByteArray) (l : List UInt8) (m : Nat) (hl : s.data.toList = l) (hs : l.length = 2 * m) (hm : m ≤ 100000000000) (h0 : 0 < m) (hk : hexk l = false) (w : World) :
    Calls Try.prog 44 #[.string s] w fun e w' => e = .returned (.tuple #[.slice none 0 0, .int .i64 2]) ∧ Below w.heap.size w w' := by
  subst hl
  refine (Bytes_even s m hs hm h0 w).mono fun e w' h => ?_
  rcases h with ⟨hno, _⟩ | ⟨_, h1, h2⟩
  · rw [hk] at hno; cases hno
  · exact ⟨h1, h2⟩
theorem Bytes_dash (w : World) : Calls Try.prog 44 #[.string ⟨#[45]⟩] w fun e w' => e = .returned (.tuple #[.slice none 0 0, .int .i64 0]) ∧ w = w' := by
  go_enter Try.func44, Try.ntmps44
  go_wp2
  go_ret2
  simp
theorem Bytes_empty (w : World) : Calls Try.prog 44 #[.string ⟨#[]⟩] w fun e w' => e = .returned (.tuple #[.slice none 0 0, .int .i64 2]) ∧ w = w' := by
  go_enter Try.func44, Try.ntmps44
  go_wp2
  go_ret2
  simp
theorem Bytes_odd (s : ByteArray) (m : Nat) (hs : s.data.toList.length = 2 * m + 1) (hm : m ≤ 100000000000) (hd : s.data.toList ≠ [45]) (w : World) : Calls Try.prog 44 #[.string s] w fun e w' => e = .returned (.tuple #[.slice none 0 0, .int .i64 2]) ∧ w = w' := by
  have hsz : s.size = 2 * m + 1 := by rw [← hs]; simp
  have hL : s.toList = s.data.toList := Lib.toList_data s
  have hn0 : s.data.toList ≠ [] := by intro h; rw [h] at hs; simp at hs
  have h1 : (s.toList == [45]) = false := by rw [hL]; simpa using hd
  have h2 : ¬ s.toList = [] := by rw [hL]; exact hn0
  have h3 : s.toList.isEmpty = false := by rw [hL]; simpa using hn0
  clear hL hs hn0 hd
  go_enter Try.func44, Try.ntmps44
  go_wp2
  go_ret2
  simp
end Go.Proofs.Ytblpnohfileibaa
