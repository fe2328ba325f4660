/- Sums of 32 bits: crc.Sum, and the reference's. -/
import Derived.Test.YtblpnohfileibaaSTornM1
import Derived.Deep.QuietTactic
import Derived.BigQuiet
import Derived.Test.YtblpnohfileibaaSTornM0
import Derived.Deep.RegionHeld3
import Derived.RangeFuncNested
import Derived.RangeFuncBound
import Derived.RangeFuncCalls
import Derived.RangeFuncLeaves
import Derived.Shelf.Abstract
import Derived.Shelf.RegionOpen
import Derived.OwnWalkIn
import Derived.TacticsInMore
import Derived.LoopNIn
import Derived.LoopIn
import Derived.Test.YtblpnohfileibaaPSegTornx
namespace Go.Proofs.Ytblpnohfileibaa
open Go.RowKit

def sumS (l : List UInt8) : Nat := crcMore 0 l

theorem Sum_any (A : Option Addr) (n c : Nat) (l : List UInt8) (w : World) (hby : By w A n l) (hn : n ≤ 1000000000000) :
    Calls Try.prog 152 #[.slice A n c] w fun e w' => e = .returned (.int .u32 (sumS l)) ∧ w = w' := by
  have hM := More_any 0 (by omega) A n c l w hby hn
  have HM := Lib.hid hM
  clear hM
  go_enter Try.func152, Try.ntmps152
  go_wp2_with (go_at_call 162; refine HM.out.mono ?_; rintro e w' ⟨rfl, rfl⟩)
  go_ret
  exact ⟨by simp [sumS], rfl⟩

theorem xor_half (a b : Nat) : (a ^^^ b) / 2 = a / 2 ^^^ b / 2 := by
  have := Nat.shiftRight_xor_distrib (a := a) (b := b) (i := 1)
  simpa [Nat.shiftRight_eq_div_pow] using this
theorem xor_par (a b : Nat) : (a ^^^ b) % 2 = (a % 2 + b % 2) % 2 := by
  have := Nat.xor_mod_two_pow (a := a) (b := b) (n := 1)
  rw [Nat.pow_one] at this
  rw [this]
  rcases Nat.mod_two_eq_zero_or_one a with h | h <;> rcases Nat.mod_two_eq_zero_or_one b with h' | h' <;> rw [h, h'] <;> rfl
theorem not32 (r : Nat) (h : r < 4294967296) : 4294967295 ^^^ r = 4294967295 - r := by
  have e := congrArg BitVec.toNat (BitVec.not_def (x := BitVec.ofNat 32 r))
  rw [BitVec.toNat_not, BitVec.toNat_xor, BitVec.toNat_allOnes, BitVec.toNat_ofNat, Nat.mod_eq_of_lt h] at e
  exact e.symm

/-- the reference's register behind j bits of a byte c -/
def refR (r c j : Nat) : Nat := crcIt j (r ^^^ c) ^^^ (c / 2 ^ j)
theorem refR_zero (r c : Nat) : refR r c 0 = r := by unfold refR crcIt; rw [Nat.pow_zero, Nat.div_one, Nat.xor_assoc, Nat.xor_self, Nat.xor_zero]
theorem refR_done (r c : Nat) (h : c < 256) : refR r c 8 = crcIt 8 (r ^^^ c) := by unfold refR; rw [show c / 2 ^ 8 = 0 by omega, Nat.xor_zero]
theorem refR_step (r c j : Nat) : refR r c (j + 1) = if refR r c j % 2 = c / 2 ^ j % 2 then refR r c j / 2 else (refR r c j / 2) ^^^ 2197175160 := by
  unfold refR
  rw [xor_par, xor_half]
  have e : c / 2 ^ (j + 1) = c / 2 ^ j / 2 := by rw [Nat.pow_succ, Nat.div_div_eq_div_mul]
  rw [e]
  show crcF (crcIt j (r ^^^ c)) ^^^ _ = _
  generalize crcIt j (r ^^^ c) = q
  generalize c / 2 ^ j = d
  unfold crcF
  by_cases hq : q % 2 = 1
  · rw [if_pos hq, if_neg (by omega), Nat.xor_assoc, Nat.xor_assoc, Nat.xor_comm (d / 2)]
  · rw [if_neg hq, if_pos (by omega)]
theorem refR_lt {r c j : Nat} (hr : r < 4294967296) (hc : c < 256) : refR r c j < 4294967296 := by
  unfold refR
  have h1 := crcIt_lt j (xor_lt hr (b := c) (by omega))
  have h2 : c / 2 ^ j ≤ c := Nat.div_le_self _ _
  exact xor_lt h1 (by omega)

set_option maxHeartbeats 1000000 in
set_option maxRecDepth 100000 in
theorem RefSum_any (A : Option Addr) (n c : Nat) (l : List UInt8) (w : World) (hby : By w A n l) (hn : n ≤ 1000000000000) :
    Calls Try.prog 99 #[.slice A n c] w fun e w' => e = .returned (.int .u32 (sumS l)) ∧ w = w' := by
  have hl : l.length = n := by simpa using hby.1
  have hm : sumS l = 4294967295 - crcReg 4294967295 l := by
    unfold sumS crcMore
    rw [Nat.xor_zero, not32 _ (crcReg_lt (by omega) l)]
  have hlt := crcReg_lt (r := 4294967295) (by omega) l
  have HM := Lib.hid hm
  have HL := Lib.hid hl
  clear hl hm
  go_enter Try.func99, Try.ntmps99
  go_wp2
  go_loop [3, 4] (fun r i => ∃ k : Nat, k ≤ n ∧ i = .int .i64 k ∧ r = .int .u32 (crcReg 4294967295 (l.take k) : Nat)) (fun _ i => n - (intOf i).toNat)
  case atStart => exact ⟨0, Nat.zero_le _, rfl, rfl⟩
  case round =>
    obtain ⟨k, hk, rfl, rfl⟩ := hrel
    by_cases hlt2 : k < n
    · obtain ⟨b, o, rfl, x, hxk, hc⟩ := hby.at_ hlt2
      have hr := crcReg_lt (r := 4294967295) (by omega) (l.take k)
      have hsn : crcReg 4294967295 (l.take (k + 1)) = refR (crcReg 4294967295 (l.take k)) x.toNat 8 := by
        rw [List.take_add_one, hxk, refR_done _ _ x.toNat_lt]; exact crcReg_snoc _ _ _
      have HSN := Lib.hid hsn
      have HXK := Lib.hid hxk
      have HBY := Lib.hid hby
      clear hsn hxk hby hlt
      generalize crcReg 4294967295 (l.take k) = r at *
      go_wp2
      go_loop [3, 5, 6] (fun r' c' i => ∃ j : Nat, j ≤ 8 ∧ i = .int .i64 j ∧ r' = .int .u32 (refR r x.toNat j : Nat) ∧ c' = .int .u8 (x.toNat / 2 ^ j : Nat)) (fun _ _ i => 8 - (intOf i).toNat)
      case atStart => exact ⟨0, Nat.zero_le _, rfl, by rw [refR_zero], by rw [Nat.pow_zero, Nat.div_one]⟩
      case round =>
        obtain ⟨j, hj, rfl, rfl, rfl⟩ := hrel
        by_cases hj8 : j < 8
        · have hq := refR_lt (j := j) hr x.toNat_lt
          have hq2 := refR_step r x.toNat j
          have hd : x.toNat / 2 ^ (j + 1) = x.toNat / 2 ^ j / 2 := by rw [Nat.pow_succ, Nat.div_div_eq_div_mul]
          have hd2 : x.toNat / 2 ^ j < 256 := Nat.lt_of_le_of_lt (Nat.div_le_self _ _) x.toNat_lt
          have HQ2 := Lib.hid hq2
          have HD := Lib.hid hd
          clear hq2 hd
          generalize refR r x.toNat j = q at *
          generalize x.toNat / 2 ^ j = d at *
          have hx2 : bits .xor .u32 ((q : Int) / 2) 2197175160 = (((q / 2) ^^^ 2197175160 : Nat) : Int) := u32_xor_nat (q / 2) 2197175160 (by omega) (by omega)
          by_cases h1 : q % 2 = 1 <;> by_cases h2 : d % 2 = 1
          · have e1 : ((q : Int) % 2 == 1) = true := by rw [beq_iff_eq]; omega
            have e2 : ((d : Int) % 2 == 1) = true := by rw [beq_iff_eq]; omega
            have HE := Lib.hid (show q % 2 = d % 2 by omega)
            clear h1 h2
            go_wp2
            refine ⟨⟨j + 1, by omega, by go_num, ?_, by rw [HD.out]; simp⟩, by simp [intOf]; omega⟩
            rw [HQ2.out, if_pos HE.out]; simp
          · have e1 : ((q : Int) % 2 == 1) = true := by rw [beq_iff_eq]; omega
            have e2 : ((d : Int) % 2 == 1) = false := by rw [beq_eq_false_iff_ne]; omega
            have HE := Lib.hid (show ¬ q % 2 = d % 2 by omega)
            clear h1 h2
            go_wp2
            refine ⟨⟨j + 1, by omega, by go_num, ?_, by rw [HD.out]; simp⟩, by simp [intOf]; omega⟩
            rw [HQ2.out, if_neg HE.out]
          · have e1 : ((q : Int) % 2 == 1) = false := by rw [beq_eq_false_iff_ne]; omega
            have e2 : ((d : Int) % 2 == 1) = true := by rw [beq_iff_eq]; omega
            have HE := Lib.hid (show ¬ q % 2 = d % 2 by omega)
            clear h1 h2
            go_wp2
            refine ⟨⟨j + 1, by omega, by go_num, ?_, by rw [HD.out]; simp⟩, by simp [intOf]; omega⟩
            rw [HQ2.out, if_neg HE.out]
          · have e1 : ((q : Int) % 2 == 1) = false := by rw [beq_eq_false_iff_ne]; omega
            have e2 : ((d : Int) % 2 == 1) = false := by rw [beq_eq_false_iff_ne]; omega
            have HE := Lib.hid (show q % 2 = d % 2 by omega)
            clear h1 h2
            go_wp2
            refine ⟨⟨j + 1, by omega, by go_num, ?_, by rw [HD.out]; simp⟩, by simp [intOf]; omega⟩
            rw [HQ2.out, if_pos HE.out]; simp
        · obtain rfl : j = 8 := by omega
          go_wp2
          refine ⟨⟨k + 1, by omega, by go_num, by rw [HSN.out]⟩, by simp [intOf]; omega⟩
    · obtain rfl : k = n := by omega
      have e : l.take k = l := List.take_of_length_le (by rw [HL.out]; exact Nat.le_refl _)
      rw [e]
      go_wp2
      go_ret
      refine ⟨?_, rfl⟩
      rw [HM.out]
      simp
      omega
end Go.Proofs.Ytblpnohfileibaa

/- crc.Open: the bytes of a seal. -/
namespace Go.Proofs.Ytblpnohfileibaa
open Go.RowKit

/-- the bytes of which l is the seal -/
def openS (l : List UInt8) : Option (List UInt8) :=
  if l.length < 4 then none else if le (l.drop (l.length - 4)) = sumS (l.take (l.length - 4)) then some (l.take (l.length - 4)) else none

def OpenR (l : List UInt8) (w : World) (e : Ending) (w' : World) : Prop :=
  Below w.heap.size w w' ∧ match openS l with
    | none => e = .returned (.tuple #[.slice none 0 0, .bool false])
    | some b => ∃ A c, e = .returned (.tuple #[.slice A b.length c, .bool true]) ∧ By w' A b.length b ∧ b.length ≤ c

/-- a part of a slice that came in, from p on -/
theorem By.from_ {w : World} {A : Option Addr} {n : Nat} {l : List UInt8} (h : By w A n l) {p : Nat} (hp : p ≤ n) : By w (A.map (Addr.add · p)) (n - p) (l.drop p) := by
  have hl : l.length = n := by simpa using h.1
  by_cases h0 : p < n
  · obtain ⟨b, o, hA, _⟩ := h.2 (by omega)
    subst hA
    have := h.part (p := p) (k := n - p) (by omega) b o (fun _ => rfl)
    rw [List.take_of_length_le (by simp; omega)] at this
    simpa [Go.WideShapes.add_plain] using this
  · obtain rfl : p = n := by omega
    rw [List.drop_eq_nil_of_le (by omega), Nat.sub_self]
    exact ⟨rfl, fun h => absurd h (Nat.lt_irrefl _)⟩
theorem By.upto_ {w : World} {A : Option Addr} {n : Nat} {l : List UInt8} (h : By w A n l) {p : Nat} (hp : p ≤ n) : By w A p (l.take p) := by
  have hl : l.length = n := by simpa using h.1
  refine ⟨by simp; omega, fun h0 => ?_⟩
  obtain ⟨b, o, hA, hc⟩ := h.2 (by omega)
  refine ⟨b, o, hA, fun j u hu => hc j u ?_⟩
  rw [List.map_take, List.getElem?_take] at hu
  split at hu
  · exact hu
  · cases hu
theorem le_lt' : ∀ l : List UInt8, le l < 256 ^ l.length
  | [] => by simp [le]
  | b :: r => by
    have := le_lt' r
    have hb := b.toNat_lt
    simp only [le, List.length_cons, Nat.pow_succ]
    omega
theorem le4_lt {l : List UInt8} (h : l.length = 4) : le l < 4294967296 := by
  have := le_lt' l
  rw [h] at this
  simpa using this

set_option maxHeartbeats 1000000 in
set_option maxRecDepth 100000 in
theorem Open_any (A : Option Addr) (n c : Nat) (l : List UInt8) (w : World) (hby : By w A n l) (hn : n ≤ 100000000) (hcap : n ≤ c) :
    Calls Try.prog 134 #[.slice A n c] w (OpenR l w) := by
  have hl : l.length = n := by simpa using hby.1
  by_cases h4 : n < 4
  · have ho : openS l = none := by unfold openS; rw [if_pos (by omega)]
    have HO := Lib.hid ho
    clear ho hl
    go_enter Try.func134, Try.ntmps134
    go_wp2
    go_ret2
    unfold OpenR
    rw [HO.out]
    exact ⟨bel_rfl, by simp⟩
  · obtain ⟨m, rfl⟩ : ∃ m, n = m + 4 := ⟨n - 4, by omega⟩
    have hd : By w (A.map (Addr.add · m)) 4 (l.drop m) := by have := hby.from_ (p := m) (by omega); rwa [Nat.add_sub_cancel_left] at this
    have ht : By w A m (l.take m) := hby.upto_ (by omega)
    have hdl : (l.drop m).length = 4 := by rw [List.length_drop, hl]; omega
    have hnum : numS ⟨l.drop m, 0, 0⟩ 4 = (le (l.drop m), ⟨l.drop m, 4, 0⟩) := by
      have e : takeS ⟨l.drop m, 0, 0⟩ 4 = (l.drop m, ⟨l.drop m, 4, 0⟩) := by
        unfold takeS
        rw [if_neg (by simp), if_neg (by simp only [hdl]; omega)]
        simp [List.take_of_length_le (Nat.le_of_eq hdl)]
      unfold numS
      rw [e, if_pos hdl]
    have ho : openS l = if le (l.drop m) = sumS (l.take m) then some (l.take m) else none := by
      unfold openS
      rw [if_neg (by omega), hl, Nat.add_sub_cancel]
    have hv := le4_lt hdl
    have hN := fun w' (hb : Below w.heap.size w w') c' => NewCursor_any (A.map (Addr.add · m)) 4 c' (l.drop m) w' (Rd.below hd hb) (by omega)
    have hM := fun B w' (hc : Cur w' B ⟨l.drop m, 0, 0⟩) => (num4 B ⟨l.drop m, 0, 0⟩ w' hc).mono fun e w2 h => (by unfold NumR at h; rw [hnum] at h; exact h : e = .returned (.int .u64 (le (l.drop m) : Int)) ∧ Cur w2 B ⟨l.drop m, 4, 0⟩ ∧ Fr (· = B) w' w2)
    have hS := fun w' (hb : Below w.heap.size w w') c' => Sum_any A m c' (l.take m) w' (Rd.below ht hb) (by omega)
    have hsl : sumS (l.take m) < 4294967296 := by unfold sumS crcMore; exact xor_lt (by omega) (crcReg_lt (xor_lt (by omega) (by omega)) _)
    have HO := Lib.hid ho
    have HN := Lib.hid hN
    have HM := Lib.hid hM
    have HS := Lib.hid hS
    have HT := Lib.hid ht
    have HTL := Lib.hid (show (l.take m).length = m by rw [List.length_take, hl]; omega)
    generalize le (l.drop m) = a at *
    generalize sumS (l.take m) = b at *
    clear hd hdl hnum ho hN hM hS ht hl
    by_cases hab : a = b
    · subst hab
      have b0 : (0 : Int) ≤ (m : Int) := by omega
      have b1 : (m : Int) ≤ (c : Int) := by omega
      have b2 : m ≤ c := by omega
      have hwr : IntKind.u64.wrap (a : Int) = (a : Int) := wu (by omega) (by omega)
      go_enter Try.func134, Try.ntmps134
      go_wp2_with (go_at_call 100; (with_reducible refine (HN.out _ bel_rfl _).mono ?_); rintro e w1 ⟨B, rfl, hB, hcur, hb1⟩; have HC := Lib.hid hcur; clear hcur)
      go_region_held3 (fun w' => Below w.heap.size w w')
        (first
          | exact hb1
          | exact Below.drew hb1
          | assumption)
        (first
          | (go_at_call 101; (with_reducible refine (HM.out B _ (HC.out.below (Below.drew bel_rfl))).mono ?_); rintro e w2 ⟨rfl, hcur2, hfr2⟩; have hb2 := (Below.drew hb1).trans (hfr2.below_of hb1.size (fun k hk e => by omega)))
          | (go_at_call 152; (with_reducible refine (HS.out _ (by assumption) _).mono ?_); rintro e w3 ⟨rfl, rfl⟩))
      go_wp2_with (at_builtin; refine app_u8 _ rfl _ _ rfl w.heap.size _ 0 [] rfl (World.ownsRow_nil _ _ _ _) A m c ((l.take m).map bv) rfl (Rd.below HT.out hb2) (bv_oneCell _) (by omega) hb2.size ?_; intro A1 c1 w4 hown hgrow hblk)
      go_ret2
      have hown' := hown
      simp only [List.nil_append, Nat.zero_add] at hown'
      refine ⟨hb2.grown hgrow hb2.size (fun g hg => by cases hg), ?_⟩
      rw [HO.out, if_pos trivial]
      refine ⟨A1, c1, by rw [HTL.out]; simp, by rw [HTL.out]; exact own_by hown', ?_⟩
      rw [HTL.out]
      obtain ⟨A', c', hv, h1, _⟩ := own_slice hown'
      injection hv with _ _ h3
      omega
    · have hne : ((a : Int) != (b : Int)) = true := by simp; omega
      have HAB := Lib.hid hab
      clear hab
      have b0 : (0 : Int) ≤ (m : Int) := by omega
      have b1 : (m : Int) ≤ (c : Int) := by omega
      have b2 : m ≤ c := by omega
      have hwr : IntKind.u64.wrap (b : Int) = (b : Int) := wu (by omega) (by omega)
      go_enter Try.func134, Try.ntmps134
      go_wp2_with (go_at_call 100; (with_reducible refine (HN.out _ bel_rfl _).mono ?_); rintro e w1 ⟨B, rfl, hB, hcur, hb1⟩; have HC := Lib.hid hcur; clear hcur)
      go_region_held3 (fun w' => Below w.heap.size w w')
        (first
          | exact hb1
          | exact Below.drew hb1
          | assumption)
        (first
          | (go_at_call 101; (with_reducible refine (HM.out B _ (HC.out.below (Below.drew bel_rfl))).mono ?_); rintro e w2 ⟨rfl, hcur2, hfr2⟩; have hb2 := (Below.drew hb1).trans (hfr2.below_of hb1.size (fun k hk e => by omega)))
          | (go_at_call 152; (with_reducible refine (HS.out _ (by assumption) _).mono ?_); rintro e w3 ⟨rfl, rfl⟩))
      go_wp2
      go_ret2
      refine ⟨hb2, ?_⟩
      rw [HO.out, if_neg HAB.out]
      simp
end Go.Proofs.Ytblpnohfileibaa

/- box.Next: the box at a place. -/
namespace Go.Proofs.Ytblpnohfileibaa
open Go.RowKit

/-- the bytes of the box at a place, if it is right -/
def nextS (l : List UInt8) (p : Nat) : Option (List UInt8) :=
  if l.length < p + 2 then none else
  if le ((l.drop p).take 2) = 0 then none else if 4096 < le ((l.drop p).take 2) then none else
  if l.length < p + (le ((l.drop p).take 2) + 6) then none else
  (openS ((l.drop p).take (le ((l.drop p).take 2) + 6))).map (·.drop 2)

theorem Size_any (k : Nat) (hk : 0 < k) (hk2 : k ≤ 4096) (w : World) : Calls Try.prog 133 #[.int .i64 k] w fun e w' => e = .returned (.int .i64 ((k + 6 : Nat) : Int)) ∧ w = w' := by
  have h1 : decide ((k : Int) < 1) = false := by rw [decide_eq_false_iff_not]; omega
  go_enter Try.func133, Try.ntmps133
  go_wp2
  go_ret
  exact ⟨by simp; omega, rfl⟩

/-- where there are bytes, the block is one of bytes -/
def BT (w : World) (A : Option Addr) (n : Nat) : Prop := 0 < n → ∀ a, A = some a → ∃ c fr, w.heap[a.block]? = some (.cells c 5 fr)
theorem own_bt {w : World} {base n c : Nat} {A : Option Addr} {xs : List Value} (h : w.ownsRow base 5 1 (.slice A n c) n xs) : BT w A n := by
  intro h0 a ha
  rcases h.2 with ⟨h', _⟩ | ⟨g, cap, cur, h', _, hg, _⟩
  · injection h' with h1 _ _; rw [h1] at ha; cases ha
  · injection h' with h1 _ _
    rw [h1] at ha
    cases ha
    exact ⟨cur, _, hg⟩
theorem BT.below {w w' : World} {A : Option Addr} {n : Nat} (h : BT w A n) (hb : Below w.heap.size w w') : BT w' A n := fun h0 a ha => by
  obtain ⟨c, fr, hc⟩ := h h0 a ha
  exact ⟨c, fr, (hb.block _ (Array.getElem?_eq_some_iff.1 hc).1).trans hc⟩

def NextR (l : List UInt8) (p : Nat) (w : World) (e : Ending) (w' : World) : Prop :=
  Below w.heap.size w w' ∧ match nextS l p with
    | none => ∃ er : Int, er ≠ 0 ∧ e = .returned (.tuple #[.slice none 0 0, .int .i64 0, .int .i64 er])
    | some b => ∃ A c, e = .returned (.tuple #[.slice A b.length c, .int .i64 ((p + (b.length + 6) : Nat) : Int), .int .i64 0]) ∧ By w' A b.length b ∧ b.length ≤ c ∧ (A = none → b.length = 0) ∧ BT w' A b.length

theorem openS_len {l b : List UInt8} (h : openS l = some b) : b = l.take (l.length - 4) ∧ 4 ≤ l.length := by
  unfold openS at h
  split at h
  · cases h
  · split at h
    · cases h; exact ⟨rfl, by omega⟩
    · cases h

theorem le2_lt {l : List UInt8} (h : l.length = 2) : le l < 65536 := by
  have := le_lt' l
  rw [h] at this
  simpa using this

set_option maxHeartbeats 2000000 in
set_option maxRecDepth 100000 in
theorem Next_any (A : Option Addr) (n c : Nat) (l : List UInt8) (p : Nat) (w : World) (hby : By w A n l) (hn : n ≤ 100000000) (hcap : n ≤ c) (hp : p ≤ n) :
    Calls Try.prog 110 #[.slice A n c, .int .i64 p] w (NextR l p w) := by
  have hl : l.length = n := by simpa using hby.1
  by_cases h2 : n < p + 2
  · have ho : nextS l p = none := by unfold nextS; rw [if_pos (by omega)]
    have HO := Lib.hid ho
    clear ho hl
    go_enter Try.func110, Try.ntmps110
    go_wp2
    all_goals go_ret3
    all_goals unfold NextR
    all_goals rw [HO.out]
    all_goals exact ⟨bel_rfl, 1, by omega, by simp⟩
  · obtain ⟨r, rfl⟩ : ∃ r, n = p + r := ⟨n - p, by omega⟩
    have hr2 : 2 ≤ r := by omega
    have hd : By w (A.map (Addr.add · p)) r (l.drop p) := by have := hby.from_ (p := p) (by omega); rwa [Nat.add_sub_cancel_left] at this
    have ht : By w (A.map (Addr.add · p)) 2 ((l.drop p).take 2) := hd.upto_ hr2
    have htl : ((l.drop p).take 2).length = 2 := by rw [List.length_take, List.length_drop, hl]; omega
    have hnum : numS ⟨(l.drop p).take 2, 0, 0⟩ 2 = (le ((l.drop p).take 2), ⟨(l.drop p).take 2, 2, 0⟩) := by
      have e : takeS ⟨(l.drop p).take 2, 0, 0⟩ 2 = ((l.drop p).take 2, ⟨(l.drop p).take 2, 2, 0⟩) := by
        unfold takeS
        rw [if_neg (by simp), if_neg (by simp only [htl]; omega)]
        simp [List.take_of_length_le (Nat.le_of_eq htl)]
      unfold numS
      rw [e, if_pos htl]
    have ho : nextS l p = if le ((l.drop p).take 2) = 0 then none else if 4096 < le ((l.drop p).take 2) then none else
        if r < le ((l.drop p).take 2) + 6 then none else (openS ((l.drop p).take (le ((l.drop p).take 2) + 6))).map (·.drop 2) := by
      unfold nextS
      rw [if_neg (by omega), hl]
      simp only [Nat.add_lt_add_iff_left]
    have hv := le2_lt htl
    have hN := fun w' (hb : Below w.heap.size w w') c' => NewCursor_any (A.map (Addr.add · p)) 2 c' ((l.drop p).take 2) w' (Rd.below ht hb) (by omega)
    have hM := fun B w' (hc : Cur w' B ⟨(l.drop p).take 2, 0, 0⟩) => (num2 B ⟨(l.drop p).take 2, 0, 0⟩ w' hc).mono fun e w2 h => (by unfold NumR at h; rw [hnum] at h; exact h : e = .returned (.int .u64 (le ((l.drop p).take 2) : Int)) ∧ Cur w2 B ⟨(l.drop p).take 2, 2, 0⟩ ∧ Fr (· = B) w' w2)
    generalize le ((l.drop p).take 2) = k at *
    have HO := Lib.hid ho
    have HN := Lib.hid hN
    have HM := Lib.hid hM
    have HD := Lib.hid hd
    have HL := Lib.hid hl
    have b0 : (0 : Int) ≤ (p : Int) := by omega
    have b1 : p ≤ c := by omega
    have b2 : 2 ≤ c - p := by omega
    clear hnum ho hN hM hd ht htl hl hby
    by_cases hk0 : k = 0
    · subst hk0
      have HOP : Hid True := trivial
      go_enter Try.func110, Try.ntmps110
      go_wp2_with (first
        | (go_at_call 100; (refine (HN.out _ bel_rfl _).mono ?_); rintro e w1 ⟨B, rfl, hB, hcur, hb1⟩; have HC := Lib.hid hcur; clear hcur)
        | (go_at_call 101; (with_reducible refine (HM.out B _ HC.out).mono ?_); rintro e w2 ⟨rfl, hcur2, hfr2⟩; have hb2 := hb1.trans (hfr2.below_of hb1.size (fun k hk e => by omega)); clear hcur2 hfr2)
        | (go_at_call 133; (with_reducible refine (Size_any k (by omega) (by omega) _).mono ?_); rintro e w' ⟨rfl, rfl⟩)
        | (go_at_call 134; (refine (HOP.out _ hb2 _ (by omega)).mono ?_); rintro e w3 ⟨A3, c3, rfl, hby3, hc3, hb3⟩; have HBY3 := Lib.hid hby3; clear hby3)
        | (go_at_call 134; (refine (HOP.out _ hb2 _ (by omega)).mono ?_); rintro e w3 ⟨rfl, hb3⟩)
        | (at_builtin; refine app_u8 _ rfl _ _ rfl w.heap.size _ 0 [] rfl (World.ownsRow_nil _ _ _ _) _ k _ (body.map bv) rfl HBY3.out (bv_oneCell _) (by omega) (bel_trans hb2 hb3).size ?_; intro A1 c1 w4 hown hgrow hblk))
      go_ret3
      refine ⟨hb2, ?_⟩
      rw [HO.out, if_pos trivial]
      exact ⟨2, by omega, by simp⟩
    by_cases hk1 : 4096 < k
    · have HOP : Hid True := trivial
      go_enter Try.func110, Try.ntmps110
      go_wp2_with (first
        | (go_at_call 100; (refine (HN.out _ bel_rfl _).mono ?_); rintro e w1 ⟨B, rfl, hB, hcur, hb1⟩; have HC := Lib.hid hcur; clear hcur)
        | (go_at_call 101; (with_reducible refine (HM.out B _ HC.out).mono ?_); rintro e w2 ⟨rfl, hcur2, hfr2⟩; have hb2 := hb1.trans (hfr2.below_of hb1.size (fun k hk e => by omega)); clear hcur2 hfr2)
        | (go_at_call 133; (with_reducible refine (Size_any k (by omega) (by omega) _).mono ?_); rintro e w' ⟨rfl, rfl⟩)
        | (go_at_call 134; (refine (HOP.out _ hb2 _ (by omega)).mono ?_); rintro e w3 ⟨A3, c3, rfl, hby3, hc3, hb3⟩; have HBY3 := Lib.hid hby3; clear hby3)
        | (go_at_call 134; (refine (HOP.out _ hb2 _ (by omega)).mono ?_); rintro e w3 ⟨rfl, hb3⟩)
        | (at_builtin; refine app_u8 _ rfl _ _ rfl w.heap.size _ 0 [] rfl (World.ownsRow_nil _ _ _ _) _ k _ (body.map bv) rfl HBY3.out (bv_oneCell _) (by omega) (bel_trans hb2 hb3).size ?_; intro A1 c1 w4 hown hgrow hblk))
      go_ret3
      refine ⟨hb2, ?_⟩
      rw [HO.out, if_neg hk0, if_pos hk1]
      exact ⟨3, by omega, by simp⟩
    by_cases hk2 : r < k + 6
    · have HOP : Hid True := trivial
      go_enter Try.func110, Try.ntmps110
      go_wp2_with (first
        | (go_at_call 100; (refine (HN.out _ bel_rfl _).mono ?_); rintro e w1 ⟨B, rfl, hB, hcur, hb1⟩; have HC := Lib.hid hcur; clear hcur)
        | (go_at_call 101; (with_reducible refine (HM.out B _ HC.out).mono ?_); rintro e w2 ⟨rfl, hcur2, hfr2⟩; have hb2 := hb1.trans (hfr2.below_of hb1.size (fun k hk e => by omega)); clear hcur2 hfr2)
        | (go_at_call 133; (with_reducible refine (Size_any k (by omega) (by omega) _).mono ?_); rintro e w' ⟨rfl, rfl⟩)
        | (go_at_call 134; (refine (HOP.out _ hb2 _ (by omega)).mono ?_); rintro e w3 ⟨A3, c3, rfl, hby3, hc3, hb3⟩; have HBY3 := Lib.hid hby3; clear hby3)
        | (go_at_call 134; (refine (HOP.out _ hb2 _ (by omega)).mono ?_); rintro e w3 ⟨rfl, hb3⟩)
        | (at_builtin; refine app_u8 _ rfl _ _ rfl w.heap.size _ 0 [] rfl (World.ownsRow_nil _ _ _ _) _ k _ (body.map bv) rfl HBY3.out (bv_oneCell _) (by omega) (bel_trans hb2 hb3).size ?_; intro A1 c1 w4 hown hgrow hblk))
      go_ret3
      refine ⟨hb2, ?_⟩
      rw [HO.out, if_neg hk0, if_neg hk1, if_pos hk2]
      exact ⟨1, by omega, by simp⟩
    have hin : By w (A.map (Addr.add · p)) (k + 6) ((l.drop p).take (k + 6)) := HD.out.upto_ (by omega)
    have hil : ((l.drop p).take (k + 6)).length = k + 6 := by rw [List.length_take, List.length_drop, HL.out]; omega
    have hOP := fun w' (hb : Below w.heap.size w w') c' (hc : k + 6 ≤ c') => Open_any (A.map (Addr.add · p)) (k + 6) c' ((l.drop p).take (k + 6)) w' (Rd.below hin hb) (by omega) hc
    have b6 : k + 6 ≤ c - p := by omega
    cases hop : openS ((l.drop p).take (k + 6)) with
    | none =>
      have hOP2 : ∀ w' (hb : Below w.heap.size w w') c' (hc : k + 6 ≤ c'), Calls Try.prog 134 #[.slice (A.map (Addr.add · p)) (k + 6) c'] w' fun e w2 => e = .returned (.tuple #[.slice none 0 0, .bool false]) ∧ Below w'.heap.size w' w2 :=
        fun w' hb c' hc => (hOP w' hb c' hc).mono fun e w2 h => by unfold OpenR at h; rw [hop] at h; exact ⟨h.2, h.1⟩
      have HOP := Lib.hid hOP2
      have HOO := Lib.hid hop
      clear hOP hOP2 hop hin hil
      go_enter Try.func110, Try.ntmps110
      go_wp2_with (first
        | (go_at_call 100; (refine (HN.out _ bel_rfl _).mono ?_); rintro e w1 ⟨B, rfl, hB, hcur, hb1⟩; have HC := Lib.hid hcur; clear hcur)
        | (go_at_call 101; (with_reducible refine (HM.out B _ HC.out).mono ?_); rintro e w2 ⟨rfl, hcur2, hfr2⟩; have hb2 := hb1.trans (hfr2.below_of hb1.size (fun k hk e => by omega)); clear hcur2 hfr2)
        | (go_at_call 133; (with_reducible refine (Size_any k (by omega) (by omega) _).mono ?_); rintro e w' ⟨rfl, rfl⟩)
        | (go_at_call 134; (refine (HOP.out _ hb2 _ (by omega)).mono ?_); rintro e w3 ⟨A3, c3, rfl, hby3, hc3, hb3⟩; have HBY3 := Lib.hid hby3; clear hby3)
        | (go_at_call 134; (refine (HOP.out _ hb2 _ (by omega)).mono ?_); rintro e w3 ⟨rfl, hb3⟩)
        | (at_builtin; refine app_u8 _ rfl _ _ rfl w.heap.size _ 0 [] rfl (World.ownsRow_nil _ _ _ _) _ k _ (body.map bv) rfl HBY3.out (bv_oneCell _) (by omega) (bel_trans hb2 hb3).size ?_; intro A1 c1 w4 hown hgrow hblk))
      go_ret3
      refine ⟨bel_trans hb2 hb3, ?_⟩
      rw [HO.out, if_neg hk0, if_neg hk1, if_neg hk2, HOO.out]
      exact ⟨4, by omega, by simp⟩
    | some inner =>
      obtain ⟨hinn, _⟩ := openS_len hop
      rw [hil] at hinn
      have hlen : inner.length = k + 2 := by rw [hinn, List.length_take, hil]; omega
      have hOP2 : ∀ w' (hb : Below w.heap.size w w') c' (hc : k + 6 ≤ c'), Calls Try.prog 134 #[.slice (A.map (Addr.add · p)) (k + 6) c'] w' fun e w2 => ∃ A3 c3, e = .returned (.tuple #[.slice A3 (k + 2) c3, .bool true]) ∧ By w2 (A3.map (Addr.add · 2)) k (inner.drop 2) ∧ k + 2 ≤ c3 ∧ Below w'.heap.size w' w2 :=
        fun w' hb c' hc => (hOP w' hb c' hc).mono fun e w2 h => by
          unfold OpenR at h
          rw [hop] at h
          obtain ⟨hb3, A3, c3, h1, h2, h3⟩ := h
          rw [hlen] at h1 h2 h3
          exact ⟨A3, c3, h1, h2.from_ (p := 2) (by omega), h3, hb3⟩
      have HOP := Lib.hid hOP2
      have HOO := Lib.hid hop
      have HBL := Lib.hid (show (inner.drop 2).length = k by rw [List.length_drop, hlen]; omega)
      clear hOP hOP2 hop hin hil hlen hinn
      generalize hbd : inner.drop 2 = body at HOP HBL
      have HBD := Lib.hid hbd
      clear hbd
      go_enter Try.func110, Try.ntmps110
      go_wp2_with (first
        | (go_at_call 100; (refine (HN.out _ bel_rfl _).mono ?_); rintro e w1 ⟨B, rfl, hB, hcur, hb1⟩; have HC := Lib.hid hcur; clear hcur)
        | (go_at_call 101; (with_reducible refine (HM.out B _ HC.out).mono ?_); rintro e w2 ⟨rfl, hcur2, hfr2⟩; have hb2 := hb1.trans (hfr2.below_of hb1.size (fun k hk e => by omega)); clear hcur2 hfr2)
        | (go_at_call 133; (with_reducible refine (Size_any k (by omega) (by omega) _).mono ?_); rintro e w' ⟨rfl, rfl⟩)
        | (go_at_call 134; (refine (HOP.out _ hb2 _ (by omega)).mono ?_); rintro e w3 ⟨A3, c3, rfl, hby3, hc3, hb3⟩; have HBY3 := Lib.hid hby3; clear hby3)
        | (go_at_call 134; (refine (HOP.out _ hb2 _ (by omega)).mono ?_); rintro e w3 ⟨rfl, hb3⟩)
        | (at_builtin; refine app_u8 _ rfl _ _ rfl w.heap.size _ 0 [] rfl (World.ownsRow_nil _ _ _ _) _ k _ (body.map bv) rfl HBY3.out (bv_oneCell _) (by omega) (bel_trans hb2 hb3).size ?_; intro A1 c1 w4 hown hgrow hblk))
      go_ret3
      have hown' := hown
      simp only [List.nil_append, Nat.zero_add] at hown'
      refine ⟨(bel_trans hb2 hb3).grown hgrow (bel_trans hb2 hb3).size (fun g hg => by cases hg), ?_⟩
      rw [HO.out, if_neg hk0, if_neg hk1, if_neg hk2, HOO.out]
      simp only [Option.map_some, HBD.out]
      rw [HBL.out]
      obtain ⟨A', c', hv, h1, _⟩ := own_slice hown'
      injection hv with h4 _ h3
      refine ⟨A1, c1, by simp, own_by hown', by omega, fun h => ?_, own_bt hown'⟩
      subst h
      rcases hown'.2 with ⟨_, h0⟩ | ⟨_, _, _, h0, _⟩
      · exact h0
      · cases h0
end Go.Proofs.Ytblpnohfileibaa

/- box.Valid: the bytes of all boxes that are right: a range over a function. -/
namespace Go.Proofs.Ytblpnohfileibaa
open Go.RowKit Go.Shelf
attribute [local go_sem] Oper.semAt_some

/-- the boxes from a place on, at most f of them -/
def validF (l : List UInt8) : Nat → Nat → List (List UInt8)
  | 0, _ => []
  | f + 1, p => match nextS l p with
    | none => []
    | some b => b :: validF l f (p + (b.length + 6))
/-- the bytes of all boxes that are right -/
def validS (l : List UInt8) : List (List UInt8) := validF l (l.length + 1) 0

theorem nextS_le {l b : List UInt8} {p : Nat} (h : nextS l p = some b) : p + (b.length + 6) ≤ l.length ∧ b.length ≤ 4096 := by
  unfold nextS at h
  split at h
  · cases h
  · split at h
    · cases h
    · split at h
      · cases h
      · split at h
        · cases h
        · rename_i h1 h2 h3 h4
          cases ho : openS ((l.drop p).take (le ((l.drop p).take 2) + 6)) with
          | none => rw [ho] at h; cases h
          | some x =>
            rw [ho] at h
            cases h
            obtain ⟨e, _⟩ := openS_len ho
            have : x.length = le ((l.drop p).take 2) + 2 := by
              rw [e]
              simp only [List.length_take, List.length_drop]
              omega
            simp only [List.length_drop]
            omega
theorem validF_step {l b : List UInt8} {p f : Nat} (h : nextS l p = some b) : validF l (f + 1) p = b :: validF l f (p + (b.length + 6)) := by simp [validF, h]
theorem validF_more {l : List UInt8} : ∀ (f p : Nat), l.length < p + f → validF l f p = validF l (f + 1) p
  | 0, p, h => by
    have : nextS l p = none := by unfold nextS; rw [if_pos (by omega)]
    simp [validF, this]
  | f + 1, p, h => by
    unfold validF
    cases hn : nextS l p with
    | none => rfl
    | some b =>
      simp only
      rw [validF_more f (p + (b.length + 6)) (by omega)]

/-- what a round of the loop over the boxes keeps -/
def YieldOk (l : Nat) (m : Nat) (J : List (List UInt8) → World → Prop) : Prop :=
  ∀ (pre : List (List UInt8)) (A : Option Addr) (n c : Nat) (next : Int) (body : List UInt8) (W : World), J pre W → pre.length ≤ 100000000 → By W A n body → (A = none → n = 0) → n ≤ 4096 → n ≤ c → BT W A n →
    YieldAt Fence.wide m Try.prog l #[.slice A n c, .int .i64 next] W fun e W' => e = .returned (.bool true) ∧ J (pre ++ [body]) W'

theorem Below.rd_low {n0 : Nat} {w w' : World} (hb : Below n0 w w') {A : Option Addr} {n : Nat} {l : List UInt8} (h : By w A n l) (hA : 0 < n → ∀ a, A = some a → a.block < n0) : By w' A n l := by
  refine ⟨h.1, fun hn => ?_⟩
  obtain ⟨b, o, e, hc⟩ := h.2 hn
  exact ⟨b, o, e, fun j u hu => (hb.cell (p := ⟨b, o + j, none⟩) (hA hn ⟨b, o, none⟩ e)).trans (hc j u hu)⟩

set_option maxHeartbeats 1000000 in
set_option maxRecDepth 100000 in
theorem boxes1_in (l V m : Nat) (A : Option Addr) (n c : Nat) (bs : List UInt8) (J : List (List UInt8) → World → Prop) (hJ : ∀ pre W W', J pre W → Below W.heap.size W W' → J pre W')
    (hJV : ∀ pre W, J pre W → W.cell? ⟨V, 0, none⟩ = some (.slice A n c) ∧ By W A n bs) (hY : YieldOk l (m - 1) J) (W : World) (hn : n ≤ 100000000) (hcap : n ≤ c) (hl : bs.length = n) (h0 : J [] W) :
    CallsIn Fence.wide m Try.prog 109 #[.func (.yield l) #[] #[], .pointer (some ⟨V, 0, none⟩)] W fun e W' => e = .returned (.tuple #[]) ∧ J (validS bs) W' := by
  have HL := Lib.hid hl
  have HJV := Lib.hid hJV
  have HJ := Lib.hid hJ
  have HY := Lib.hid hY
  have H0 := Lib.hid h0
  clear hl hJV hJ hY h0
  refine callsIn_of_wp Try.func109 rfl trivial ?_ rfl
  simp only [Try.ntmps109, List.size_toArray, List.length_cons, List.length_nil, Nat.reduceAdd, Nat.reduceSub, Array.replicate_succ, Array.replicate_zero, List.push_toArray, List.append_toArray, List.nil_append, List.cons_append]
  gi_wp2
  gi_loopw [3] (fun i wr => ∃ (p : Nat) (pre : List (List UInt8)), p ≤ n ∧ i = .int .i64 p ∧ pre.length ≤ p ∧ validS bs = pre ++ validF bs (n + 1 - p) p ∧ J pre wr) (fun i _ => n - (intOf i).toNat)
  case atStart =>
    exact ⟨0, [], Nat.zero_le _, rfl, Nat.zero_le _, by unfold validS; rw [HL.out]; rfl, H0.out⟩
  case round =>
    obtain ⟨p, pre, hp, rfl, hpl, hval, hj⟩ := hrel
    have HVAL := Lib.hid hval
    have HJJ := Lib.hid hj
    clear hval hj
    obtain ⟨hcV, hbyr⟩ := HJV.out _ _ HJJ.out
    have HBYR := Lib.hid hbyr
    clear hbyr
    have hN := Next_any A n c bs p wr HBYR.out hn hcap hp
    cases hnx : nextS bs p with
    | none =>
      have hN2 : Calls Try.prog 110 #[.slice A n c, .int .i64 p] wr fun e w' => ∃ er : Int, (er != 0) = true ∧ e = .returned (.tuple #[.slice none 0 0, .int .i64 0, .int .i64 er]) ∧ Below wr.heap.size wr w' :=
        hN.mono fun e w' h => by
          unfold NextR at h
          rw [hnx] at h
          obtain ⟨h1, er, h2, h3⟩ := h
          exact ⟨er, by simpa using h2, h3, h1⟩
      have HN := Lib.hid hN2
      have HX := Lib.hid hnx
      clear hN hN2 hnx
      gi_wp2_with (refine ⟨trivial, fun h => absurd h (by decide), ?_⟩; gi_at_call 110; refine (callsIn_wide.2 HN.out).mono ?_; rintro e w1 ⟨er, her, rfl, hb1⟩)
      refine ⟨fun _ h => (by cases h), ?_⟩
      gi_wp2
      refine bodyPost_ret (results_none rfl _ _ _) rfl ?_
      refine ⟨rfl, ?_⟩
      have hv := HVAL.out
      have e1 : validF bs (n + 1 - p) p = [] := by
        rw [show n + 1 - p = (n - p) + 1 by omega]
        simp [validF, HX.out]
      rw [e1, List.append_nil] at hv
      rw [hv]
      exact HJ.out _ _ _ HJJ.out hb1
    | some b =>
      obtain ⟨hle, hb4⟩ := nextS_le hnx
      rw [HL.out] at hle
      have hN2 : Calls Try.prog 110 #[.slice A n c, .int .i64 p] wr fun e w' => ∃ A3 c3, e = .returned (.tuple #[.slice A3 b.length c3, .int .i64 ((p + (b.length + 6) : Nat) : Int), .int .i64 0]) ∧ By w' A3 b.length b ∧ b.length ≤ c3 ∧ (A3 = none → b.length = 0) ∧ BT w' A3 b.length ∧ Below wr.heap.size wr w' :=
        hN.mono fun e w' h => by
          unfold NextR at h
          rw [hnx] at h
          obtain ⟨h1, A3, c3, h2, h3, h4, h5, h6⟩ := h
          exact ⟨A3, c3, h2, h3, h4, h5, h6, h1⟩
      have HN := Lib.hid hN2
      have HX := Lib.hid hnx
      clear hN hN2 hnx
      gi_wp2_with (refine ⟨trivial, fun h => absurd h (by decide), ?_⟩; gi_at_call 110; refine (callsIn_wide.2 HN.out).mono ?_; rintro e w1 ⟨A3, c3, rfl, hby3, hc3, hnil3, hbt3, hb1⟩; obtain ⟨fn, tmps, assign, body, hy, hR⟩ := HY.out pre A3 b.length c3 ((p : Int) + ((b.length : Int) + 6)) b w1 (HJ.out _ _ _ HJJ.out hb1) (by omega) hby3 hnil3 hb4 hc3 hbt3; have HR := Lib.hid hR; have HB := Lib.hid hby3; clear hR hby3 hnil3 hbt3)
      refine ⟨fun h => absurd h (by decide), HR.out.mono ?_⟩
      rintro e W3 ⟨rfl, hJ3⟩
      gi_wp2
      go_roundw
      case rel => exact ⟨p + (b.length + 6), pre ++ [b], by omega, by simp, by simp; omega, by
        rw [HVAL.out, List.append_assoc]
        congr 1
        have e1 : n + 1 - p = ((n + 1 - (p + (b.length + 6))) + (b.length + 5)) + 1 := by omega
        rw [e1, validF_step HX.out]
        have e2 : ∀ q f, n < (p + (b.length + 6)) + f → validF bs (f + q) (p + (b.length + 6)) = validF bs f (p + (b.length + 6)) := by
          intro q f hf
          induction q with
          | zero => rfl
          | succ q ih => rw [← Nat.add_assoc, ← validF_more _ _ (by rw [HL.out]; omega), ih]
        rw [e2 _ _ (by omega)]
        rfl, hJ3⟩
      case measure => simp [intOf]; omega
end Go.Proofs.Ytblpnohfileibaa

/- What a taker takes of bodies and of segments: the plain part. -/
namespace Go.Proofs.Ytblpnohfileibaa
open Go.RowKit

/-- what the taker answers: the record, whether it is taken, and what it knows then -/
def takeT (first : Bool) (aw : Nat) (l : List UInt8) : Rec × Bool × Bool × Nat :=
  if (decS l).2 ≠ 0 ∨ (first = false ∧ (decS l).1.seq ≠ aw) then (zeroRec, false, first, aw) else ((decS l).1, true, false, ((decS l).1.seq + 1) % 18446744073709551616)

/-- the records of bodies, till one is not taken; what the taker knows then -/
def bodiesS : Bool × Nat → List (List UInt8) → List Rec × Bool × Nat
  | st, [] => ([], st)
  | st, b :: bs => if (takeT st.1 st.2 b).2.1 = true then ((takeT st.1 st.2 b).1 :: (bodiesS (takeT st.1 st.2 b).2.2 bs).1, (bodiesS (takeT st.1 st.2 b).2.2 bs).2) else ([], (takeT st.1 st.2 b).2.2)

/-- the records of segments -/
def segsS : Bool × Nat → List (List UInt8) → List Rec
  | _, [] => []
  | st, b :: bs => (bodiesS st (validS b)).1 ++ segsS (bodiesS st (validS b)).2 bs
end Go.Proofs.Ytblpnohfileibaa

/- Boxes of records one behind the other, cut off anywhere: the plain part. -/
namespace Go.Proofs.Ytblpnohfileibaa
open Go.RowKit

/-- a number's bytes, of a width, the lowest first -/
def leB : Nat → Nat → List UInt8
  | 0, _ => []
  | k + 1, n => UInt8.ofNat n :: leB k (n / 256)
theorem leB_len (k n : Nat) : (leB k n).length = k := by
  induction k generalizing n with
  | zero => rfl
  | succ k ih => simp [leB, ih]
theorem le_leB (k n : Nat) (h : n < 256 ^ k) : le (leB k n) = n := by
  induction k generalizing n with
  | zero => simp [leB, le]; simp at h; omega
  | succ k ih =>
    simp only [leB, le]
    rw [Nat.pow_succ] at h
    rw [ih _ (by omega), UInt8.toNat_ofNat']
    omega

/-- a record's bytes -/
def recB (r : Rec) : List UInt8 :=
  leB 1 r.kind.toNat ++ (leB 8 r.seq ++ (leB 1 r.tenant.size ++ (r.tenant.data.toList ++ ((if hasL r.kind then leB 8 r.lease else []) ++ ((if hasN r.kind then leB 8 r.n else []) ++ (if hasB r.kind then leB 8 r.bits else []))))))
/-- a box's bytes -/
def boxB (b : List UInt8) : List UInt8 := (leB 2 b.length ++ b) ++ leB 4 (sumS (leB 2 b.length ++ b))
def boxR (r : Rec) : List UInt8 := boxB (recB r)

/-- numbers that are those of their type -/
def RecOk (r : Rec) : Prop := r.seq < 18446744073709551616 ∧ r.lease < 18446744073709551616 ∧ r.n < 18446744073709551616 ∧ r.bits < 18446744073709551616

theorem takeS_at (a b c : List UInt8) : takeS ⟨a ++ (b ++ c), a.length, 0⟩ b.length = (b, ⟨a ++ (b ++ c), a.length + b.length, 0⟩) := by
  unfold takeS
  rw [if_neg (by simp), if_neg (by simp)]
  simp
theorem numS_at (a c : List UInt8) (k n : Nat) (h : n < 256 ^ k) : numS ⟨a ++ (leB k n ++ c), a.length, 0⟩ k = (n, ⟨a ++ (leB k n ++ c), (a ++ leB k n).length, 0⟩) := by
  have := takeS_at a (leB k n) c
  rw [leB_len] at this
  unfold numS
  rw [this]
  simp [leB_len, le_leB k n h]

theorem checkR_zero {r : Rec} (h : checkR r = 0) : 1 ≤ r.kind ∧ r.kind ≤ 5 ∧ 1 ≤ r.tenant.size ∧ r.tenant.size ≤ 16 ∧ (hasL r.kind = false → r.lease = 0) ∧ (hasN r.kind = false → r.n = 0) ∧ (hasB r.kind = false → r.bits = 0) := by
  unfold checkR checkB at h
  split at h
  · cases h
  rename_i h1
  split at h
  · cases h
  rename_i h2
  split at h
  · cases h
  split at h
  · cases h
  split at h
  · cases h
  split at h
  · cases h
  split at h
  · cases h
  rename_i h7
  split at h
  · cases h
  rename_i h8
  split at h
  · cases h
  rename_i h9
  have h1' : 1 ≤ r.kind ∧ r.kind ≤ 5 := by simpa [knownR] using h1
  have h2' : 1 ≤ r.tenant.size ∧ r.tenant.size ≤ 16 := by
    have := h2
    unfold tenB nmB at this
    simp at this
    omega
  refine ⟨h1'.1, h1'.2, h2'.1, h2'.2, fun h => ?_, fun h => ?_, fun h => ?_⟩
  · have := fun e => h7 ⟨h, e⟩
    simpa using this
  · have := fun e => h8 ⟨h, e⟩
    simpa using this
  · have := fun e => h9 ⟨h, e⟩
    simpa using this

theorem each_field (f : Bool) (a c : List UInt8) (v : Nat) (hv : v < 18446744073709551616) (h0 : f = false → v = 0) :
    (if f then numS ⟨a ++ ((if f then leB 8 v else []) ++ c), a.length, 0⟩ 8 else ((0 : Nat), (⟨a ++ ((if f then leB 8 v else []) ++ c), a.length, 0⟩ : CurS)))
      = (v, ⟨a ++ ((if f then leB 8 v else []) ++ c), (a ++ (if f then leB 8 v else [])).length, 0⟩) := by
  cases f with
  | true => simpa using numS_at a c 8 v (by omega)
  | false => simp [h0 rfl]

theorem recB_len {r : Rec} (h : checkR r = 0) : 11 ≤ (recB r).length ∧ (recB r).length ≤ 50 := by
  obtain ⟨_, _, h3, h4, _⟩ := checkR_zero h
  have ht : r.tenant.data.toList.length = r.tenant.size := by simp
  unfold recB
  simp only [List.length_append, leB_len, ht]
  have hL : (if hasL r.kind then leB 8 r.lease else []).length ≤ 8 := by split <;> simp [leB_len]
  have hN : (if hasN r.kind then leB 8 r.n else []).length ≤ 8 := by split <;> simp [leB_len]
  have hB : (if hasB r.kind then leB 8 r.bits else []).length ≤ 8 := by split <;> simp [leB_len]
  omega

theorem dec_rec {r : Rec} (h : checkR r = 0) (hok : RecOk r) : decS (recB r) = (r, 0) := by
  obtain ⟨h1, h2, h3, h4, h5, h6, h7⟩ := checkR_zero h
  obtain ⟨o1, o2, o3, o4⟩ := hok
  have ht : r.tenant.data.toList.length = r.tenant.size := by simp
  have hk : ((r.kind.toNat : Nat) : Int) = r.kind := by omega
  have hkn : knownR r.kind = true := by simp [knownR]; omega
  obtain ⟨L, hL⟩ : ∃ L, (if hasL r.kind then leB 8 r.lease else []) = L := ⟨_, rfl⟩
  obtain ⟨N, hN⟩ : ∃ N, (if hasN r.kind then leB 8 r.n else []) = N := ⟨_, rfl⟩
  obtain ⟨B, hB⟩ : ∃ B, (if hasB r.kind then leB 8 r.bits else []) = B := ⟨_, rfl⟩
  obtain ⟨T, hT⟩ : ∃ T, r.tenant.data.toList = T := ⟨_, rfl⟩
  obtain ⟨K, hK⟩ : ∃ K, leB 1 r.kind.toNat = K := ⟨_, rfl⟩
  obtain ⟨S, hS⟩ : ∃ S, leB 8 r.seq = S := ⟨_, rfl⟩
  obtain ⟨Z, hZ⟩ : ∃ Z, leB 1 r.tenant.size = Z := ⟨_, rfl⟩
  have hall : recB r = K ++ (S ++ (Z ++ (T ++ (L ++ (N ++ B))))) := by unfold recB; rw [hL, hN, hB, hT, hK, hS, hZ]
  have n1 : numS ⟨recB r, 0, 0⟩ 1 = (r.kind.toNat, ⟨recB r, K.length, 0⟩) := by
    have := numS_at [] (S ++ (Z ++ (T ++ (L ++ (N ++ B))))) 1 r.kind.toNat (by omega)
    rw [hK] at this
    rw [hall]
    simpa using this
  have n2 : numS ⟨recB r, K.length, 0⟩ 8 = (r.seq, ⟨recB r, (K ++ S).length, 0⟩) := by
    have := numS_at K (Z ++ (T ++ (L ++ (N ++ B)))) 8 r.seq (by omega)
    rw [hS] at this
    rw [hall]
    exact this
  have n3 : numS ⟨recB r, (K ++ S).length, 0⟩ 1 = (r.tenant.size, ⟨recB r, (K ++ S ++ Z).length, 0⟩) := by
    have := numS_at (K ++ S) (T ++ (L ++ (N ++ B))) 1 r.tenant.size (by omega)
    rw [hZ] at this
    rw [hall]
    simpa only [List.append_assoc] using this
  have n4 : textS ⟨recB r, (K ++ S).length, 0⟩ 16 = (T, ⟨recB r, (K ++ S ++ Z ++ T).length, 0⟩) := by
    unfold textS
    rw [n3]
    rw [if_neg (by simp), if_neg (by simp only; omega)]
    have := takeS_at (K ++ S ++ Z) T (L ++ (N ++ B))
    rw [hall, ← ht, hT]
    simp only [List.append_assoc, List.length_append, Nat.add_assoc] at this ⊢
    exact this
  have n5 := each_field (hasL r.kind) (K ++ S ++ Z ++ T) (N ++ B) r.lease o2 h5
  have n6 := each_field (hasN r.kind) (K ++ S ++ Z ++ T ++ L) B r.n o3 h6
  have n7 := each_field (hasB r.kind) (K ++ S ++ Z ++ T ++ L ++ N) [] r.bits o4 h7
  rw [hL] at n5
  rw [hN] at n6
  rw [hB] at n7
  have e5 : K ++ S ++ Z ++ T ++ (L ++ (N ++ B)) = recB r := by rw [hall]; simp only [List.append_assoc]
  have e6 : K ++ S ++ Z ++ T ++ L ++ (N ++ B) = recB r := by rw [hall]; simp only [List.append_assoc]
  have e7 : K ++ S ++ Z ++ T ++ L ++ N ++ (B ++ []) = recB r := by rw [hall]; simp only [List.append_assoc, List.append_nil]
  rw [e5] at n5
  rw [e6] at n6
  rw [e7] at n7
  have hten : (⟨T.toArray⟩ : ByteArray) = r.tenant := by rw [← hT]
  have hlen : (K ++ S ++ Z ++ T ++ L ++ N ++ B).length = (recB r).length := by rw [hall]; simp only [List.append_assoc]
  have he : eachS ⟨r.seq, r.kind, r.tenant, 0, 0, 0⟩ ⟨recB r, (K ++ S ++ Z ++ T).length, 0⟩ = (r, ⟨recB r, (recB r).length, 0⟩) := by
    unfold eachS
    simp only [n5, n6, n7, hlen]
  unfold decS
  rw [n1]
  simp only
  rw [n2]
  simp only
  rw [n4]
  simp only
  rw [hk, hkn, if_neg (by simp), hten, he]
  simp [doneS, h]

theorem open_seal (b : List UInt8) : openS (b ++ leB 4 (sumS b)) = some b := by
  unfold openS
  have e : (b ++ leB 4 (sumS b)).length - 4 = b.length := by simp [leB_len]
  rw [if_neg (by simp [leB_len]), e]
  rw [List.drop_left, List.take_left]
  rw [if_pos (le_leB 4 _ ?_)]
  have : sumS b < 4294967296 := by
    unfold sumS crcMore
    exact xor_lt (by omega) (crcReg_lt (xor_lt (by omega) (by omega)) _)
  omega

theorem boxB_len (b : List UInt8) : (boxB b).length = b.length + 6 := by simp [boxB, leB_len]; omega

theorem next_box (pre b post : List UInt8) (h1 : 1 ≤ b.length) (h2 : b.length ≤ 4096) : nextS (pre ++ (boxB b ++ post)) pre.length = some b := by
  have hd : (pre ++ (boxB b ++ post)).drop pre.length = boxB b ++ post := List.drop_left
  have h2' : ((pre ++ (boxB b ++ post)).drop pre.length).take 2 = leB 2 b.length := by
    rw [hd]; unfold boxB
    simp only [List.append_assoc]
    rw [List.take_append_of_le_length (by rw [leB_len]; exact Nat.le_refl _), List.take_of_length_le (by rw [leB_len]; exact Nat.le_refl _)]
  have hle : le (leB 2 b.length) = b.length := le_leB 2 _ (by omega)
  unfold nextS
  rw [h2', hle, hd]
  rw [if_neg (by simp [boxB_len]; omega), if_neg (by omega), if_neg (by omega), if_neg (by simp [boxB_len])]
  rw [List.take_append_of_le_length (by rw [boxB_len]; exact Nat.le_refl _), List.take_of_length_le (by rw [boxB_len]; exact Nat.le_refl _)]
  unfold boxB
  rw [open_seal]
  simp only [Option.map_some]
  rw [List.drop_left' (leB_len 2 _)]

/-- bytes that are a box's beginning, and no more, are no box -/
theorem next_torn (pre b : List UInt8) (k : Nat) (hk : k < b.length + 6) (h1 : 1 ≤ b.length) (h2 : b.length ≤ 4096) : nextS (pre ++ (boxB b).take k) pre.length = none := by
  have hd : (pre ++ (boxB b).take k).drop pre.length = (boxB b).take k := List.drop_left
  have hl : ((boxB b).take k).length = k := by rw [List.length_take, boxB_len]; omega
  unfold nextS
  by_cases h : k < 2
  · rw [if_pos (by rw [List.length_append, hl]; omega)]
  · have h2' : ((pre ++ (boxB b).take k).drop pre.length).take 2 = leB 2 b.length := by
      rw [hd, List.take_take, Nat.min_eq_left (by omega)]; unfold boxB
      simp only [List.append_assoc]
      rw [List.take_append_of_le_length (by rw [leB_len]; exact Nat.le_refl _), List.take_of_length_le (by rw [leB_len]; exact Nat.le_refl _)]
    have hle : le (leB 2 b.length) = b.length := le_leB 2 _ (by omega)
    rw [h2', hle]
    rw [if_neg (by rw [List.length_append, hl]; omega), if_neg (by omega), if_neg (by omega), if_pos (by rw [List.length_append, hl]; omega)]

theorem valid_from (bs : List (List UInt8)) (t : List UInt8) (pre : List UInt8) (hb : ∀ b ∈ bs, 1 ≤ b.length ∧ b.length ≤ 4096)
    (ht : ∀ p, nextS (p ++ t) p.length = none) : ∀ f, bs.length < f → validF (pre ++ (bs.flatMap boxB ++ t)) f pre.length = bs := by
  induction bs generalizing pre with
  | nil =>
    intro f hf
    obtain ⟨f, rfl⟩ : ∃ g, f = g + 1 := ⟨f - 1, by simp at hf; omega⟩
    unfold validF
    simp only [List.flatMap_nil, List.nil_append, ht pre]
  | cons b bs ih =>
    intro f hf
    obtain ⟨f, rfl⟩ : ∃ g, f = g + 1 := ⟨f - 1, by simp at hf; omega⟩
    obtain ⟨h1, h2⟩ := hb b (List.mem_cons_self ..)
    have hn := next_box pre b (bs.flatMap boxB ++ t) h1 h2
    have e : pre ++ ((b :: bs).flatMap boxB ++ t) = pre ++ (boxB b ++ (bs.flatMap boxB ++ t)) := by simp
    rw [e, validF_step hn]
    have e2 : pre ++ (boxB b ++ (bs.flatMap boxB ++ t)) = (pre ++ boxB b) ++ (bs.flatMap boxB ++ t) := by simp
    have e3 : pre.length + (b.length + 6) = (pre ++ boxB b).length := by rw [List.length_append, boxB_len]
    rw [e2, e3, ih (pre ++ boxB b) (fun x hx => hb x (List.mem_cons_of_mem _ hx)) f (by simp at hf; omega)]

theorem flat_box_len (bs : List (List UInt8)) : bs.length ≤ (bs.flatMap boxB).length := by
  induction bs with
  | nil => simp
  | cons b bs ih => simp only [List.flatMap_cons, List.length_cons, List.length_append, boxB_len]; omega

theorem valid_all (bs : List (List UInt8)) (t : List UInt8) (hb : ∀ b ∈ bs, 1 ≤ b.length ∧ b.length ≤ 4096) (ht : ∀ p, nextS (p ++ t) p.length = none) : validS (bs.flatMap boxB ++ t) = bs := by
  unfold validS
  have := valid_from bs t [] hb ht ((bs.flatMap boxB ++ t).length + 1) (by have := flat_box_len bs; rw [List.length_append]; omega)
  simpa using this

/-- the empty end -/
theorem box_end (p : List UInt8) : nextS (p ++ []) p.length = none := by unfold nextS; rw [if_pos (by simp)]

/-- records in a row that a taker in this state takes, each -/
def Good : Bool → Nat → List Rec → Prop
  | _, _, [] => True
  | f, aw, r :: rs => (f = false → r.seq = aw) ∧ checkR r = 0 ∧ RecOk r ∧ Good false ((r.seq + 1) % 18446744073709551616) rs

theorem bodies_good (xs ys : List Rec) (st : Bool × Nat) (h : Good st.1 st.2 (xs ++ ys)) : (bodiesS st (xs.map recB)).1 = xs ∧ Good (bodiesS st (xs.map recB)).2.1 (bodiesS st (xs.map recB)).2.2 ys := by
  induction xs generalizing st with
  | nil => exact ⟨rfl, h⟩
  | cons r xs ih =>
    obtain ⟨h1, h2, h3, h4⟩ := h
    have ht : takeT st.1 st.2 (recB r) = (r, true, false, (r.seq + 1) % 18446744073709551616) := by
      unfold takeT
      rw [dec_rec h2 h3, if_neg (by simp; exact h1)]
    obtain ⟨i1, i2⟩ := ih (false, (r.seq + 1) % 18446744073709551616) h4
    simp only [List.map_cons, bodiesS, ht]
    exact ⟨by rw [if_pos trivial]; simp [i1], by rw [if_pos trivial]; exact i2⟩

theorem valid_recs (xs : List Rec) (t : List UInt8) (h : ∀ r ∈ xs, checkR r = 0) (ht : ∀ p, nextS (p ++ t) p.length = none) : validS (xs.flatMap boxR ++ t) = xs.map recB := by
  have := valid_all (xs.map recB) t (fun b hb => by
    obtain ⟨r, hr, rfl⟩ := List.mem_map.1 hb
    have := recB_len (h r hr)
    omega) ht
  rw [List.flatMap_map] at this
  exact this

theorem Good.check {f : Bool} {aw : Nat} {rs : List Rec} (h : Good f aw rs) : ∀ r ∈ rs, checkR r = 0 := by
  induction rs generalizing f aw with
  | nil => intro r hr; cases hr
  | cons x rs ih =>
    obtain ⟨_, h2, _, h4⟩ := h
    intro r hr
    rcases List.mem_cons.1 hr with rfl | hr
    · exact h2
    · exact ih h4 r hr

/-- what comes back of segments, the last one cut off -/
theorem segs_torn (segs : List (List Rec)) (last : List Rec) (t : List UInt8) (rest : List Rec) (st : Bool × Nat) (h : Good st.1 st.2 (segs.flatten ++ (last ++ rest))) (ht : ∀ p, nextS (p ++ t) p.length = none) :
    segsS st (segs.map (fun s => s.flatMap boxR) ++ [last.flatMap boxR ++ t]) = segs.flatten ++ last := by
  induction segs generalizing st with
  | nil =>
    simp only [List.map_nil, List.nil_append, List.flatten_nil] at h ⊢
    have hc := h.check
    simp only [segsS]
    rw [valid_recs last t (fun r hr => hc r (by simp [hr])) ht, (bodies_good last rest st h).1, List.append_nil]
  | cons s segs ih =>
    have h' : Good st.1 st.2 (s ++ (segs.flatten ++ (last ++ rest))) := by simpa using h
    have hc := h'.check
    obtain ⟨b1, b2⟩ := bodies_good s _ st h'
    have hv := valid_recs s [] (fun r hr => hc r (by simp [hr])) box_end
    rw [List.append_nil] at hv
    simp only [List.map_cons, List.cons_append, segsS]
    rw [hv, b1, ih _ b2]
    simp

/-- numbers that go on -/
theorem good_of (l : List Rec) (f : Bool) (aw : Nat) (h0 : ∀ r, l[0]? = some r → f = false → r.seq = aw) (hc : ∀ r ∈ l, checkR r = 0 ∧ RecOk r)
    (hs : ∀ i a b, l[i]? = some a → l[i + 1]? = some b → b.seq = (a.seq + 1) % 18446744073709551616) : Good f aw l := by
  induction l generalizing f aw with
  | nil => trivial
  | cons r l ih =>
    refine ⟨h0 r rfl, (hc r (List.mem_cons_self ..)).1, (hc r (List.mem_cons_self ..)).2, ih _ _ (fun b hb _ => hs 0 r b rfl (by simpa using hb)) (fun x hx => hc x (List.mem_cons_of_mem _ hx)) (fun i a b ha hb => hs (i + 1) a b (by simpa using ha) (by simpa using hb))⟩

/-- how the end of a segment is cut: n bytes of the boxes of last, j boxes whole -/
theorem torn_cut (last : List Rec) (j n : Nat) (hj : j ≤ last.length) (h1 : ((last.take j).flatMap boxR).length ≤ n) (hc : ∀ r ∈ last, checkR r = 0)
    (h2 : n ≤ (last.flatMap boxR).length) (h3 : j = last.length ∨ n < ((last.take (j + 1)).flatMap boxR).length) :
    ∃ t, (last.flatMap boxR).take n = (last.take j).flatMap boxR ++ t ∧ ∀ p, nextS (p ++ t) p.length = none := by
  have hsplit : last.flatMap boxR = (last.take j).flatMap boxR ++ (last.drop j).flatMap boxR := by
    rw [← List.flatMap_append, List.take_append_drop]
  by_cases hj' : j = last.length
  · subst hj'
    have e : last.take last.length = last := List.take_of_length_le (Nat.le_refl _)
    rw [e] at h1 ⊢
    obtain rfl : n = (last.flatMap boxR).length := by omega
    exact ⟨[], by rw [List.take_length, List.append_nil], box_end⟩
  · have h3' := h3.resolve_left hj'
    have hlt : j < last.length := by omega
    have hd : last.drop j = last[j] :: last.drop (j + 1) := List.drop_eq_getElem_cons hlt
    have ht : last.take (j + 1) = last.take j ++ [last[j]] := by rw [List.take_add_one, List.getElem?_eq_getElem hlt]; rfl
    rw [ht, List.flatMap_append, List.length_append] at h3'
    simp only [List.flatMap_cons, List.flatMap_nil, List.append_nil] at h3'
    have hrl := recB_len (hc last[j] (List.getElem_mem hlt))
    refine ⟨(boxR last[j]).take (n - ((last.take j).flatMap boxR).length), ?_, fun p => next_torn p _ _ (by rw [boxR, boxB_len] at h3'; omega) (by omega) (by omega)⟩
    rw [hsplit, List.take_append, hd, List.flatMap_cons, List.take_of_length_le h1]
    congr 1
    rw [List.take_append_of_le_length (by omega)]
end Go.Proofs.Ytblpnohfileibaa

/- The references of SegTorn, as printed: what they answer. -/
namespace Go.Proofs.Ytblpnohfileibaa
open Go.RowKit
open Go.Proofs.YtblpnohfileibaaW.PrintWords (bt bytesOf rd rdOf)

def ints (l : List UInt8) : List Int := l.map fun b => (b.toNat : Int)
theorem ints_len (l : List UInt8) : (ints l).length = l.length := by simp [ints]
theorem ints_append (a b : List UInt8) : ints (a ++ b) = ints a ++ ints b := by simp [ints]
theorem w64 {i : Nat} (h : i < 1000000000000) : wrap64 ((i : Int) + 1) = ((i + 1 : Nat) : Int) := by unfold wrap64; omega
theorem bt_nat (s : ByteArray) (i : Nat) (x : UInt8) (h : s.data.toList[i]? = some x) : bt s (i : Int) = (x.toNat : Int) := by
  obtain ⟨hi, hx⟩ := List.getElem?_eq_some_iff.1 h
  have hi' : i < s.size := by simpa using hi
  unfold bt
  rw [Int.toNat_natCast, dif_pos hi', ← hx]
  rfl
theorem size_list (s : ByteArray) : s.data.toList.length = s.size := by simp

theorem in_l0 (s : ByteArray) (c : UInt8) (hn : s.size ≤ 1000) : ∀ d k (i : Nat), s.size - i = d → i ≤ s.size → d < k →
    PSegTorn.taximeterref07_in.l0 k s (c.toNat : Int) (i : Int) = some ((s.data.toList.drop i).any (· == c)) := by
  intro d
  induction d with
  | zero =>
    intro k i h1 h2 h3
    obtain ⟨k, rfl⟩ : ∃ m, k = m + 1 := ⟨k - 1, by omega⟩
    simp only [PSegTorn.taximeterref07_in.l0]
    rw [if_neg (by omega), List.drop_eq_nil_of_le (by rw [size_list]; omega)]
    rfl
  | succ d ih =>
    intro k i h1 h2 h3
    obtain ⟨k, rfl⟩ : ∃ m, k = m + 1 := ⟨k - 1, by omega⟩
    have hlt : i < s.data.toList.length := by rw [size_list]; omega
    rw [List.drop_eq_getElem_cons hlt, List.any_cons]
    have hb := bt_nat s i _ (List.getElem?_eq_getElem hlt)
    simp only [PSegTorn.taximeterref07_in.l0]
    rw [if_pos (by omega), if_pos (by omega), hb, w64 (by omega), ih k (i + 1) (by omega) (by omega) (by omega)]
    by_cases he : s.data.toList[i] = c
    · rw [if_pos (by rw [he])]; simp [he]
    · have : ((s.data.toList[i].toNat : Int) = (c.toNat : Int)) ↔ False := by
        constructor
        · intro e; exact he (UInt8.toNat_inj.1 (by omega))
        · exact False.elim
      rw [if_neg (by rw [this]; exact id), show (s.data.toList[i] == c) = false from beq_eq_false_iff_ne.2 he, Bool.false_or]

theorem only_l0 (s a : ByteArray) (hn : s.size ≤ 1000) (ha : a.size ≤ 100) : ∀ d k (i : Nat), s.size - i = d → i ≤ s.size → d + 101 < k →
    PSegTorn.taximeterref07_only.l0 k s a (i : Int) = some ((s.data.toList.drop i).all fun x => a.data.toList.any (· == x)) := by
  intro d
  induction d with
  | zero =>
    intro k i h1 h2 h3
    obtain ⟨k, rfl⟩ : ∃ m, k = m + 1 := ⟨k - 1, by omega⟩
    simp only [PSegTorn.taximeterref07_only.l0]
    rw [if_neg (by omega), List.drop_eq_nil_of_le (by rw [size_list]; omega)]
    rfl
  | succ d ih =>
    intro k i h1 h2 h3
    obtain ⟨k, rfl⟩ : ∃ m, k = m + 1 := ⟨k - 1, by omega⟩
    have hlt : i < s.data.toList.length := by rw [size_list]; omega
    rw [List.drop_eq_getElem_cons hlt, List.all_cons]
    have hb := bt_nat s i _ (List.getElem?_eq_getElem hlt)
    have hin := in_l0 a s.data.toList[i] (by omega) a.size k 0 (by omega) (by omega) (by omega)
    rw [List.drop_zero] at hin
    simp only [PSegTorn.taximeterref07_only.l0, PSegTorn.taximeterref07_in.f]
    rw [if_pos (by omega), if_pos (by omega), hb]
    have hin' : PSegTorn.taximeterref07_in.l0 k a (s.data.toList[i].toNat : Int) 0 = some (a.data.toList.any (· == s.data.toList[i])) := hin
    rw [hin', Option.bind_some, w64 (by omega), ih k (i + 1) (by omega) (by omega) (by omega)]
    cases a.data.toList.any (· == s.data.toList[i]) <;> simp

theorem small_of : ∀ n : Fin 256, ([97, 98, 99, 100, 101, 102, 103, 104, 105, 106, 107, 108, 109, 110, 111, 112, 113, 114, 115, 116, 117, 118, 119, 120, 121, 122, 48, 49, 50, 51, 52, 53, 54, 55, 56, 57, 45] : List UInt8).any (· == UInt8.ofNat n.val) = smallB ((UInt8.ofNat n.val).toNat : Int) := by decide +kernel
theorem small_list (x : UInt8) : ([97, 98, 99, 100, 101, 102, 103, 104, 105, 106, 107, 108, 109, 110, 111, 112, 113, 114, 115, 116, 117, 118, 119, 120, 121, 122, 48, 49, 50, 51, 52, 53, 54, 55, 56, 57, 45] : List UInt8).any (· == x) = smallB (x.toNat : Int) := by
  have := small_of ⟨x.toNat, x.toNat_lt⟩
  simpa using this

theorem refTenant (s : ByteArray) (k : Nat) (hk : 200 ≤ k) : PSegTorn.taximeterref07_Tenant.f k s = some (tenB s.data.toList) := by
  unfold PSegTorn.taximeterref07_Tenant.f tenB nmB
  rw [size_list]
  by_cases h1 : 1 ≤ s.size
  · rw [if_pos (by omega)]
    by_cases h2 : s.size ≤ 16
    · rw [if_pos (by omega)]
      have ho := only_l0 s ⟨#[97, 98, 99, 100, 101, 102, 103, 104, 105, 106, 107, 108, 109, 110, 111, 112, 113, 114, 115, 116, 117, 118, 119, 120, 121, 122, 48, 49, 50, 51, 52, 53, 54, 55, 56, 57, 45]⟩ (by omega) (by decide) s.size k 0 (by omega) (by omega) (by omega)
      have ho' : PSegTorn.taximeterref07_only.f k s ⟨#[97, 98, 99, 100, 101, 102, 103, 104, 105, 106, 107, 108, 109, 110, 111, 112, 113, 114, 115, 116, 117, 118, 119, 120, 121, 122, 48, 49, 50, 51, 52, 53, 54, 55, 56, 57, 45]⟩ = some (s.data.toList.all fun x => smallB (x.toNat : Int)) := by
        unfold PSegTorn.taximeterref07_only.f
        refine ho.trans ?_
        rw [List.drop_zero]
        congr 1
        refine congrArg (fun f => s.data.toList.all f) (funext fun x => ?_)
        exact small_list x
      rw [ho', Option.bind_some]
      have hlt : 0 < s.data.toList.length := by rw [size_list]; omega
      have hb := bt_nat s 0 _ (List.getElem?_eq_getElem hlt)
      have hg : s.data.toList.getD 0 0 = s.data.toList[0] := by rw [List.getD_eq_getElem?_getD, List.getElem?_eq_getElem hlt]; rfl
      have hb' : bt s 0 = (s.data.toList[0].toNat : Int) := hb
      have hs0 : (0 : Int) < (s.size : Int) := by omega
      rw [hb', hg]
      generalize s.data.toList[0] = y
      cases (s.data.toList.all fun x => smallB (x.toNat : Int)) with
      | false => simp
      | true =>
        rw [if_pos rfl, if_pos hs0]
        unfold letB
        by_cases hy : (97 : Int) ≤ (y.toNat : Int)
        · rw [if_pos (by omega)]
          simp [h1, h2, hy]
        · rw [if_neg (by omega)]
          simp [hy]
    · rw [if_neg (by omega)]
      simp [h2]
  · rw [if_neg (by omega)]
    simp [h1]

theorem kind_cases (q : Int) : (q < 1 ∨ 5 < q) ∨ q = 1 ∨ q = 2 ∨ q = 3 ∨ q = 4 ∨ q = 5 := by omega
theorem letters_no (q : Int) (h : q < 1 ∨ 5 < q) : PSegTorn.taximeterref11_Letters.f q = some ⟨#[]⟩ := by
  unfold PSegTorn.taximeterref11_Letters.f
  simp only [Option.bind_some]
  rcases h with h | h
  · rw [if_pos h]
  · rw [if_neg (by omega), if_pos (by omega)]
theorem has_no (q c : Int) (h : q < 1 ∨ 5 < q) (k : Nat) : PSegTorn.taximeterref11_Has.f (k + 1) q c = some false := by
  unfold PSegTorn.taximeterref11_Has.f
  rw [letters_no q h, Option.bind_some]
  simp only [PSegTorn.taximeterref11_Has.l0]
  rw [if_neg (by decide)]
theorem has_lit (q : Int) (h : q = 1 ∨ q = 2 ∨ q = 3 ∨ q = 4 ∨ q = 5) (k : Nat) : PSegTorn.taximeterref11_Has.f (k + 4) q 108 = some (hasL q) ∧ PSegTorn.taximeterref11_Has.f (k + 4) q 110 = some (hasN q) ∧ PSegTorn.taximeterref11_Has.f (k + 4) q 98 = some (hasB q) := by
  rcases h with rfl | rfl | rfl | rfl | rfl <;> exact ⟨by kernel_rfl, by kernel_rfl, by kernel_rfl⟩
theorem refHas (q : Int) (k : Nat) (hk : 4 ≤ k) : PSegTorn.taximeterref11_Has.f k q 108 = some (hasL q) ∧ PSegTorn.taximeterref11_Has.f k q 110 = some (hasN q) ∧ PSegTorn.taximeterref11_Has.f k q 98 = some (hasB q) := by
  obtain ⟨k, rfl⟩ : ∃ m, k = m + 4 := ⟨k - 4, by omega⟩
  rcases kind_cases q with h | h
  · have e : hasL q = false ∧ hasN q = false ∧ hasB q = false := by
      simp only [hasL, hasN, hasB, Bool.or_eq_false_iff, beq_eq_false_iff_ne]
      omega
    rw [e.1, e.2.1, e.2.2]
    exact ⟨has_no q _ h _, has_no q _ h _, has_no q _ h _⟩
  · exact has_lit q h k

theorem refClass (b : Nat) (hb : b < 18446744073709551616) (k : Nat) (hk : 5 ≤ k) : PSegTorn.taximeterref05_Class.f k (b : Int) = some (classF b : Int) := by
  obtain ⟨k, rfl⟩ : ∃ m, k = m + 5 := ⟨k - 5, by omega⟩
  have e1 : IntKind.u64.wrap (Int.tdiv (b : Int) 9223372036854775808) = ((b / 9223372036854775808 : Nat) : Int) := by
    simp [IntKind.wrap, IntKind.signed, IntKind.bits]; omega
  have e2 : Int.tmod (IntKind.u64.wrap (Int.tdiv (b : Int) 4503599627370496)) 2048 = ((b / 4503599627370496 % 2048 : Nat) : Int) := by
    have : IntKind.u64.wrap (Int.tdiv (b : Int) 4503599627370496) = ((b / 4503599627370496 : Nat) : Int) := by
      simp [IntKind.wrap, IntKind.signed, IntKind.bits]; omega
    rw [this]; rfl
  have e3 : Int.tmod (b : Int) 4503599627370496 = ((b % 4503599627370496 : Nat) : Int) := rfl
  have hn : nanF b = decide (b / 4503599627370496 % 2048 = 2047 ∧ b % 4503599627370496 ≠ 0) := by
    unfold nanF rungF infF; rw [Bool.eq_iff_iff]; simp; omega
  have hi : isInfB b = decide (b / 4503599627370496 % 2048 = 2047 ∧ b % 4503599627370496 = 0) := by
    unfold isInfB rungF infF; rw [Bool.eq_iff_iff]; simp; omega
  have hz : (rungF b = 0) ↔ (b / 4503599627370496 % 2048 = 0 ∧ b % 4503599627370496 = 0) := by unfold rungF; omega
  have hg : negF b = decide (b / 9223372036854775808 = 1) := by unfold negF; rw [Bool.eq_iff_iff]; simp; omega
  unfold PSegTorn.taximeterref05_Class.f PSegTorn.taximeterref05_Fields.f classF
  rw [e1, e2, e3, hn, hi, hg]
  simp only [hz]
  generalize b / 4503599627370496 % 2048 = e
  generalize b % 4503599627370496 = f
  generalize b / 9223372036854775808 = s
  simp only [Option.bind_some, PSegTorn.taximeterref05_Class.j0, PSegTorn.taximeterref05_Class.j1, PSegTorn.taximeterref05_Class.j2, PSegTorn.taximeterref05_Class.j3]
  have c1 : ((e : Int) = 2047) ↔ e = 2047 := by omega
  have c2 : ((e : Int) = 0) ↔ e = 0 := by omega
  have c3 : ((f : Int) = 0) ↔ f = 0 := by omega
  have c4 : ((s : Int) = 1) ↔ s = 1 := by omega
  have c5 : ((f : Int) != 0) = decide (f ≠ 0) := by rw [Bool.eq_iff_iff]; simp
  have c6 : ((s : Int) == 1) = decide (s = 1) := by rw [Bool.eq_iff_iff]; simp; omega
  have c7 : ((f : Int) == 0) = decide (f = 0) := by rw [Bool.eq_iff_iff]; simp
  simp only [c1, c2, c3, c4, c5, c6, c7]
  by_cases h1 : e = 2047
  · have h2 : ¬ e = 0 := by omega
    by_cases h3 : f = 0 <;> by_cases h4 : s = 1 <;> simp [h1, h3, h4]
  · by_cases h2 : e = 0 <;> by_cases h3 : f = 0 <;> by_cases h4 : s = 1 <;> simp [h1, h2, h3, h4]

theorem refCheck (r : Rec) (hok : RecOk r) (k : Nat) (hk : 300 ≤ k) : PSegTorn.taximeterref11_Check.f k r.seq r.kind r.tenant r.lease r.n r.bits = some (checkR r) := by
  obtain ⟨k, rfl⟩ : ∃ m, k = m + 3 := ⟨k - 3, by omega⟩
  obtain ⟨_, _, _, o4⟩ := hok
  have hT := refTenant r.tenant (k + 2) (by omega)
  obtain ⟨a1, a2, a3⟩ := refHas r.kind (k + 2) (by omega)
  obtain ⟨b1, b2, b3⟩ := refHas r.kind (k + 1) (by omega)
  obtain ⟨d1, d2, d3⟩ := refHas r.kind k (by omega)
  have hC := refClass r.bits o4 (k + 1) (by omega)
  unfold checkR
  have hp : plainF r.bits = (decide ((classF r.bits : Int) = 4) || decide ((classF r.bits : Int) = 5)) := by unfold plainF; rw [Bool.eq_iff_iff]; simp; omega
  have hkn : knownR r.kind = !(decide (r.kind < 1) || decide (r.kind > 5)) := by unfold knownR; rw [Bool.eq_iff_iff]; simp
  have z1 : (r.seq == 0) = decide ((r.seq : Int) = 0) := by rw [Bool.eq_iff_iff]; simp
  have z2 : (r.lease == 0) = decide ((r.lease : Int) = 0) := by rw [Bool.eq_iff_iff]; simp
  have z3 : (r.n == 0) = decide ((r.n : Int) = 0) := by rw [Bool.eq_iff_iff]; simp
  have z4 : (r.bits == 0) = decide ((r.bits : Int) = 0) := by rw [Bool.eq_iff_iff]; simp
  have z5 : (r.kind == 3) = decide (r.kind = 3) := by rw [Bool.eq_iff_iff]; simp
  have z6 : ((r.n : Int) == 0) = decide ((r.n : Int) = 0) := by rw [Bool.eq_iff_iff]; simp
  rw [hp, hkn, z1, z2, z3, z4, z5]
  unfold PSegTorn.taximeterref11_Check.f
  simp only [PSegTorn.taximeterref11_Check.j0, PSegTorn.taximeterref11_Check.j1, PSegTorn.taximeterref11_Check.j2, hT, a1, a2, a3, b1, b2, b3, d1, d2, d3, hC, Option.bind_some, z6, bne]
  generalize tenB r.tenant.data.toList = tb
  generalize hasL r.kind = hl
  generalize hasN r.kind = hn
  generalize hasB r.kind = hb
  generalize (classF r.bits : Int) = c
  unfold checkB
  by_cases k1 : r.kind < 1
  · simp [k1]
  by_cases k5 : r.kind > 5
  · simp [k1, k5]
  cases tb
  · simp [k1, k5]
  by_cases s0 : r.seq = 0
  · simp [k1, k5, s0]
  by_cases l0 : r.lease = 0 <;> by_cases n0 : r.n = 0 <;> by_cases b0 : r.bits = 0 <;> by_cases k3 : r.kind = 3 <;> by_cases c4 : c = 4 <;> by_cases c5 : c = 5 <;> cases hl <;> cases hn <;> cases hb <;> simp [k1, k5, s0, l0, n0, b0, k3, c4, c5]
end Go.Proofs.Ytblpnohfileibaa

/- The references of SegTorn, as printed: bytes, sums, boxes; two lists of records. -/
namespace Go.Proofs.Ytblpnohfileibaa
open Go.RowKit
open Go.Proofs.YtblpnohfileibaaW.PrintWords (bt bytesOf rd rdOf)

theorem bytes_l0 : ∀ d k (w i n : Nat) (out : List Int), w - i = d → i ≤ w → w ≤ 8 → d < k → n < 18446744073709551616 → out.length + d ≤ 100 →
    PSegTorn.taximeterref01_Bytes.l0 k (w : Int) (n : Int) out (i : Int) = some (out ++ ints (leB d n)) := by
  intro d
  induction d with
  | zero =>
    intro k w i n out h1 h2 h3 h4 h5 h6
    obtain ⟨k, rfl⟩ : ∃ m, k = m + 1 := ⟨k - 1, by omega⟩
    simp only [PSegTorn.taximeterref01_Bytes.l0]
    rw [if_neg (by omega)]
    simp [leB, ints]
  | succ d ih =>
    intro k w i n out h1 h2 h3 h4 h5 h6
    obtain ⟨k, rfl⟩ : ∃ m, k = m + 1 := ⟨k - 1, by omega⟩
    have e1 : IntKind.u64.wrap (Int.tdiv (n : Int) 256) = ((n / 256 : Nat) : Int) := by simp [IntKind.wrap, IntKind.signed, IntKind.bits]; omega
    have e2 : (Int.tmod (n : Int) 256) % 256 = ((UInt8.ofNat n).toNat : Int) := by
      rw [UInt8.toNat_ofNat']
      have : Int.tmod (n : Int) 256 = ((n % 256 : Nat) : Int) := rfl
      rw [this]; omega
    simp only [PSegTorn.taximeterref01_Bytes.l0]
    rw [if_pos (by omega), if_pos (by omega), e1, e2, w64 (by omega), ih k w (i + 1) (n / 256) _ (by omega) (by omega) (by omega) (by omega) (by omega) (by simp; omega)]
    simp [leB, ints]
theorem refBytes (w n k : Nat) (hw : w ≤ 8) (hk : 8 < k) (hn : n < 18446744073709551616) : PSegTorn.taximeterref01_Bytes.f k (w : Int) (n : Int) = some (ints (leB w n)) := by
  have := bytes_l0 w k w 0 n [] (by omega) (by omega) hw (by omega) hn (by simp; omega)
  simpa [PSegTorn.taximeterref01_Bytes.f] using this

theorem sum_l1 (x0 : List Int) (i : Int) (r c : Nat) (hr : r < 4294967296) (hc : c < 256) : ∀ d k (j : Nat), 8 - j = d → j ≤ 8 →
    PSegTorn.taximeterref02_Sum.l1 (k + d + 1) x0 (refR r c j : Nat) i (c / 2 ^ j : Nat) (j : Int) = PSegTorn.taximeterref02_Sum.l0 k x0 (refR r c 8 : Nat) (wrap64 (i + 1)) := by
  intro d
  induction d with
  | zero =>
    intro k j h1 h2
    obtain rfl : j = 8 := by omega
    simp only [PSegTorn.taximeterref02_Sum.l1, Nat.add_zero]
    rw [if_neg (by omega)]
  | succ d ih =>
    intro k j h1 h2
    have hq := refR_lt (j := j) hr hc
    have hq2 := refR_step r c j
    have hd : c / 2 ^ (j + 1) = c / 2 ^ j / 2 := by rw [Nat.pow_succ, Nat.div_div_eq_div_mul]
    have hd2 : c / 2 ^ j < 256 := Nat.lt_of_le_of_lt (Nat.div_le_self _ _) hc
    have hi := ih k (j + 1) (by omega) (by omega)
    rw [hd, hq2] at hi
    rw [← Nat.add_assoc]
    generalize k + d + 1 = m at hi ⊢
    generalize refR r c j = q at *
    generalize c / 2 ^ j = e at *
    simp only [PSegTorn.taximeterref02_Sum.l1]
    rw [if_pos (by omega), w64 (by omega)]
    have t1 : Int.tmod ((q : Nat) : Int) 2 = ((q % 2 : Nat) : Int) := rfl
    have t2 : Int.tmod ((e : Nat) : Int) 2 = ((e % 2 : Nat) : Int) := rfl
    have t3 : (Int.tdiv ((q : Nat) : Int) 2) % 4294967296 = ((q / 2 : Nat) : Int) := by
      have : Int.tdiv ((q : Nat) : Int) 2 = ((q / 2 : Nat) : Int) := rfl
      rw [this]; omega
    have t4 : (Int.tdiv ((e : Nat) : Int) 2) % 256 = ((e / 2 : Nat) : Int) := by
      have : Int.tdiv ((e : Nat) : Int) 2 = ((e / 2 : Nat) : Int) := rfl
      rw [this]; omega
    rw [t1, t2, t3, t4]
    have hx2 : Go.bits .xor .u32 ((q / 2 : Nat) : Int) 2197175160 = (((q / 2) ^^^ 2197175160 : Nat) : Int) := u32_xor_nat (q / 2) 2197175160 (by omega) (by omega)
    rw [hx2]
    by_cases h : q % 2 = e % 2
    · rw [if_pos h] at hi
      rw [if_neg, hi]
      have : (((q % 2 : Nat) : Int) == 1) = (((e % 2 : Nat) : Int) == 1) := by rw [h]
      rw [this]; simp
    · rw [if_neg h] at hi
      rw [if_pos, hi]
      rcases Nat.mod_two_eq_zero_or_one q with a | a <;> rcases Nat.mod_two_eq_zero_or_one e with b | b
      · omega
      · rw [a, b]; rfl
      · rw [a, b]; rfl
      · omega
theorem rd_ints (l : List UInt8) (i : Nat) (x : UInt8) (h : l[i]? = some x) : rd (ints l) (i : Int) = (x.toNat : Int) := by
  unfold rd ints
  rw [Int.toNat_natCast, List.getD_eq_getElem?_getD, List.getElem?_map, h]
  rfl
theorem sum_l0 (l : List UInt8) (hl : l.length ≤ 100000) : ∀ d k (i r : Nat), l.length - i = d → i ≤ l.length → 10 * d < k → r < 4294967296 →
    PSegTorn.taximeterref02_Sum.l0 k (ints l) (r : Int) (i : Int) = some ((4294967295 - crcReg r (l.drop i) : Nat) : Int) := by
  intro d
  induction d with
  | zero =>
    intro k i r h1 h2 h3 h4
    obtain ⟨k, rfl⟩ : ∃ m, k = m + 1 := ⟨k - 1, by omega⟩
    simp only [PSegTorn.taximeterref02_Sum.l0]
    rw [if_neg (by rw [ints_len]; omega), List.drop_eq_nil_of_le (by omega)]
    simp only [crcReg, List.foldl_nil]
    congr 1
    omega
  | succ d ih =>
    intro k i r h1 h2 h3 h4
    obtain ⟨k, rfl⟩ : ∃ m, k = m + 8 + 1 + 1 := ⟨k - 10, by omega⟩
    have hlt : i < l.length := by omega
    have hx := List.getElem?_eq_getElem hlt
    rw [List.drop_eq_getElem_cons hlt]
    generalize l[i] = x at hx
    simp only [PSegTorn.taximeterref02_Sum.l0]
    rw [if_pos (by rw [ints_len]; omega), if_pos (by omega), rd_ints l i x hx]
    have h0 := sum_l1 (ints l) (i : Int) r x.toNat h4 x.toNat_lt 8 k 0 (by omega) (by omega)
    rw [refR_zero, Nat.pow_zero, Nat.div_one] at h0
    have h0' : PSegTorn.taximeterref02_Sum.l1 (k + 8 + 1) (ints l) (r : Int) (i : Int) (x.toNat : Int) 0 = PSegTorn.taximeterref02_Sum.l0 k (ints l) (refR r x.toNat 8 : Nat) (wrap64 ((i : Int) + 1)) := h0
    rw [h0', w64 (by omega), ih k (i + 1) _ (by omega) (by omega) (by omega) (refR_lt h4 x.toNat_lt), refR_done _ _ x.toNat_lt]
    rfl
theorem refSum (l : List UInt8) (k : Nat) (hl : l.length ≤ 100000) (hk : 10 * l.length < k) : PSegTorn.taximeterref02_Sum.f k (ints l) = some (sumS l : Int) := by
  have := sum_l0 l hl l.length k 0 4294967295 (by omega) (by omega) hk (by omega)
  unfold PSegTorn.taximeterref02_Sum.f
  refine this.trans ?_
  rw [List.drop_zero]
  have hm : sumS l = 4294967295 - crcReg 4294967295 l := by
    unfold sumS crcMore
    rw [Nat.xor_zero, not32 _ (crcReg_lt (by omega) l)]
  rw [hm]
theorem sumS_lt (l : List UInt8) : sumS l < 4294967296 := by
  unfold sumS crcMore
  exact xor_lt (by omega) (crcReg_lt (xor_lt (by omega) (by omega)) _)

theorem wu64 (n : Nat) (h : n < 18446744073709551616) : IntKind.u64.wrap (n : Int) = (n : Int) := by simp [IntKind.wrap, IntKind.signed, IntKind.bits]; omega

theorem refSeal (l : List UInt8) (k : Nat) (hl : l.length ≤ 10000) (hk : 10 * l.length + 10 < k) : PSegTorn.taximeterref02_Seal.f k (ints l) = some (ints (l ++ leB 4 (sumS l))) := by
  have hs := sumS_lt l
  have hb := refBytes 4 (sumS l) k (by omega) (by omega) (by omega)
  have hb' : PSegTorn.taximeterref01_Bytes.f k 4 (sumS l : Int) = some (ints (leB 4 (sumS l))) := hb
  unfold PSegTorn.taximeterref02_Seal.f
  simp only [Option.bind_some, List.nil_append, refSum l k (by omega) (by omega), wu64 _ (show sumS l < 18446744073709551616 by omega), hb']
  rw [if_pos (by rw [ints_len]; simp; omega), if_pos (by rw [ints_len, ints_len, leB_len]; omega), ints_append]
theorem refBox (b : List UInt8) (k : Nat) (hl : b.length ≤ 4096) (hk : 10 * b.length + 30 < k) : PSegTorn.taximeterref12_Box.f k (ints b) = some (ints (boxB b)) := by
  have hb := refBytes 2 b.length k (by omega) (by omega) (by omega)
  have hb' : PSegTorn.taximeterref01_Bytes.f k 2 (b.length : Int) = some (ints (leB 2 b.length)) := hb
  have hs := refSeal (leB 2 b.length ++ b) k (by simp [leB_len]; omega) (by simp [leB_len]; omega)
  unfold PSegTorn.taximeterref12_Box.f
  rw [ints_len, wu64 _ (by omega), hb', Option.bind_some, if_pos (by rw [ints_len, leB_len]; omega), ← ints_append, hs]
  rfl
theorem bytesOf_ints (s : ByteArray) : bytesOf s = ints s.data.toList := rfl
theorem refText (s : ByteArray) (k : Nat) (hs : s.size ≤ 200) (hk : 8 < k) : PSegTorn.taximeterref01_Text.f k 1 s = some (ints (leB 1 s.size ++ s.data.toList)) := by
  have hb := refBytes 1 s.size k (by omega) (by omega) (by omega)
  have hb' : PSegTorn.taximeterref01_Bytes.f k 1 (s.size : Int) = some (ints (leB 1 s.size)) := hb
  unfold PSegTorn.taximeterref01_Text.f
  rw [wu64 _ (by omega), hb', Option.bind_some, if_pos (by rw [ints_len, leB_len]; omega), bytesOf_ints, ints_append]

theorem refRec (r : Rec) (h : checkR r = 0) (hok : RecOk r) (k : Nat) (hk : 100 < k) : PSegTorn.taximeterref11_Bytes.f k r.seq r.kind r.tenant r.lease r.n r.bits = some (ints (recB r)) := by
  obtain ⟨h1, h2, h3, h4, _⟩ := checkR_zero h
  obtain ⟨o1, o2, o3, o4⟩ := hok
  obtain ⟨k, rfl⟩ : ∃ m, k = m + 2 := ⟨k - 2, by omega⟩
  have hkk : ((r.kind.toNat : Nat) : Int) = r.kind := by omega
  have hT := refText r.tenant (k + 2) (by omega) (by omega)
  obtain ⟨a1, a2, a3⟩ := refHas r.kind (k + 2) (by omega)
  obtain ⟨b1, b2, b3⟩ := refHas r.kind (k + 1) (by omega)
  obtain ⟨d1, d2, d3⟩ := refHas r.kind k (by omega)
  have e1 : PSegTorn.taximeterref01_Bytes.f (k + 2) 1 (IntKind.u64.wrap r.kind) = some (ints (leB 1 r.kind.toNat)) := by
    have := refBytes 1 r.kind.toNat (k + 2) (by omega) (by omega) (by omega)
    rw [← hkk, wu64 _ (by omega)]
    exact this
  have e8 : ∀ (k' n : Nat), 8 < k' → n < 18446744073709551616 → PSegTorn.taximeterref01_Bytes.f k' 8 (n : Int) = some (ints (leB 8 n)) := fun k' n hk' hn => refBytes 8 n k' (by omega) hk' hn
  have lT : (leB 1 r.tenant.size ++ r.tenant.data.toList).length ≤ 17 := by rw [List.length_append, leB_len, size_list]; omega
  unfold PSegTorn.taximeterref11_Bytes.f
  simp only [PSegTorn.taximeterref11_Bytes.j0, PSegTorn.taximeterref11_Bytes.j1, e1, e8 (k + 2) r.seq (by omega) o1, e8 (k + 2) r.lease (by omega) o2, e8 (k + 1) r.n (by omega) o3, e8 k r.bits (by omega) o4, hT, a1, b2, d3, Option.bind_some]
  unfold recB
  have big : ∀ a b : List UInt8, a.length + b.length < 1000 → (ints a).length + (ints b).length < 140737488355328 := fun a b h => by rw [ints_len, ints_len]; omega
  rw [if_pos (big _ _ (by rw [leB_len, leB_len]; omega)), ← ints_append, if_pos (big _ _ (by rw [List.length_append, leB_len, leB_len]; omega)), ← ints_append]
  generalize htx : leB 1 r.tenant.size ++ r.tenant.data.toList = tx at *
  have hassoc : ∀ z : List UInt8, leB 1 r.tenant.size ++ (r.tenant.data.toList ++ z) = tx ++ z := fun z => by rw [← htx, List.append_assoc]
  rw [hassoc]
  have lA := leB_len 1 r.kind.toNat
  have lB := leB_len 8 r.seq
  have lC := leB_len 8 r.lease
  have lD := leB_len 8 r.n
  have lE := leB_len 8 r.bits
  generalize leB 1 r.kind.toNat = A at *
  generalize leB 8 r.seq = S at *
  generalize leB 8 r.lease = L at *
  generalize leB 8 r.n = N at *
  generalize leB 8 r.bits = B at *
  cases hasL r.kind <;> cases hasN r.kind <;> cases hasB r.kind <;>
    simp only [if_true, if_false, Bool.false_eq_true, List.append_nil, List.nil_append] <;>
    (repeat (rw [if_pos (big _ _ (by simp only [List.length_append]; omega)), ← ints_append])) <;>
    (try simp only [List.append_assoc])

theorem refBoxR (r : Rec) (h : checkR r = 0) (hok : RecOk r) (k : Nat) (hk : 600 < k) : PSegTorn.taximeterref13_Box.f k r.seq r.kind r.tenant r.lease r.n r.bits = some (ints (boxR r)) := by
  have hl := recB_len h
  unfold PSegTorn.taximeterref13_Box.f
  rw [refRec r h hok k (by omega), Option.bind_some, refBox _ k (by omega) (by omega)]
  rfl

abbrev toS (r : Rec) : PSegTorn.S37 := ⟨r.seq, r.kind, r.tenant, r.lease, r.n, r.bits⟩
theorem rd_toS (rs : List Rec) (i : Nat) (r : Rec) (h : rs[i]? = some r) : PSegTorn.rd_T37 (rs.map toS) (i : Int) = toS r := by
  unfold PSegTorn.rd_T37
  rw [Int.toNat_natCast, List.getD_eq_getElem?_getD, List.getElem?_map, h]
  rfl

theorem same_l0 (rs : List Rec) (hn : rs.length ≤ 100000) : ∀ d k (i : Nat), rs.length - i = d → i ≤ rs.length → d < k → PSegTorn.taximeterref11_Same.l0 k (rs.map toS) (rs.map toS) (i : Int) = some true := by
  intro d
  induction d with
  | zero =>
    intro k i h1 h2 h3
    obtain ⟨k, rfl⟩ : ∃ m, k = m + 1 := ⟨k - 1, by omega⟩
    simp only [PSegTorn.taximeterref11_Same.l0]
    rw [if_neg (by rw [List.length_map]; omega)]
  | succ d ih =>
    intro k i h1 h2 h3
    obtain ⟨k, rfl⟩ : ∃ m, k = m + 1 := ⟨k - 1, by omega⟩
    have hlt : i < rs.length := by omega
    simp only [PSegTorn.taximeterref11_Same.l0]
    rw [if_pos (by rw [List.length_map]; omega), if_pos (by omega), if_pos (by rw [List.length_map]; omega), rd_toS rs i _ (List.getElem?_eq_getElem hlt), w64 (by omega), ih k (i + 1) (by omega) (by omega) (by omega)]
    simp
theorem refSame (rs : List Rec) (hn : rs.length ≤ 100000) (k : Nat) (hk : rs.length < k) : PSegTorn.taximeterref11_Same.f k (rs.map toS) (rs.map toS) = some true := by
  unfold PSegTorn.taximeterref11_Same.f
  rw [if_pos rfl]
  exact same_l0 rs hn rs.length k 0 (by omega) (by omega) hk

/-- are there too many records, or too long ones? -/
def largeR (rs : List Rec) : Bool := !(decide (rs.length ≤ 60) && rs.all fun r => decide (r.tenant.size ≤ 100))
theorem large_l0 (rs : List Rec) (hn : rs.length ≤ 140737488355328) : ∀ d k (i : Nat), 60 - i = d → i ≤ 60 → i ≤ rs.length → 2 * d + 1 < k → (∀ j r, j < i → rs[j]? = some r → r.tenant.size ≤ 100) →
    ∃ b, PSegTorn.taximeterref11_Large.l0 k (rs.map toS) (i : Int) = some b ∧ (b = false → rs.length ≤ 60 ∧ ∀ r ∈ rs, r.tenant.size ≤ 100) := by
  intro d
  induction d with
  | zero =>
    intro k i h1 h2 h3 h4 h5
    obtain ⟨k, rfl⟩ : ∃ m, k = m + 2 := ⟨k - 2, by omega⟩
    obtain rfl : i = 60 := by omega
    refine ⟨decide ((((rs.map toS).length : Nat) : Int) > 60), ?_, fun h => ?_⟩
    · simp only [PSegTorn.taximeterref11_Large.l0, PSegTorn.taximeterref11_Large.j1]
      simp
    · simp at h
      refine ⟨by omega, fun r hr => ?_⟩
      obtain ⟨j, hj, rfl⟩ := List.mem_iff_getElem.1 hr
      exact h5 j _ (by omega) (List.getElem?_eq_getElem hj)
  | succ d ih =>
    intro k i h1 h2 h3 h4 h5
    obtain ⟨k, rfl⟩ : ∃ m, k = m + 2 := ⟨k - 2, by omega⟩
    by_cases hlt : i < rs.length
    · by_cases ht : rs[i].tenant.size ≤ 100
      · obtain ⟨b, hb, hf⟩ := ih k (i + 1) (by omega) (by omega) (by omega) (by omega) (fun j r hj hr => by
          by_cases hji : j < i
          · exact h5 j r hji hr
          · obtain rfl : j = i := by omega
            rw [List.getElem?_eq_getElem hlt] at hr
            cases hr
            exact ht)
        refine ⟨b, ?_, hf⟩
        simp only [PSegTorn.taximeterref11_Large.l0, PSegTorn.taximeterref11_Large.j1]
        rw [if_pos (by rw [List.length_map]; omega), if_pos (by simp; omega), if_pos (by omega), if_pos (by rw [List.length_map]; omega), rd_toS rs i _ (List.getElem?_eq_getElem hlt), if_neg (by show ¬ ((rs[i].tenant.size : Int) > 100); omega), w64 (by omega)]
        exact hb
      · refine ⟨true, ?_, fun h => by cases h⟩
        simp only [PSegTorn.taximeterref11_Large.l0, PSegTorn.taximeterref11_Large.j1]
        rw [if_pos (by rw [List.length_map]; omega), if_pos (by simp; omega), if_pos (by omega), if_pos (by rw [List.length_map]; omega), rd_toS rs i _ (List.getElem?_eq_getElem hlt), if_pos (by show ((rs[i].tenant.size : Int) > 100); omega)]
    · refine ⟨decide ((((rs.map toS).length : Nat) : Int) > 60), ?_, fun h => ?_⟩
      · simp only [PSegTorn.taximeterref11_Large.l0, PSegTorn.taximeterref11_Large.j1]
        rw [if_neg (by rw [List.length_map]; omega)]
        simp
      · simp at h
        refine ⟨by omega, fun r hr => ?_⟩
        obtain ⟨j, hj, rfl⟩ := List.mem_iff_getElem.1 hr
        exact h5 j _ (by omega) (List.getElem?_eq_getElem hj)
theorem refLarge (rs : List Rec) (hn : rs.length ≤ 140737488355328) : ∃ b, PSegTorn.taximeterref11_Large.f 200 (rs.map toS) = some b ∧ (b = false → rs.length ≤ 60 ∧ ∀ r ∈ rs, r.tenant.size ≤ 100) :=
  large_l0 rs hn 60 200 0 (by omega) (by omega) (by omega) (by omega) (fun j r hj => absurd hj (Nat.not_lt_zero _))
end Go.Proofs.Ytblpnohfileibaa

/- seg.taker: a function that takes a record, if it is the one that is awaited. -/
namespace Go.Proofs.Ytblpnohfileibaa
open Go.RowKit

abbrev takF (F A : Nat) : Value := .func (.func 84) #[] #[.pointer (some ⟨F, 0, none⟩), .pointer (some ⟨A, 0, none⟩)]

theorem taker_any (w : World) : Calls Try.prog 51 #[] w fun e w' => e = .returned (takF (w.heap.size + 1) w.heap.size) ∧ w' = (w.alloc (.cells #[.int .u64 0] 22)).alloc (.cells #[.bool true] 4) := by
  go_enter Try.func51, Try.ntmps51
  go_wp2
  go_ret
  exact ⟨by simp, rfl⟩

def TakR (F B : Nat) (x : Rec × Bool × Bool × Nat) (w : World) (e : Ending) (w' : World) : Prop :=
  e = .returned (.tuple #[recV x.1, .bool x.2.1]) ∧ Bl w' F [.bool x.2.2.1] ∧ Bl w' B [.int .u64 x.2.2.2] ∧ Fr (fun k => k = F ∨ k = B) w w'

theorem dec_seq (l : List UInt8) : (decS l).1.seq < 18446744073709551616 := by
  unfold decS
  split
  · simp [zeroRec]
  · simp only
    split
    · simp [zeroRec]
    · split
      · simp [zeroRec]
      · exact num8_lt _

/-- the taker's cells behind rec.Decode -/
theorem tk_facts {w w1 : World} {F B : Nat} {first : Bool} {aw : Nat} {t1 : TypeId} (hF : Bl w F [.bool first]) (hB : Bl w B [.int .u64 aw])
    (hb1 : Below (w.alloc (.cells #[.int .u64 0, .int .i64 0, .string ⟨#[]⟩, .int .u64 0, .int .u64 0, .int .u64 0] t1)).heap.size (w.alloc (.cells #[.int .u64 0, .int .i64 0, .string ⟨#[]⟩, .int .u64 0, .int .u64 0, .int .u64 0] t1)) w1) (r : Rec) :
    Bl (w1.alloc (.cells #[.int .u64 r.seq, .int .i64 r.kind, .string r.tenant, .int .u64 r.lease, .int .u64 r.n, .int .u64 r.bits] 37)) w.heap.size [.int .u64 0, .int .i64 0, .string ⟨#[]⟩, .int .u64 0, .int .u64 0, .int .u64 0] ∧ Below w.heap.size w (w1.alloc (.cells #[.int .u64 r.seq, .int .i64 r.kind, .string r.tenant, .int .u64 r.lease, .int .u64 r.n, .int .u64 r.bits] 37)) ∧
    (w1.alloc (.cells #[.int .u64 r.seq, .int .i64 r.kind, .string r.tenant, .int .u64 r.lease, .int .u64 r.n, .int .u64 r.bits] 37)).cell? ⟨F, 0, none⟩ = some (.bool first) ∧ (w1.alloc (.cells #[.int .u64 r.seq, .int .i64 r.kind, .string r.tenant, .int .u64 r.lease, .int .u64 r.n, .int .u64 r.bits] 37)).cell? ⟨B, 0, none⟩ = some (.int .u64 aw) ∧
    (w1.alloc (.cells #[.int .u64 r.seq, .int .i64 r.kind, .string r.tenant, .int .u64 r.lease, .int .u64 r.n, .int .u64 r.bits] 37)).frozen? ⟨F, 0, none⟩ = false ∧ (w1.alloc (.cells #[.int .u64 r.seq, .int .i64 r.kind, .string r.tenant, .int .u64 r.lease, .int .u64 r.n, .int .u64 r.bits] 37)).frozen? ⟨B, 0, none⟩ = false := by
  have h1 : Below w1.heap.size w1 (w1.alloc (.cells #[.int .u64 r.seq, .int .i64 r.kind, .string r.tenant, .int .u64 r.lease, .int .u64 r.n, .int .u64 r.bits] 37)) := (Below.refl _ _).alloc (Nat.le_refl _) _
  have h2 := bel_trans (bel_trans ((Below.refl _ w).alloc (Nat.le_refl _) _) hb1) h1
  exact ⟨((Bl.new w _ _).below hb1).below h1, h2, (hF.below h2).cell (i := 0) rfl, (hB.below h2).cell (i := 0) rfl, (hF.below h2).frozen 0, (hB.below h2).frozen 0⟩

theorem tk_set {W : World} {Z F B : Nat} {cs : List Value} {u v : Value} (h : Bl W Z cs) (hF : F < Z) (hB : B < Z) : Bl ((W.setCell ⟨F, 0, none⟩ u).setCell ⟨B, 0, none⟩ v) Z cs :=
  (h.other (by simp; omega) u).other (by simp; omega) v

theorem tk_no {w W w8 : World} {F B : Nat} {first : Bool} {aw : Nat} (hW : Below w.heap.size w W) (hF : F < w.heap.size) (hB : B < w.heap.size) (h1 : Bl w F [.bool first]) (h2 : Bl w B [.int .u64 aw]) (h8 : Fr (· = w.heap.size) W w8) :
    TakR F B (zeroRec, false, first, aw) w (.returned (.tuple #[.agg (recCells zeroRec).toArray, .bool false])) w8 :=
  ⟨rfl, (h1.below hW).fr h8 (by omega), (h2.below hW).fr h8 (by omega), Fr.of_below (hW.trans (h8.below_of hW.size (fun k hk e => by omega)))⟩

theorem tk_yes {w W w8 : World} {F B : Nat} {first : Bool} {aw : Nat} {r : Rec} (hW : Below w.heap.size w W) (hF : F < w.heap.size) (hB : B < w.heap.size) (hFB : F ≠ B) (h1 : Bl w F [.bool first]) (h2 : Bl w B [.int .u64 aw])
    (h8 : Fr (· = w.heap.size) ((W.setCell ⟨F, 0, none⟩ (.bool false)).setCell ⟨B, 0, none⟩ (.int .u64 (IntKind.u64.wrap ((r.seq : Int) + 1)))) w8) :
    TakR F B (r, true, false, (r.seq + 1) % 18446744073709551616) w (.returned (.tuple #[.agg (recCells r).toArray, .bool true])) w8 := by
  have e : IntKind.u64.wrap ((r.seq : Int) + 1) = (((r.seq + 1) % 18446744073709551616 : Nat) : Int) := by
    simp [IntKind.wrap, IntKind.signed, IntKind.bits]
  rw [e] at h8
  have b1 := ((h1.below hW).set 0 (.bool false)).other (p := ⟨B, 0, none⟩) (by simpa using Ne.symm hFB) (.int .u64 (((r.seq + 1) % 18446744073709551616 : Nat) : Int))
  have b2 := ((h2.below hW).other (p := ⟨F, 0, none⟩) (by simpa using hFB) (.bool false)).set 0 (.int .u64 (((r.seq + 1) % 18446744073709551616 : Nat) : Int))
  refine ⟨rfl, b1.fr h8 (by omega), b2.fr h8 (by omega), ?_⟩
  have f1 : Fr (fun k => k = F ∨ k = B) W (W.setCell ⟨F, 0, none⟩ (.bool false)) := Fr.setCell (p := ⟨F, 0, none⟩) (.inl (.inl rfl)) _
  have f2 : Fr (fun k => k = F ∨ k = B) (W.setCell ⟨F, 0, none⟩ (.bool false)) ((W.setCell ⟨F, 0, none⟩ (.bool false)).setCell ⟨B, 0, none⟩ (.int .u64 (((r.seq + 1) % 18446744073709551616 : Nat) : Int))) := Fr.setCell (p := ⟨B, 0, none⟩) (.inl (.inr rfl)) _
  have f3 : Fr (fun k => k = F ∨ k = B ∨ k = w.heap.size) W w8 := ((f1.trans f2).mono (fun k _ h => by rcases h with h | h <;> simp [h])).trans (h8.mono (fun k _ h => .inr (.inr h)))
  have f4 : Fr (fun k => k = F ∨ k = B ∨ k = w.heap.size) w w8 := (Fr.of_below hW).trans f3
  refine f4.mono (fun k hk h => ?_)
  rcases h with h | h | h
  · exact .inl h
  · exact .inr h
  · omega

end Go.Proofs.Ytblpnohfileibaa
