/- The law EraseKeeps, walked: whatever the script, it answers true. -/
import Derived.Test.YtfdafkjoienpmaaList39
import Derived.Test.YtfdafkjoienpmaaAwake42
import Derived.Test.YtfdafkjoienpmaaLarge35
namespace Go.Proofs.Ytfdafkjoienpmaa
open Go.RowKit

theorem keep9 {w w1 w2 : World} {b o : Nat} {e : Ev} (h : EvAt w1 b o e) (hb0 : Below w.heap.size w w1) (hb : Below w1.heap.size w1 w2) :
    w2.cell? ⟨b, o, none⟩ = some (.int .i64 e.kind) ∧ w2.cell? ⟨b, o + 1, none⟩ = some (.int .i64 e.session) ∧ w2.cell? ⟨b, o + 2, none⟩ = some (.int .i64 e.stream) ∧ w2.cell? ⟨b, o + 3, none⟩ = some (.string e.tenant) ∧ w2.cell? ⟨b, o + 4, none⟩ = some (.int .u64 e.n) ∧ w2.cell? ⟨b, o + 5, none⟩ = some (.int .i64 e.m) ∧ w2.cell? ⟨b, o + 6, none⟩ = some (.int .u64 e.bits) ∧ w2.cell? ⟨b, o + 7, none⟩ = some (.slice e.dA e.dn e.dc) ∧ Below w.heap.size w w2 := by
  obtain ⟨h0, h1, h2, h3, h4, h5, h6, h7⟩ := h.below hb
  exact ⟨h0, h1, h2, h3, h4, h5, h6, h7, bel_trans hb0 hb⟩

theorem alike_both {l0 l1 l2 : List Ev} (h1 : Alikes l0 l1) (h2 : Alikes l0 l2) : ∀ (i : Nat) (e e' : Ev), l1[i]? = some e → l2[i]? = some e' → alike e e' := by
  intro i e e' he he'
  obtain ⟨a, ha⟩ : ∃ a, l0[i]? = some a := ⟨_, List.getElem?_eq_getElem (by have := (List.getElem?_eq_some_iff.1 he).1; rw [h1.1] at this; exact this)⟩
  obtain ⟨p0, p1, p2, p3, p4, p5, p6, p7⟩ := h1.2 i a e ha he
  obtain ⟨q0, q1, q2, q3, q4, q5, q6, q7⟩ := h2.2 i a e' ha he'
  exact ⟨q0.trans p0.symm, q1.trans p1.symm, q2.trans p2.symm, q3.trans p3.symm, q4.trans p4.symm, q5.trans p5.symm, q6.trans p6.symm, q7.trans p7.symm⟩
theorem alikes_len {w : World} {A : Option Addr} {m n : Nat} {l l' : List Ev} {f : Ev → Bool} (h : Alikes (l.filter f) l') (h' : Evs w A m l') (hl : l.length = n) : m ≤ n := by
  rw [← h'.1, h.1, ← hl]; exact List.length_filter_le _ _

theorem lists_ok {B1 B2 A : Option Addr} {m1 m2 n : Nat} {l l1 l2 : List Ev} {w w1 w2 : World} {f : Ev → Bool} (h1 : Hid (Evs w1 B1 m1 l1 ∧ (∀ e ∈ l1, EvOk w1 e) ∧ Alikes (l.filter f) l1)) (h2 : Hid (Evs w2 B2 m2 l2 ∧ (∀ e ∈ l2, EvOk w2 e) ∧ Alikes (l.filter f) l2)) (hb2 : Below w1.heap.size w1 w2) (HL : Hid (Evs w A n l)) (hn : n ≤ 100000000000) (d1 d2 : Nat) :
    Calls Try.prog 10 #[.slice B1 m1 d1, .slice B2 m2 d2] w2 fun r w' => r = .returned (.bool true) ∧ Below w2.heap.size w2 w' := by
  obtain rfl : m1 = m2 := by rw [← h1.out.1.1, ← h2.out.1.1, h1.out.2.2.1, h2.out.2.2.1]
  exact Lists39_alike B1 B2 m1 d1 d2 l1 l2 w2 (Rows.below h1.out.1 hb2) h2.out.1 (fun e he => (h1.out.2.1 e he).below hb2) h2.out.2.1 (alike_both h1.out.2.2 h2.out.2.2) (Nat.le_trans (alikes_len h1.out.2.2 h1.out.1 HL.out.1) hn)

set_option maxHeartbeats 2000000 in
set_option maxRecDepth 100000 in
theorem law_any (t : ByteArray) (A2 : Option Addr) (n2 c2 : Nat) (ss : List Int) (A : Option Addr) (n c : Nat) (l : List Ev) (w : World) (hs : Ints w A2 n2 ss) (hl : Evs w A n l) (hok : ∀ e ∈ l, By w e.dA e.dn e.data ∧ e.dn ≤ 140737488355328 ∧ (e.dA = none → e.dn = 0)) (hn2' : n2 ≤ 140737488355328) (hn' : n ≤ 140737488355328) (hnil : A = none → n = 0) :
    Calls Try.prog 3 #[.string t, .slice A2 n2 c2, .slice A n c] w fun r w' => r = .returned (.bool true) ∧ Below w.heap.size w w' := by
  have hL := Large_any A n c l w hl (fun e he => (hok e he).2.1) hn'
  have HLR := Lib.hid hL
  have HS := Lib.hid hs
  have HL := Lib.hid hl
  have HO1 := Lib.hid hok
  have HN := Lib.hid hnil
  clear hs hl hok hnil hL
  by_cases ht : t.size ≤ 100
  · by_cases hn3 : n2 ≤ 30
    · go_enter Try.func3, Try.ntmps3
      go_wp2_with (first
        | (go_at_call 4; refine HLR.out.mono ?_; rintro r w1 ⟨b, rfl, hb, rfl⟩; cases b)
        | (go_at_call 5; refine (awake_any _).mono ?_; rintro r w1 ⟨rfl, hb1⟩))
      · have hn250 : n ≤ 250 := (hb trivial).1
        have hok : ∀ e ∈ l, EvOk w e := fun e he => ⟨(HO1.out e he).1, Nat.le_trans ((hb trivial).2 e he) (by omega), (HO1.out e he).2.2⟩
        have HO := Lib.hid hok
        have hn : n ≤ 100000000000 := by omega
        have hn2 : n2 ≤ 100000000000 := by omega
        clear hb hok hn' hn2'
        go_loopw [7] (fun i wr => ∃ k : Nat, k ≤ n ∧ i = .int .i64 k ∧ Below w.heap.size w wr) (fun i _ => n - (intOf i).toNat)
        case atStart => exact ⟨0, Nat.zero_le _, rfl, bel_rfl⟩
        case round =>
          obtain ⟨k, hk, rfl, hb⟩ := hrel
          by_cases hlt : k < n
          · obtain ⟨b, o, e, rfl, he, hc⟩ := Evs.ev (Rows.below HL.out hb) hlt
            have HC := Lib.hid hc
            obtain ⟨q0, q1, q2, q3, q4, q5, q6, q7⟩ := hc
            clear he
            have hO1 := fun w' h => Own_any t A2 n2 c2 ss e w' h hn2
            have hO2 := fun w' h => refOwn_any t A2 n2 c2 ss e w' h hn2
            have hA1 := fun w' => All_any e w'
            have hA2 := fun w' => refAll_any e w'
            have hI : ∀ w', Below wr.heap.size wr w' → Ints w' A2 n2 ss := fun w' hb' => Rd.below HS.out (bel_trans hb hb')
            generalize ownB t ss e = b1 at hO1 hO2
            generalize allB e.kind = b2 at hA1 hA2
            have HO1 := Lib.hid hO1
            have HO2 := Lib.hid hO2
            have HA1 := Lib.hid hA1
            have HA2 := Lib.hid hA2
            have HI := Lib.hid hI
            clear hO1 hO2 hA1 hA2 hI
            go_wp2
            go_region_held3 (fun w' => w'.cell? ⟨b, o + k * 8, none⟩ = some (.int .i64 e.kind) ∧ w'.cell? ⟨b, o + k * 8 + 1, none⟩ = some (.int .i64 e.session) ∧ w'.cell? ⟨b, o + k * 8 + 2, none⟩ = some (.int .i64 e.stream) ∧ w'.cell? ⟨b, o + k * 8 + 3, none⟩ = some (.string e.tenant) ∧ w'.cell? ⟨b, o + k * 8 + 4, none⟩ = some (.int .u64 e.n) ∧ w'.cell? ⟨b, o + k * 8 + 5, none⟩ = some (.int .i64 e.m) ∧ w'.cell? ⟨b, o + k * 8 + 6, none⟩ = some (.int .u64 e.bits) ∧ w'.cell? ⟨b, o + k * 8 + 7, none⟩ = some (.slice e.dA e.dn e.dc) ∧ Below wr.heap.size wr w')
              (first
                | exact keep9 ⟨q0, q1, q2, q3, q4, q5, q6, q7⟩ bel_rfl bel_rfl
                | (refine keep9 ⟨q0, q1, q2, q3, q4, q5, q6, q7⟩ bel_rfl ?_; repeat (first | exact bel_rfl | assumption | exact Below.drew bel_rfl | refine bel_trans ?_ (by assumption))))
              (first
                | (go_at_call 6; (with_reducible refine (HO1.out _ (HI.out _ ?_)).mono ?_); (repeat (first | exact bel_rfl | assumption | exact Below.drew bel_rfl | refine bel_trans ?_ (by assumption))); rintro r w1 ⟨rfl, hb1⟩)
                | (go_at_call 7; (with_reducible refine (HO2.out _ (HI.out _ ?_)).mono ?_); (repeat (first | exact bel_rfl | assumption | exact Below.drew bel_rfl | refine bel_trans ?_ (by assumption))); rintro r w2 ⟨rfl, hb2⟩)
                | (go_at_call 8; (with_reducible refine (HA1.out _).mono ?_); rintro r w3 ⟨rfl, hb3⟩)
                | (go_at_call 9; (with_reducible refine (HA2.out _).mono ?_); rintro r w4 ⟨rfl, hb4⟩))
            go_wp2
            refine ⟨⟨k + 1, by omega, by go_num, bel_trans hb ?_⟩, by simp [intOf]; omega⟩
            repeat (first | exact bel_rfl | assumption | exact Below.drew bel_rfl | refine bel_trans ?_ (by assumption))
          · have hK := Keep_any t A2 n2 c2 ss A n c l wr (Rd.below HS.out hb) (Rows.below HL.out hb) (fun e he => (HO.out e he).below hb) hn2 hn HN.out
            have hR := fun w' (hb' : Below wr.heap.size wr w') => refKeep_any t A2 n2 c2 ss A n c l w' (Rd.below HS.out (bel_trans hb hb')) (Rows.below HL.out (bel_trans hb hb')) (fun e he => (HO.out e he).below (bel_trans hb hb')) hn2 hn
            have HK := Lib.hid hK
            have HR := Lib.hid hR
            clear hK hR
            go_wp2_with (first
              | (go_at_call 11; (with_reducible refine HK.out.mono ?_); rintro r w1 ⟨B1, m1, d1, l1, rfl, hE1, hO1, hA1, hb1⟩; have h1 := Lib.hid (And.intro hE1 (And.intro hO1 hA1)); clear hE1 hO1 hA1)
              | (go_at_call 12; (with_reducible refine (HR.out _ hb1).mono ?_); rintro r w2 ⟨B2, m2, d2, l2, rfl, hE2, hO2, hA2, hb2⟩; have h2 := Lib.hid (And.intro hE2 (And.intro hO2 hA2)); clear hE2 hO2 hA2)
              | (go_at_call 10; (with_reducible refine (lists_ok h1 h2 hb2 HL hn _ _).mono ?_); rintro r w3 ⟨rfl, hb3⟩)
              | (go_at_call 5; (with_reducible refine (awake_any _).mono ?_); rintro r w4 ⟨rfl, hb4⟩))
            go_ret
            exact ⟨by simp, bel_trans hb (bel_trans hb1 (bel_trans hb2 (bel_trans hb3 hb4)))⟩
      · go_ret
        exact ⟨by simp, hb1⟩
    · go_enter Try.func3, Try.ntmps3
      go_wp2_with (first
        | (go_at_call 4; refine HLR.out.mono ?_; rintro r w1 ⟨b, rfl, hb, rfl⟩; clear hb; cases b)
        | (go_at_call 5; refine (awake_any _).mono ?_; rintro r w1 ⟨rfl, hb1⟩))
      all_goals go_ret
      all_goals exact ⟨by simp, hb1⟩
  · go_enter Try.func3, Try.ntmps3
    go_wp2_with (first
      | (go_at_call 4; refine HLR.out.mono ?_; rintro r w1 ⟨b, rfl, hb, rfl⟩; clear hb; cases b)
      | (go_at_call 5; refine (awake_any _).mono ?_; rintro r w1 ⟨rfl, hb1⟩))
    all_goals go_ret
    all_goals exact ⟨by simp, hb1⟩
end Go.Proofs.Ytfdafkjoienpmaa
