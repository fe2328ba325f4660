/- The reference's list of the events that are kept. -/
import Derived.Test.YtfdafkjoienpmaaEvK
namespace Go.Proofs.Ytfdafkjoienpmaa
open Go.RowKit

theorem EvOk.below {w w' : World} {e : Ev} (h : EvOk w e) (hb : Below w.heap.size w w') : EvOk w' e := ⟨Rd.below h.1 hb, h.2⟩
theorem EvAt.below {w w' : World} {b o : Nat} {e : Ev} (h : EvAt w b o e) (hb : Below w.heap.size w w') : EvAt w' b o e := by
  obtain ⟨h0, h1, h2, h3, h4, h5, h6, h7⟩ := h
  exact ⟨(hb.cell (cell_lt h0)).trans h0, (hb.cell (cell_lt h1)).trans h1, (hb.cell (cell_lt h2)).trans h2, (hb.cell (cell_lt h3)).trans h3, (hb.cell (cell_lt h4)).trans h4, (hb.cell (cell_lt h5)).trans h5, (hb.cell (cell_lt h6)).trans h6, (hb.cell (cell_lt h7)).trans h7⟩

/-- what is kept of the first k, as a row of its own -/
def KeepRow (B : Nat) (l : List Ev) (t : ByteArray) (ss : List Int) (k : Nat) (v : Value) (w : World) : Prop :=
  ∃ A m c, v = .slice A m c ∧ m = ((l.take k).filter (keepB t ss)).length ∧ w.ownsRow B 30 8 v m (((l.take k).filter (keepB t ss)).flatMap evCells)

theorem keep_step {l : List Ev} {t : ByteArray} {ss : List Int} {k : Nat} {e : Ev} (he : l[k]? = some e) : (l.take (k + 1)).filter (keepB t ss) = (l.take k).filter (keepB t ss) ++ if keepB t ss e then [e] else [] := filter_take_succ _ _ _ _ he

set_option maxRecDepth 100000 in
theorem refKeep_any (t : ByteArray) (A2 : Option Addr) (n2 c2 : Nat) (ss : List Int) (A : Option Addr) (n c : Nat) (l : List Ev) (w : World) (hs : Ints w A2 n2 ss) (hl : Evs w A n l) (hok : ∀ e ∈ l, EvOk w e) (hn2 : n2 ≤ 100000000000) (hn : n ≤ 100000000000) :
    Calls Try.prog 12 #[.string t, .slice A2 n2 c2, .slice A n c] w (KeepR l t ss w) := by
  have HS := Lib.hid hs
  have HL := Lib.hid hl
  have HO := Lib.hid hok
  clear hs hl hok
  go_enter Try.func12, Try.ntmps12
  go_wp2
  go_loopw [7, 8] (fun v i wr => ∃ k : Nat, k ≤ n ∧ i = .int .i64 k ∧ KeepRow w.heap.size l t ss k v wr ∧ Below w.heap.size w wr) (fun _ i _ => n - (intOf i).toNat)
  case atStart => exact ⟨0, Nat.zero_le _, rfl, ⟨none, 0, 0, rfl, rfl, World.ownsRow_nil _ _ _ _⟩, bel_rfl⟩
  case round =>
    obtain ⟨k, hk, rfl, ⟨A1, m, c1, rfl, hm, hrow⟩, hb⟩ := hrel
    have hmn : m ≤ k := by rw [hm]; refine Nat.le_trans (List.length_filter_le _ _) ?_; rw [List.length_take]; omega
    have HM := Lib.hid hm
    have HROW := Lib.hid hrow
    clear hm hrow
    by_cases hlt : k < n
    · obtain ⟨b, o, e, rfl, he, hc⟩ := Evs.ev (Rows.below HL.out hb) hlt
      have HE := Lib.hid he
      have HC := Lib.hid hc
      obtain ⟨d0, d1, d2, d3, d4, d5, d6, d7⟩ := hc
      clear he
      have hall := fun w => refAll_any e w
      have hown := fun w h => refOwn_any t A2 n2 c2 ss e w h hn2
      cases h1 : allB e.kind with
      | true =>
        have hk1 : keepB t ss e = true := by simp [keepB, delB, h1]
        have hst := keep_step (t := t) (ss := ss) HE.out
        rw [hk1] at hst
        rw [h1] at hall
        have HA := Lib.hid hall
        have HST := Lib.hid hst
        clear hall hown h1 hk1 hst
        go_wp2_with (first
          | (go_at_call 9; refine (HA.out _).mono ?_; rintro r w1 ⟨rfl, hb1⟩; obtain ⟨e0, e1, e2, e3, e4, e5, e6, e7⟩ := HC.out.below hb1)
          | (at_builtin; refine app_ev _ rfl _ _ rfl w.heap.size _ m _ rfl ((bel_own hb1 HROW.out).alloc _) _ 1 _ (evCells e) rfl (Rd.lit _ 8 1 (evCells e).toArray 30 rfl) (evCells_one e) (by omega) (by have := hb.size; have := hb1.size; simp; omega) ?_; intro A3 c3 w3 hown3 hgrow3 hblk3))
        refine ⟨⟨k + 1, by omega, by go_num, ⟨A3, m + 1, c3, rfl, ?_, ?_⟩, ?_⟩, by simp [intOf]; omega⟩
        · rw [HST.out, HM.out]; simp
        · rw [HST.out]; simpa using hown3
        · exact (bel_trans hb ((hb1.alloc hb1.size _))).grown hgrow3 (by have := hb.size; have := hb1.size; simp; omega) (fun g hg => (HROW.out.lt g hg).1)
      | false =>
        cases h2 : ownB t ss e with
        | true =>
          have hk1 : keepB t ss e = true := by simp [keepB, delB, h1, h2]
          have hst := keep_step (t := t) (ss := ss) HE.out
          rw [hk1] at hst
          rw [h1] at hall
          rw [h2] at hown
          have HA := Lib.hid hall
          have HW := Lib.hid hown
          have HST := Lib.hid hst
          clear hall hown h1 h2 hk1 hst
          go_wp2_with (first
            | (go_at_call 9; refine (HA.out _).mono ?_; rintro r w1 ⟨rfl, hb1⟩; obtain ⟨e0, e1, e2, e3, e4, e5, e6, e7⟩ := HC.out.below hb1)
            | (go_at_call 7; refine (HW.out _ (Rd.below HS.out (bel_trans hb hb1))).mono ?_; rintro r w2 ⟨rfl, hb2⟩; obtain ⟨f0, f1, f2, f3, f4, f5, f6, f7⟩ := HC.out.below (bel_trans hb1 hb2))
            | (at_builtin; refine app_ev _ rfl _ _ rfl w.heap.size _ m _ rfl ((bel_own hb2 (bel_own hb1 HROW.out)).alloc _) _ 1 _ (evCells e) rfl (Rd.lit _ 8 1 (evCells e).toArray 30 rfl) (evCells_one e) (by omega) (by have := hb.size; have := hb1.size; have := hb2.size; simp; omega) ?_; intro A3 c3 w3 hown3 hgrow3 hblk3))
          refine ⟨⟨k + 1, by omega, by go_num, ⟨A3, m + 1, c3, rfl, ?_, ?_⟩, ?_⟩, by simp [intOf]; omega⟩
          · rw [HST.out, HM.out]; simp
          · rw [HST.out]; simpa using hown3
          · exact (bel_trans (bel_trans hb hb1) ((hb2.alloc hb2.size _))).grown hgrow3 (by have := hb.size; have := hb1.size; have := hb2.size; simp; omega) (fun g hg => (HROW.out.lt g hg).1)
        | false =>
          have hk1 : keepB t ss e = false := by simp [keepB, delB, h1, h2]
          have hst := keep_step (t := t) (ss := ss) HE.out
          rw [hk1] at hst
          rw [h1] at hall
          rw [h2] at hown
          have HA := Lib.hid hall
          have HW := Lib.hid hown
          have HST := Lib.hid hst
          clear hall hown h1 h2 hk1 hst
          go_wp2_with (first
            | (go_at_call 9; refine (HA.out _).mono ?_; rintro r w1 ⟨rfl, hb1⟩; obtain ⟨e0, e1, e2, e3, e4, e5, e6, e7⟩ := HC.out.below hb1)
            | (go_at_call 7; refine (HW.out _ (Rd.below HS.out (bel_trans hb hb1))).mono ?_; rintro r w2 ⟨rfl, hb2⟩))
          refine ⟨⟨k + 1, by omega, by go_num, ⟨A1, m, c1, rfl, ?_, ?_⟩, bel_trans hb (bel_trans hb1 hb2)⟩, by simp [intOf]; omega⟩
          · rw [HST.out, HM.out]; simp
          · rw [HST.out]; simpa using bel_own hb2 (bel_own hb1 HROW.out)
    · go_wp2
      go_ret
      obtain rfl : k = n := by omega
      have hll := HL.out.1
      have e1 : l.take k = l := List.take_of_length_le (by omega)
      have hr := HROW.out
      rw [e1] at hr
      exact ⟨A1, m, c1, l.filter (keepB t ss), by simp, Rows.of_rd evCells_length (by rw [HM.out, e1]) (own_rd hr), fun e he => (HO.out e (List.mem_filter.1 he).1).below hb, ⟨rfl, fun i e e' h h' => by rw [h] at h'; cases h'; exact ⟨rfl, rfl, rfl, rfl, rfl, rfl, rfl, rfl⟩⟩, hb⟩
end Go.Proofs.Ytfdafkjoienpmaa
