/- The reference's comparison of two lists of events that are alike. -/
import Derived.Test.YtfdafkjoienpmaaRefKeep
import Derived.Test.YtfdafkjoienpmaaSame
import Derived.Deep.RegionHeld3
namespace Go.Proofs.Ytfdafkjoienpmaa
open Go.RowKit

theorem sameB_self (l : List UInt8) : sameB l l = true := by simp [sameB]

set_option maxRecDepth 100000 in
theorem Same39_alike (e e' : Ev) (w : World) (h : EvOk w e) (h' : EvOk w e') (ha : alike e e') :
    Calls Try.prog 14 #[evV e, evV e'] w fun r w' => r = .returned (.bool true) ∧ Below w.heap.size w w' := by
  obtain ⟨k, s, st, t, n, m, bi, A, dn, dc, d⟩ := e
  obtain ⟨k', s', st', t', n', m', bi', A', dn', dc', d'⟩ := e'
  simp only [alike] at ha
  obtain ⟨rfl, rfl, rfl, rfl, rfl, rfl, rfl, rfl⟩ := ha
  have hS := fun w' (hb : Below w.heap.size w w') => Same_any A A' dn dn' dc dc' d' d' w' (Rd.below h.1 hb) (Rd.below h'.1 hb) h.2.1
  rw [sameB_self] at hS
  have HS := Lib.hid hS
  clear hS h h'
  have hb0 : Below w.heap.size w ((w.alloc (.cells #[.int .i64 k', .int .i64 s', .int .i64 st', .string t', .int .u64 n', .int .i64 m', .int .u64 bi', .slice A dn dc] 30)).alloc (.cells #[.int .i64 k', .int .i64 s', .int .i64 st', .string t', .int .u64 n', .int .i64 m', .int .u64 bi', .slice A' dn' dc'] 30)) := ((Below.refl _ _).alloc (Nat.le_refl _) _).alloc (by simp) _
  go_enter Try.func14, Try.ntmps14
  go_wp2_with (go_at_call 20; refine (HS.out _ hb0).mono ?_; rintro r w1 ⟨rfl, hb1⟩)
  go_ret
  exact ⟨by simp, bel_trans hb0 hb1⟩

theorem keep16 {w w1 w2 : World} {b o b' o' : Nat} {e e' : Ev} (h : EvAt w1 b o e) (h' : EvAt w1 b' o' e') (hb0 : Below w.heap.size w w1) (hb : Below w1.heap.size w1 w2) :
    EvAt w2 b o e ∧ EvAt w2 b' o' e' ∧ Below w.heap.size w w2 := by
  refine ⟨?_, ?_, bel_trans hb0 hb⟩
  · obtain ⟨h0, h1, h2, h3, h4, h5, h6, h7⟩ := h
    exact ⟨(hb.cell (cell_lt h0)).trans h0, (hb.cell (cell_lt h1)).trans h1, (hb.cell (cell_lt h2)).trans h2, (hb.cell (cell_lt h3)).trans h3, (hb.cell (cell_lt h4)).trans h4, (hb.cell (cell_lt h5)).trans h5, (hb.cell (cell_lt h6)).trans h6, (hb.cell (cell_lt h7)).trans h7⟩
  · obtain ⟨h0, h1, h2, h3, h4, h5, h6, h7⟩ := h'
    exact ⟨(hb.cell (cell_lt h0)).trans h0, (hb.cell (cell_lt h1)).trans h1, (hb.cell (cell_lt h2)).trans h2, (hb.cell (cell_lt h3)).trans h3, (hb.cell (cell_lt h4)).trans h4, (hb.cell (cell_lt h5)).trans h5, (hb.cell (cell_lt h6)).trans h6, (hb.cell (cell_lt h7)).trans h7⟩
theorem keep17 {w w1 w2 : World} {b o b' o' : Nat} {e e' : Ev} (h : EvAt w1 b o e) (h' : EvAt w1 b' o' e') (hb0 : Below w.heap.size w w1) (hb : Below w1.heap.size w1 w2) :
    w2.cell? ⟨b, o, none⟩ = some (.int .i64 e.kind) ∧ w2.cell? ⟨b, o + 1, none⟩ = some (.int .i64 e.session) ∧ w2.cell? ⟨b, o + 2, none⟩ = some (.int .i64 e.stream) ∧ w2.cell? ⟨b, o + 3, none⟩ = some (.string e.tenant) ∧ w2.cell? ⟨b, o + 4, none⟩ = some (.int .u64 e.n) ∧ w2.cell? ⟨b, o + 5, none⟩ = some (.int .i64 e.m) ∧ w2.cell? ⟨b, o + 6, none⟩ = some (.int .u64 e.bits) ∧ w2.cell? ⟨b, o + 7, none⟩ = some (.slice e.dA e.dn e.dc) ∧ w2.cell? ⟨b', o', none⟩ = some (.int .i64 e'.kind) ∧ w2.cell? ⟨b', o' + 1, none⟩ = some (.int .i64 e'.session) ∧ w2.cell? ⟨b', o' + 2, none⟩ = some (.int .i64 e'.stream) ∧ w2.cell? ⟨b', o' + 3, none⟩ = some (.string e'.tenant) ∧ w2.cell? ⟨b', o' + 4, none⟩ = some (.int .u64 e'.n) ∧ w2.cell? ⟨b', o' + 5, none⟩ = some (.int .i64 e'.m) ∧ w2.cell? ⟨b', o' + 6, none⟩ = some (.int .u64 e'.bits) ∧ w2.cell? ⟨b', o' + 7, none⟩ = some (.slice e'.dA e'.dn e'.dc) ∧ Below w.heap.size w w2 := by
  obtain ⟨⟨h0, h1, h2, h3, h4, h5, h6, h7⟩, ⟨g0, g1, g2, g3, g4, g5, g6, g7⟩, h8⟩ := keep16 h h' hb0 hb
  exact ⟨h0, h1, h2, h3, h4, h5, h6, h7, g0, g1, g2, g3, g4, g5, g6, g7, h8⟩

set_option maxRecDepth 100000 in
theorem Lists39_alike (A A' : Option Addr) (n c c' : Nat) (l l' : List Ev) (w : World) (h : Evs w A n l) (h' : Evs w A' n l') (hok : ∀ e ∈ l, EvOk w e) (hok' : ∀ e ∈ l', EvOk w e) (ha : ∀ (i : Nat) (e e' : Ev), l[i]? = some e → l'[i]? = some e' → alike e e') (hn : n ≤ 100000000000) :
    Calls Try.prog 10 #[.slice A n c, .slice A' n c'] w fun r w' => r = .returned (.bool true) ∧ Below w.heap.size w w' := by
  have H1 := Lib.hid h
  have H2 := Lib.hid h'
  have H3 := Lib.hid hok
  have H4 := Lib.hid hok'
  have H5 := Lib.hid ha
  clear h h' hok hok' ha
  go_enter Try.func10, Try.ntmps10
  go_wp2
  go_loopw [5] (fun i wr => ∃ k : Nat, k ≤ n ∧ i = .int .i64 k ∧ Below w.heap.size w wr) (fun i _ => n - (intOf i).toNat)
  case atStart => exact ⟨0, Nat.zero_le _, rfl, bel_rfl⟩
  case round =>
    obtain ⟨k, hk, rfl, hb⟩ := hrel
    by_cases hlt : k < n
    · obtain ⟨b, o, e, rfl, he, hc⟩ := Evs.ev (Rows.below H1.out hb) hlt
      obtain ⟨b', o', e', rfl, he', hc'⟩ := Evs.ev (Rows.below H2.out hb) hlt
      have hal := H5.out k e e' he he'
      have hS := fun w' (hb' : Below wr.heap.size wr w') => Same39_alike e e' w' (EvOk.below (H3.out e (List.mem_of_getElem? he)) (bel_trans hb hb')) (EvOk.below (H4.out e' (List.mem_of_getElem? he')) (bel_trans hb hb')) hal
      have HS := Lib.hid hS
      have HC := Lib.hid hc
      have HC' := Lib.hid hc'
      obtain ⟨c0, c1, c2, c3, c4, c5, c6, c7⟩ := hc
      obtain ⟨d0, d1, d2, d3, d4, d5, d6, d7⟩ := hc'
      clear hS he he' hal
      go_wp2
      go_region_held3 (fun w' => w'.cell? ⟨b, o + k * 8, none⟩ = some (.int .i64 e.kind) ∧ w'.cell? ⟨b, o + k * 8 + 1, none⟩ = some (.int .i64 e.session) ∧ w'.cell? ⟨b, o + k * 8 + 2, none⟩ = some (.int .i64 e.stream) ∧ w'.cell? ⟨b, o + k * 8 + 3, none⟩ = some (.string e.tenant) ∧ w'.cell? ⟨b, o + k * 8 + 4, none⟩ = some (.int .u64 e.n) ∧ w'.cell? ⟨b, o + k * 8 + 5, none⟩ = some (.int .i64 e.m) ∧ w'.cell? ⟨b, o + k * 8 + 6, none⟩ = some (.int .u64 e.bits) ∧ w'.cell? ⟨b, o + k * 8 + 7, none⟩ = some (.slice e.dA e.dn e.dc) ∧ w'.cell? ⟨b', o' + k * 8, none⟩ = some (.int .i64 e'.kind) ∧ w'.cell? ⟨b', o' + k * 8 + 1, none⟩ = some (.int .i64 e'.session) ∧ w'.cell? ⟨b', o' + k * 8 + 2, none⟩ = some (.int .i64 e'.stream) ∧ w'.cell? ⟨b', o' + k * 8 + 3, none⟩ = some (.string e'.tenant) ∧ w'.cell? ⟨b', o' + k * 8 + 4, none⟩ = some (.int .u64 e'.n) ∧ w'.cell? ⟨b', o' + k * 8 + 5, none⟩ = some (.int .i64 e'.m) ∧ w'.cell? ⟨b', o' + k * 8 + 6, none⟩ = some (.int .u64 e'.bits) ∧ w'.cell? ⟨b', o' + k * 8 + 7, none⟩ = some (.slice e'.dA e'.dn e'.dc) ∧ Below wr.heap.size wr w')
        (first
          | exact keep17 ⟨c0, c1, c2, c3, c4, c5, c6, c7⟩ ⟨d0, d1, d2, d3, d4, d5, d6, d7⟩ bel_rfl bel_rfl
          | exact keep17 ⟨c0, c1, c2, c3, c4, c5, c6, c7⟩ ⟨d0, d1, d2, d3, d4, d5, d6, d7⟩ bel_rfl (Below.drew bel_rfl)
          | exact keep17 ⟨c0, c1, c2, c3, c4, c5, c6, c7⟩ ⟨d0, d1, d2, d3, d4, d5, d6, d7⟩ bel_rfl (bel_trans (Below.drew bel_rfl) hb1))
        (first | (go_at_call 14; refine (HS.out _ (Below.drew bel_rfl)).mono ?_; rintro r w1 ⟨rfl, hb1⟩))
      go_wp2
      refine ⟨⟨k + 1, by omega, by go_num, bel_trans hb (bel_trans (Below.drew bel_rfl) hb1)⟩, by simp [intOf]; omega⟩
    · go_wp2
      go_ret
      exact ⟨by simp, hb⟩
end Go.Proofs.Ytfdafkjoienpmaa
