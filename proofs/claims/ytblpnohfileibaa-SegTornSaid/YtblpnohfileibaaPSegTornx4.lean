-- PRINTED BY print.sh 35421559b90ae4d0a3588c463048766b98c2df88dd9212a6774a882060cdf62d: not written by this session
import Derived.Test.YtblpnohfileibaaPSegTornx0
import Derived.Test.YtblpnohfileibaaPSegTornx2
import Derived.Test.YtblpnohfileibaaPSegTornx3
namespace Go.Proofs.Ytblpnohfileibaa.PSegTorn
open Go.RowKit Go.Proofs.YtblpnohfileibaaW.PrintWords Go.Proofs.YtblpnohfileibaaW.PrintLast Go.Proofs.YtblpnohfileibaaW.PrintMore
attribute [local go_sem] max2_int min2_int max_two min_two max_three min_three max_four min_four   -- for this text's walks alone
set_option linter.unusedVariables false
set_option linter.unusedSimpArgs false

/-! ### taximeterref11_Check: function 16 -/
mutual
def taximeterref11_Check.j0 : Nat → Bool → Int → Int → ByteArray → Int → Int → Int → Option (Int)
  | 0, _, _, _, _, _, _, _ => none
  | k + 1, x11, x117000, x117001, x117002, x117003, x117004, x117005 => if x11 = true then (some 5) else ((taximeterref07_Tenant.f k x117002).bind fun t117 => (if t117 = true then (if x117000 = 0 then (taximeterref11_Check.j1 k true x117000 x117001 x117002 x117003 x117004 x117005) else ((taximeterref11_Has.f k x117001 108).bind fun t118 => (if t118 = true then (if x117003 = 0 then (taximeterref11_Check.j1 k true x117000 x117001 x117002 x117003 x117004 x117005) else (if x117001 = 3 then (taximeterref11_Check.j1 k (x117004 == 0) x117000 x117001 x117002 x117003 x117004 x117005) else (taximeterref11_Check.j1 k false x117000 x117001 x117002 x117003 x117004 x117005))) else (if x117001 = 3 then (taximeterref11_Check.j1 k (x117004 == 0) x117000 x117001 x117002 x117003 x117004 x117005) else (taximeterref11_Check.j1 k false x117000 x117001 x117002 x117003 x117004 x117005))))) else (some 7)))
def taximeterref11_Check.j1 : Nat → Bool → Int → Int → ByteArray → Int → Int → Int → Option (Int)
  | 0, _, _, _, _, _, _, _ => none
  | k + 1, x38, x117000, x117001, x117002, x117003, x117004, x117005 => if x38 = true then (some 6) else ((taximeterref05_Class.f k x117005).bind fun t119 => ((taximeterref11_Has.f k x117001 98).bind fun t120 => (if t120 = true then (if t119 = 4 then (taximeterref11_Check.j2 k false x117000 x117001 x117002 x117003 x117004 x117005) else (taximeterref11_Check.j2 k (t119 != 5) x117000 x117001 x117002 x117003 x117004 x117005)) else (taximeterref11_Check.j2 k false x117000 x117001 x117002 x117003 x117004 x117005))))
def taximeterref11_Check.j2 : Nat → Bool → Int → Int → ByteArray → Int → Int → Int → Option (Int)
  | 0, _, _, _, _, _, _, _ => none
  | k + 1, x52, x117000, x117001, x117002, x117003, x117004, x117005 => if x52 = true then (some 13) else ((taximeterref11_Has.f k x117001 108).bind fun t121 => (if t121 = true then ((taximeterref11_Has.f k x117001 110).bind fun t122 => (if t122 = true then ((taximeterref11_Has.f k x117001 98).bind fun t123 => (if t123 = true then (some 0) else (if x117005 = 0 then (some 0) else (some 2)))) else (if x117004 = 0 then ((taximeterref11_Has.f k x117001 98).bind fun t124 => (if t124 = true then (some 0) else (if x117005 = 0 then (some 0) else (some 2)))) else (some 2)))) else (if x117003 = 0 then ((taximeterref11_Has.f k x117001 110).bind fun t125 => (if t125 = true then ((taximeterref11_Has.f k x117001 98).bind fun t126 => (if t126 = true then (some 0) else (if x117005 = 0 then (some 0) else (some 2)))) else (if x117004 = 0 then ((taximeterref11_Has.f k x117001 98).bind fun t127 => (if t127 = true then (some 0) else (if x117005 = 0 then (some 0) else (some 2)))) else (some 2)))) else (some 2))))
end
def taximeterref11_Check.f (k : Nat) (a0_0 : Int) (a0_1 : Int) (a0_2 : ByteArray) (a0_3 : Int) (a0_4 : Int) (a0_5 : Int) : Option (Int) := if a0_1 < 1 then (taximeterref11_Check.j0 k true a0_0 a0_1 a0_2 a0_3 a0_4 a0_5) else (taximeterref11_Check.j0 k (decide (a0_1 > 5)) a0_0 a0_1 a0_2 a0_3 a0_4 a0_5)
theorem taximeterref11_Check.mono_l : ∀ k, (∀ y0 y1 y2 y3 y4 y5 y6, LeO (taximeterref11_Check.j0 k y0 y1 y2 y3 y4 y5 y6) (taximeterref11_Check.j0 (k + 1) y0 y1 y2 y3 y4 y5 y6)) ∧ (∀ y0 y1 y2 y3 y4 y5 y6, LeO (taximeterref11_Check.j1 k y0 y1 y2 y3 y4 y5 y6) (taximeterref11_Check.j1 (k + 1) y0 y1 y2 y3 y4 y5 y6)) ∧ (∀ y0 y1 y2 y3 y4 y5 y6, LeO (taximeterref11_Check.j2 k y0 y1 y2 y3 y4 y5 y6) (taximeterref11_Check.j2 (k + 1) y0 y1 y2 y3 y4 y5 y6))
  | 0 => ⟨fun _ _ _ _ _ _ _ r h => by simp [taximeterref11_Check.j0] at h, fun _ _ _ _ _ _ _ r h => by simp [taximeterref11_Check.j1] at h, fun _ _ _ _ _ _ _ r h => by simp [taximeterref11_Check.j2] at h⟩
  | k + 1 => by
    obtain ⟨ih0, ih1, ih2⟩ := taximeterref11_Check.mono_l k
    refine ⟨?_, ?_, ?_⟩
    · intro y0 y1 y2 y3 y4 y5 y6
      unfold taximeterref11_Check.j0
      repeat' first
      | (with_reducible exact ih0 _ _ _ _ _ _ _)
      | (with_reducible exact ih1 _ _ _ _ _ _ _)
      | (with_reducible exact ih2 _ _ _ _ _ _ _)
      | (with_reducible exact taximeterref05_Class.mono _ _)
      | (with_reducible exact taximeterref07_Tenant.mono _ _)
      | (with_reducible exact taximeterref11_Has.mono _ _ _)
      | (with_reducible exact LeO.refl _)
      | (with_reducible exact LeO.none _)
      | (with_reducible refine LeO.ite ?_ ?_)
      | (with_reducible refine LeO.bind ?_ (fun _ => ?_))
      | exact ih0 _ _ _ _ _ _ _
      | exact ih1 _ _ _ _ _ _ _
      | exact ih2 _ _ _ _ _ _ _
      | exact taximeterref05_Class.mono _ _
      | exact taximeterref07_Tenant.mono _ _
      | exact taximeterref11_Has.mono _ _ _
      | exact LeO.none _
      | refine LeO.ite ?_ ?_
      | refine LeO.bind ?_ (fun _ => ?_)
    · intro y0 y1 y2 y3 y4 y5 y6
      unfold taximeterref11_Check.j1
      repeat' first
      | (with_reducible exact ih0 _ _ _ _ _ _ _)
      | (with_reducible exact ih1 _ _ _ _ _ _ _)
      | (with_reducible exact ih2 _ _ _ _ _ _ _)
      | (with_reducible exact taximeterref05_Class.mono _ _)
      | (with_reducible exact taximeterref07_Tenant.mono _ _)
      | (with_reducible exact taximeterref11_Has.mono _ _ _)
      | (with_reducible exact LeO.refl _)
      | (with_reducible exact LeO.none _)
      | (with_reducible refine LeO.ite ?_ ?_)
      | (with_reducible refine LeO.bind ?_ (fun _ => ?_))
      | exact ih0 _ _ _ _ _ _ _
      | exact ih1 _ _ _ _ _ _ _
      | exact ih2 _ _ _ _ _ _ _
      | exact taximeterref05_Class.mono _ _
      | exact taximeterref07_Tenant.mono _ _
      | exact taximeterref11_Has.mono _ _ _
      | exact LeO.none _
      | refine LeO.ite ?_ ?_
      | refine LeO.bind ?_ (fun _ => ?_)
    · intro y0 y1 y2 y3 y4 y5 y6
      unfold taximeterref11_Check.j2
      repeat' first
      | (with_reducible exact ih0 _ _ _ _ _ _ _)
      | (with_reducible exact ih1 _ _ _ _ _ _ _)
      | (with_reducible exact ih2 _ _ _ _ _ _ _)
      | (with_reducible exact taximeterref05_Class.mono _ _)
      | (with_reducible exact taximeterref07_Tenant.mono _ _)
      | (with_reducible exact taximeterref11_Has.mono _ _ _)
      | (with_reducible exact LeO.refl _)
      | (with_reducible exact LeO.none _)
      | (with_reducible refine LeO.ite ?_ ?_)
      | (with_reducible refine LeO.bind ?_ (fun _ => ?_))
      | exact ih0 _ _ _ _ _ _ _
      | exact ih1 _ _ _ _ _ _ _
      | exact ih2 _ _ _ _ _ _ _
      | exact taximeterref05_Class.mono _ _
      | exact taximeterref07_Tenant.mono _ _
      | exact taximeterref11_Has.mono _ _ _
      | exact LeO.none _
      | refine LeO.ite ?_ ?_
      | refine LeO.bind ?_ (fun _ => ?_)
theorem taximeterref11_Check.mono : ∀ a0 a1 a2 a3 a4 a5 k, LeO (taximeterref11_Check.f k a0 a1 a2 a3 a4 a5) (taximeterref11_Check.f (k + 1) a0 a1 a2 a3 a4 a5) := by
  intro a0 a1 a2 a3 a4 a5 k
  obtain ⟨ih0, ih1, ih2⟩ := taximeterref11_Check.mono_l k
  unfold taximeterref11_Check.f
  repeat' first
      | (with_reducible exact ih0 _ _ _ _ _ _ _)
      | (with_reducible exact ih1 _ _ _ _ _ _ _)
      | (with_reducible exact ih2 _ _ _ _ _ _ _)
      | (with_reducible exact taximeterref05_Class.mono _ _)
      | (with_reducible exact taximeterref07_Tenant.mono _ _)
      | (with_reducible exact taximeterref11_Has.mono _ _ _)
      | (with_reducible exact LeO.refl _)
      | (with_reducible exact LeO.none _)
      | (with_reducible refine LeO.ite ?_ ?_)
      | (with_reducible refine LeO.bind ?_ (fun _ => ?_))
      | exact ih0 _ _ _ _ _ _ _
      | exact ih1 _ _ _ _ _ _ _
      | exact ih2 _ _ _ _ _ _ _
      | exact taximeterref05_Class.mono _ _
      | exact taximeterref07_Tenant.mono _ _
      | exact taximeterref11_Has.mono _ _ _
      | exact LeO.none _
      | refine LeO.ite ?_ ?_
      | refine LeO.bind ?_ (fun _ => ?_)
set_option maxHeartbeats 8000000 in
set_option maxRecDepth 100000 in
theorem taximeterref11_Check.calls (k : Nat) (a0_0 : Int) (a0_1 : Int) (a0_2 : ByteArray) (a0_3 : Int) (a0_4 : Int) (a0_5 : Int) (r : Int) (w : World) (h : taximeterref11_Check.f k a0_0 a0_1 a0_2 a0_3 a0_4 a0_5 = some r) :
    Calls Try.prog 16 #[.agg #[.int .u64 a0_0, .int .i64 a0_1, .string a0_2, .int .u64 a0_3, .int .u64 a0_4, .int .u64 a0_5]] w fun e w' => e = .returned (.int .i64 r) ∧ Below w.heap.size w w' := by
  have hu37 := Try.underlying37
  have HB := Aside0.mk (Below.refl w.heap.size w)
  have H : (if a0_1 < 1 then (taximeterref11_Check.j0 k true a0_0 a0_1 a0_2 a0_3 a0_4 a0_5) else (taximeterref11_Check.j0 k (decide (a0_1 > 5)) a0_0 a0_1 a0_2 a0_3 a0_4 a0_5)) = some r := h
  clear h
  have HC2 := Aside0.mk H
  clear H
  go_enter Try.func16, Try.ntmps16
  go_upto_region 1 with (first | ((with_reducible refine gate_dst (N := 1) rfl ?_); refine box_event ?hg (N := 1) ?hd (cs := #[.int .u64 a0_0, .int .i64 a0_1, .string a0_2, .int .u64 a0_3, .int .u64 a0_4, .int .u64 a0_5]) (t := 37) ?hr ?_; (case hd => rfl); (case hg => rfl); (case hr => first | (go_simp; done) | (go_simp; rfl)); intro gb116 hg w3 hbox hb; have n0_ := Aside0.mk (below_step (by repeat (first | (with_reducible first | exact HB.out | apply below_alloc | apply pw_below_drewN | apply below_drew1) | exact HB.out)) hb); have n1_ := Aside0.mk (hbox); have n2_ := Aside0.mk ((by rw [hg]; exact (below_size (by repeat (first | (with_reducible first | exact HB.out | apply below_alloc | apply pw_below_drewN | apply below_drew1) | exact HB.out))) : w.heap.size ≤ gb116)); have n3_ := Aside0.mk ((by rw [hg]; exact (below_size (by repeat (first | (with_reducible first | exact HB.out | apply below_alloc | apply pw_below_drewN | apply below_drew1) | exact HB.out))) : w.heap.size ≤ gb116)); clear HB; have HB := n0_; have BK116 := n1_; have GW116 := n2_; have GE116 := n3_; clear n0_ n1_ n2_ n3_; clear hb hbox hg))
  (try simp only [Act.put, List.setIfInBounds_toArray, List.set_cons_zero, List.set_cons_succ])
  go_cut [11] (fun v11 wc => ∃ (kq : Nat) (x11_1 : Bool), v11 = .bool x11_1 ∧ Aside0 (taximeterref11_Check.j0 kq x11_1 a0_0 a0_1 a0_2 a0_3 a0_4 a0_5 = some r) ∧ Aside0 (kq ≤ k) ∧ Aside0 (wc.heap[gb116]? = some (.cells #[.int .u64 a0_0, .int .i64 a0_1, .string a0_2, .int .u64 a0_3, .int .u64 a0_4, .int .u64 a0_5] 37 (0, 0))) ∧ Aside0 (Below w.heap.size w wc))
  case first =>
    have H := HC2.out
    clear HC2
    by_cases c4 : a0_1 < 1
    · rw [if_pos c4] at H
      have c4b0 : decide (a0_1 < 1) = true := decide_eq_true c4
      clear c4
      (first | rw [c4b0] | (simp only [i64_w, i32_w]; rw [c4b0]) | skip)
      have H' := Aside0.mk H
      clear H
      have hcz5_0 : w3.cell? ⟨gb116, 0, none⟩ = some (.int .u64 a0_0) := (blk_cell BK116.out 0).trans rfl
      have hcz5_1 : w3.cell? ⟨gb116, 1, none⟩ = some (.int .i64 a0_1) := (blk_cell BK116.out 1).trans rfl
      have hcz5_2 : w3.cell? ⟨gb116, 2, none⟩ = some (.string a0_2) := (blk_cell BK116.out 2).trans rfl
      have hcz5_3 : w3.cell? ⟨gb116, 3, none⟩ = some (.int .u64 a0_3) := (blk_cell BK116.out 3).trans rfl
      have hcz5_4 : w3.cell? ⟨gb116, 4, none⟩ = some (.int .u64 a0_4) := (blk_cell BK116.out 4).trans rfl
      have hcz5_5 : w3.cell? ⟨gb116, 5, none⟩ = some (.int .u64 a0_5) := (blk_cell BK116.out 5).trans rfl
      have hfz5_0 := blk_frozen BK116.out 0
      have hfz5_1 := blk_frozen BK116.out 1
      have hfz5_2 := blk_frozen BK116.out 2
      have hfz5_3 := blk_frozen BK116.out 3
      have hfz5_4 := blk_frozen BK116.out 4
      have hfz5_5 := blk_frozen BK116.out 5
      go_wp2
      go_meet
      case rel => exact ⟨_, (true), (by first | rfl | (simp; done) | (simp [*]; done)), H', ⟨by first | omega | exact Nat.le_refl _⟩, ⟨by (with_reducible repeat (first | refine blk_drewN ?_ _ | refine blk_drew ?_ | refine blk_alloc ?_ _)); exact BK116.out⟩, ⟨by repeat (first | (with_reducible first | exact HB.out | apply below_alloc | apply pw_below_drewN | apply below_drew1 | refine below_set ?_ GE116.out) | exact HB.out)⟩⟩
    · rw [if_neg c4] at H
      have c4b0 : decide (a0_1 < 1) = false := decide_eq_false c4
      clear c4
      (first | rw [c4b0] | (simp only [i64_w, i32_w]; rw [c4b0]) | skip)
      have H' := Aside0.mk H
      clear H
      have hcz6_0 : w3.cell? ⟨gb116, 0, none⟩ = some (.int .u64 a0_0) := (blk_cell BK116.out 0).trans rfl
      have hcz6_1 : w3.cell? ⟨gb116, 1, none⟩ = some (.int .i64 a0_1) := (blk_cell BK116.out 1).trans rfl
      have hcz6_2 : w3.cell? ⟨gb116, 2, none⟩ = some (.string a0_2) := (blk_cell BK116.out 2).trans rfl
      have hcz6_3 : w3.cell? ⟨gb116, 3, none⟩ = some (.int .u64 a0_3) := (blk_cell BK116.out 3).trans rfl
      have hcz6_4 : w3.cell? ⟨gb116, 4, none⟩ = some (.int .u64 a0_4) := (blk_cell BK116.out 4).trans rfl
      have hcz6_5 : w3.cell? ⟨gb116, 5, none⟩ = some (.int .u64 a0_5) := (blk_cell BK116.out 5).trans rfl
      have hfz6_0 := blk_frozen BK116.out 0
      have hfz6_1 := blk_frozen BK116.out 1
      have hfz6_2 := blk_frozen BK116.out 2
      have hfz6_3 := blk_frozen BK116.out 3
      have hfz6_4 := blk_frozen BK116.out 4
      have hfz6_5 := blk_frozen BK116.out 5
      go_wp2
      go_meet
      case rel => exact ⟨_, (decide (a0_1 > 5)), (by first | rfl | (simp; done) | (simp [*]; done)), H', ⟨by first | omega | exact Nat.le_refl _⟩, ⟨by (with_reducible repeat (first | refine blk_drewN ?_ _ | refine blk_drew ?_ | refine blk_alloc ?_ _)); exact BK116.out⟩, ⟨by repeat (first | (with_reducible first | exact HB.out | apply below_alloc | apply pw_below_drewN | apply below_drew1 | refine below_set ?_ GE116.out) | exact HB.out)⟩⟩
  case rest =>
    clear HC2
    try clear c1
    try clear p2
    try clear c4
    try clear c4b0
    try clear hcz5_0
    try clear hcz5_1
    try clear hcz5_2
    try clear hcz5_3
    try clear hcz5_4
    try clear hcz5_5
    try clear hcz6_0
    try clear hcz6_1
    try clear hcz6_2
    try clear hcz6_3
    try clear hcz6_4
    try clear hcz6_5
    try clear hfz5_0
    try clear hfz5_1
    try clear hfz5_2
    try clear hfz5_3
    try clear hfz5_4
    try clear hfz5_5
    try clear hfz6_0
    try clear hfz6_1
    try clear hfz6_2
    try clear hfz6_3
    try clear hfz6_4
    try clear hfz6_5
    obtain ⟨kq, x11_1, rfl, HA, HJ1, BK116, HB⟩ := hcut
    cases kq with
    | zero => exact absurd HA.out (by simp [taximeterref11_Check.j0])
    | succ kj1 =>
      have H := HA.out
      clear HA
      simp only [taximeterref11_Check.j0] at H
      by_cases c7 : x11_1 = true
      · subst c7
        have H1 : (some 5) = some r := by rw [if_pos rfl] at H; exact H
        clear H
        have H := H1
        clear H1
        obtain rfl := Option.some.inj H
        go_wp2
        go_ret
        exact ⟨by first | rfl | (simp [errW_none, errW_some] <;> rfl) | (simp [*, errW_none, errW_some] <;> rfl), by repeat (first | (with_reducible first | exact HB.out | apply below_alloc | apply pw_below_drewN | apply below_drew1 | refine below_set ?_ GE116.out) | exact HB.out)⟩
      · replace c7 := Bool.eq_false_iff.mpr c7
        subst c7
        have H1 : ((taximeterref07_Tenant.f kj1 a0_2).bind fun t117 => (if t117 = true then (if a0_0 = 0 then (taximeterref11_Check.j1 kj1 true a0_0 a0_1 a0_2 a0_3 a0_4 a0_5) else ((taximeterref11_Has.f kj1 a0_1 108).bind fun t118 => (if t118 = true then (if a0_3 = 0 then (taximeterref11_Check.j1 kj1 true a0_0 a0_1 a0_2 a0_3 a0_4 a0_5) else (if a0_1 = 3 then (taximeterref11_Check.j1 kj1 (a0_4 == 0) a0_0 a0_1 a0_2 a0_3 a0_4 a0_5) else (taximeterref11_Check.j1 kj1 false a0_0 a0_1 a0_2 a0_3 a0_4 a0_5))) else (if a0_1 = 3 then (taximeterref11_Check.j1 kj1 (a0_4 == 0) a0_0 a0_1 a0_2 a0_3 a0_4 a0_5) else (taximeterref11_Check.j1 kj1 false a0_0 a0_1 a0_2 a0_3 a0_4 a0_5))))) else (some 7))) = some r := by rw [if_neg (show ¬ (false = true) by decide)] at H; exact H
        clear H
        have H := H1
        clear H1
        replace H := Option.bind_eq_some_iff.mp H
        obtain ⟨t117, A80, H⟩ := H
        replace H : (if t117 = true then (if a0_0 = 0 then (taximeterref11_Check.j1 kj1 true a0_0 a0_1 a0_2 a0_3 a0_4 a0_5) else ((taximeterref11_Has.f kj1 a0_1 108).bind fun t118 => (if t118 = true then (if a0_3 = 0 then (taximeterref11_Check.j1 kj1 true a0_0 a0_1 a0_2 a0_3 a0_4 a0_5) else (if a0_1 = 3 then (taximeterref11_Check.j1 kj1 (a0_4 == 0) a0_0 a0_1 a0_2 a0_3 a0_4 a0_5) else (taximeterref11_Check.j1 kj1 false a0_0 a0_1 a0_2 a0_3 a0_4 a0_5))) else (if a0_1 = 3 then (taximeterref11_Check.j1 kj1 (a0_4 == 0) a0_0 a0_1 a0_2 a0_3 a0_4 a0_5) else (taximeterref11_Check.j1 kj1 false a0_0 a0_1 a0_2 a0_3 a0_4 a0_5))))) else (some 7)) = some r := H
        have A8 := Aside0.mk A80
        clear A80
        by_cases c9 : t117 = true
        · subst c9
          have H1 : (if a0_0 = 0 then (taximeterref11_Check.j1 kj1 true a0_0 a0_1 a0_2 a0_3 a0_4 a0_5) else ((taximeterref11_Has.f kj1 a0_1 108).bind fun t118 => (if t118 = true then (if a0_3 = 0 then (taximeterref11_Check.j1 kj1 true a0_0 a0_1 a0_2 a0_3 a0_4 a0_5) else (if a0_1 = 3 then (taximeterref11_Check.j1 kj1 (a0_4 == 0) a0_0 a0_1 a0_2 a0_3 a0_4 a0_5) else (taximeterref11_Check.j1 kj1 false a0_0 a0_1 a0_2 a0_3 a0_4 a0_5))) else (if a0_1 = 3 then (taximeterref11_Check.j1 kj1 (a0_4 == 0) a0_0 a0_1 a0_2 a0_3 a0_4 a0_5) else (taximeterref11_Check.j1 kj1 false a0_0 a0_1 a0_2 a0_3 a0_4 a0_5))))) = some r := by rw [if_pos rfl] at H; exact H
          clear H
          have H := H1
          clear H1
          have HC10 := Aside0.mk H
          clear H
          have hcz11_0 : wc.cell? ⟨gb116, 0, none⟩ = some (.int .u64 a0_0) := (blk_cell BK116.out 0).trans rfl
          have hcz11_1 : wc.cell? ⟨gb116, 1, none⟩ = some (.int .i64 a0_1) := (blk_cell BK116.out 1).trans rfl
          have hcz11_2 : wc.cell? ⟨gb116, 2, none⟩ = some (.string a0_2) := (blk_cell BK116.out 2).trans rfl
          have hcz11_3 : wc.cell? ⟨gb116, 3, none⟩ = some (.int .u64 a0_3) := (blk_cell BK116.out 3).trans rfl
          have hcz11_4 : wc.cell? ⟨gb116, 4, none⟩ = some (.int .u64 a0_4) := (blk_cell BK116.out 4).trans rfl
          have hcz11_5 : wc.cell? ⟨gb116, 5, none⟩ = some (.int .u64 a0_5) := (blk_cell BK116.out 5).trans rfl
          have hfz11_0 := blk_frozen BK116.out 0
          have hfz11_1 := blk_frozen BK116.out 1
          have hfz11_2 := blk_frozen BK116.out 2
          have hfz11_3 := blk_frozen BK116.out 3
          have hfz11_4 := blk_frozen BK116.out 4
          have hfz11_5 := blk_frozen BK116.out 5
          go_upto_region 5 with (first | ((with_reducible refine gate_callee (f := 46) rfl ?_); refine goesL_ (some 14) rfl rfl Try.func46 (by kernel_rfl) rfl #[.string a0_2] rfl (by (try simp only [List.map_toArray, List.map_cons, List.map_nil]); first | done | rfl | (simp only [List.length_drop, List.length_take]; rfl)) ?_; (with_reducible refine (taximeterref07_Tenant.calls kj1 a0_2 true _ A8.out).mono ?_); rintro e w' ⟨rfl, ⟨nd, rfl⟩⟩; refine ⟨_, rfl, ?_⟩))
          (try simp only [Act.put, List.setIfInBounds_toArray, List.set_cons_zero, List.set_cons_succ])
          go_cut [38] (fun v38 wc => ∃ (kq : Nat) (x38_9 : Bool), v38 = .bool x38_9 ∧ Aside0 (taximeterref11_Check.j1 kq x38_9 a0_0 a0_1 a0_2 a0_3 a0_4 a0_5 = some r) ∧ Aside0 (kq ≤ kj1) ∧ Aside0 (wc.heap[gb116]? = some (.cells #[.int .u64 a0_0, .int .i64 a0_1, .string a0_2, .int .u64 a0_3, .int .u64 a0_4, .int .u64 a0_5] 37 (0, 0))) ∧ Aside0 (Below w.heap.size w wc))
          case first =>
            have H := HC10.out
            clear HC10
            by_cases c12 : a0_0 = 0
            · rw [if_pos c12] at H
              have c12b0 : (a0_0 == 0) = true := beq_iff_eq.mpr c12
              have c12b1 : (a0_0 != 0) = false := bne_eq_false_iff_eq.mpr c12
              clear c12
              (first | rw [c12b0] | (simp only [i64_w, i32_w]; rw [c12b0]) | skip)
              have H' := Aside0.mk H
              clear H
              have hcz13_0 : wc.cell? ⟨gb116, 0, none⟩ = some (.int .u64 a0_0) := (blk_cell BK116.out 0).trans rfl
              have hcz13_1 : wc.cell? ⟨gb116, 1, none⟩ = some (.int .i64 a0_1) := (blk_cell BK116.out 1).trans rfl
              have hcz13_2 : wc.cell? ⟨gb116, 2, none⟩ = some (.string a0_2) := (blk_cell BK116.out 2).trans rfl
              have hcz13_3 : wc.cell? ⟨gb116, 3, none⟩ = some (.int .u64 a0_3) := (blk_cell BK116.out 3).trans rfl
              have hcz13_4 : wc.cell? ⟨gb116, 4, none⟩ = some (.int .u64 a0_4) := (blk_cell BK116.out 4).trans rfl
              have hcz13_5 : wc.cell? ⟨gb116, 5, none⟩ = some (.int .u64 a0_5) := (blk_cell BK116.out 5).trans rfl
              have hfz13_0 := blk_frozen BK116.out 0
              have hfz13_1 := blk_frozen BK116.out 1
              have hfz13_2 := blk_frozen BK116.out 2
              have hfz13_3 := blk_frozen BK116.out 3
              have hfz13_4 := blk_frozen BK116.out 4
              have hfz13_5 := blk_frozen BK116.out 5
              go_wp2
              go_meet
              case rel => exact ⟨_, (true), (by first | rfl | (simp; done) | (simp [*]; done)), H', ⟨by have := HJ1.out; first | omega | exact Nat.le_refl _⟩, ⟨by (with_reducible repeat (first | refine blk_drewN ?_ _ | refine blk_drew ?_ | refine blk_alloc ?_ _)); exact BK116.out⟩, ⟨by repeat (first | (with_reducible first | exact HB.out | apply below_alloc | apply pw_below_drewN | apply below_drew1 | refine below_set ?_ GE116.out) | exact HB.out)⟩⟩
            · rw [if_neg c12] at H
              have c12b0 : (a0_0 == 0) = false := beq_eq_false_iff_ne.mpr c12
              have c12b1 : (a0_0 != 0) = true := bne_iff_ne.mpr c12
              (first | rw [c12b0] | (simp only [i64_w, i32_w]; rw [c12b0]) | skip)
              replace H := Option.bind_eq_some_iff.mp H
              obtain ⟨t118, A140, H⟩ := H
              replace H : (if t118 = true then (if a0_3 = 0 then (taximeterref11_Check.j1 kj1 true a0_0 a0_1 a0_2 a0_3 a0_4 a0_5) else (if a0_1 = 3 then (taximeterref11_Check.j1 kj1 (a0_4 == 0) a0_0 a0_1 a0_2 a0_3 a0_4 a0_5) else (taximeterref11_Check.j1 kj1 false a0_0 a0_1 a0_2 a0_3 a0_4 a0_5))) else (if a0_1 = 3 then (taximeterref11_Check.j1 kj1 (a0_4 == 0) a0_0 a0_1 a0_2 a0_3 a0_4 a0_5) else (taximeterref11_Check.j1 kj1 false a0_0 a0_1 a0_2 a0_3 a0_4 a0_5))) = some r := H
              have A14 := Aside0.mk A140
              clear A140
              by_cases c15 : t118 = true
              · subst c15
                have H1 : (if a0_3 = 0 then (taximeterref11_Check.j1 kj1 true a0_0 a0_1 a0_2 a0_3 a0_4 a0_5) else (if a0_1 = 3 then (taximeterref11_Check.j1 kj1 (a0_4 == 0) a0_0 a0_1 a0_2 a0_3 a0_4 a0_5) else (taximeterref11_Check.j1 kj1 false a0_0 a0_1 a0_2 a0_3 a0_4 a0_5))) = some r := by rw [if_pos rfl] at H; exact H
                clear H
                have H := H1
                clear H1
                by_cases c16 : a0_3 = 0
                · rw [if_pos c16] at H
                  have c16b0 : (a0_3 == 0) = true := beq_iff_eq.mpr c16
                  have c16b1 : (a0_3 != 0) = false := bne_eq_false_iff_eq.mpr c16
                  clear c16
                  have H' := Aside0.mk H
                  clear H
                  have hcz17_0 : wc.cell? ⟨gb116, 0, none⟩ = some (.int .u64 a0_0) := (blk_cell BK116.out 0).trans rfl
                  have hcz17_1 : wc.cell? ⟨gb116, 1, none⟩ = some (.int .i64 a0_1) := (blk_cell BK116.out 1).trans rfl
                  have hcz17_2 : wc.cell? ⟨gb116, 2, none⟩ = some (.string a0_2) := (blk_cell BK116.out 2).trans rfl
                  have hcz17_3 : wc.cell? ⟨gb116, 3, none⟩ = some (.int .u64 a0_3) := (blk_cell BK116.out 3).trans rfl
                  have hcz17_4 : wc.cell? ⟨gb116, 4, none⟩ = some (.int .u64 a0_4) := (blk_cell BK116.out 4).trans rfl
                  have hcz17_5 : wc.cell? ⟨gb116, 5, none⟩ = some (.int .u64 a0_5) := (blk_cell BK116.out 5).trans rfl
                  have hfz17_0 := blk_frozen BK116.out 0
                  have hfz17_1 := blk_frozen BK116.out 1
                  have hfz17_2 := blk_frozen BK116.out 2
                  have hfz17_3 := blk_frozen BK116.out 3
                  have hfz17_4 := blk_frozen BK116.out 4
                  have hfz17_5 := blk_frozen BK116.out 5
                  go_wp2_with (first | (go_at_call 47; (with_reducible refine (taximeterref11_Has.calls kj1 a0_1 108 true _ A14.out).mono ?_); rintro e w18 ⟨rfl, hb⟩; have n0_ := Aside0.mk (blk_below (g := gb116) (o := .cells #[.int .u64 a0_0, .int .i64 a0_1, .string a0_2, .int .u64 a0_3, .int .u64 a0_4, .int .u64 a0_5] 37 (0, 0)) (by (with_reducible repeat (first | refine blk_drewN ?_ _ | refine blk_drew ?_ | refine blk_alloc ?_ _)); exact BK116.out) hb); have n1_ := Aside0.mk (below_step (by repeat (first | (with_reducible first | exact HB.out | apply below_alloc | apply pw_below_drewN | apply below_drew1 | refine below_set ?_ GE116.out) | exact HB.out)) hb); clear BK116; clear HB; have BK116 := n0_; have HB := n1_; clear n0_ n1_; (try clear hb); (try clear hb2); (try clear hk); (try clear hi); have hcz19_0 : w18.cell? ⟨gb116, 0, none⟩ = some (.int .u64 a0_0) := (blk_cell BK116.out 0).trans rfl; have hcz19_1 : w18.cell? ⟨gb116, 1, none⟩ = some (.int .i64 a0_1) := (blk_cell BK116.out 1).trans rfl; have hcz19_2 : w18.cell? ⟨gb116, 2, none⟩ = some (.string a0_2) := (blk_cell BK116.out 2).trans rfl; have hcz19_3 : w18.cell? ⟨gb116, 3, none⟩ = some (.int .u64 a0_3) := (blk_cell BK116.out 3).trans rfl; have hcz19_4 : w18.cell? ⟨gb116, 4, none⟩ = some (.int .u64 a0_4) := (blk_cell BK116.out 4).trans rfl; have hcz19_5 : w18.cell? ⟨gb116, 5, none⟩ = some (.int .u64 a0_5) := (blk_cell BK116.out 5).trans rfl; have hfz19_0 := blk_frozen BK116.out 0; have hfz19_1 := blk_frozen BK116.out 1; have hfz19_2 := blk_frozen BK116.out 2; have hfz19_3 := blk_frozen BK116.out 3; have hfz19_4 := blk_frozen BK116.out 4; have hfz19_5 := blk_frozen BK116.out 5))
                  go_meet
                  case rel => exact ⟨_, (true), (by first | rfl | (simp; done) | (simp [*]; done)), H', ⟨by have := HJ1.out; first | omega | exact Nat.le_refl _⟩, ⟨by (with_reducible repeat (first | refine blk_drewN ?_ _ | refine blk_drew ?_ | refine blk_alloc ?_ _)); exact BK116.out⟩, ⟨by repeat (first | (with_reducible first | exact HB.out | apply below_alloc | apply pw_below_drewN | apply below_drew1 | refine below_set ?_ GE116.out) | exact HB.out)⟩⟩
                · rw [if_neg c16] at H
                  have c16b0 : (a0_3 == 0) = false := beq_eq_false_iff_ne.mpr c16
                  have c16b1 : (a0_3 != 0) = true := bne_iff_ne.mpr c16
                  by_cases c20 : a0_1 = 3
                  · rw [if_pos c20] at H
                    have c20b0 : (a0_1 == 3) = true := beq_iff_eq.mpr c20
                    have c20b1 : (a0_1 != 3) = false := bne_eq_false_iff_eq.mpr c20
                    clear c20
                    have H' := Aside0.mk H
                    clear H
                    have hcz21_0 : wc.cell? ⟨gb116, 0, none⟩ = some (.int .u64 a0_0) := (blk_cell BK116.out 0).trans rfl
                    have hcz21_1 : wc.cell? ⟨gb116, 1, none⟩ = some (.int .i64 a0_1) := (blk_cell BK116.out 1).trans rfl
                    have hcz21_2 : wc.cell? ⟨gb116, 2, none⟩ = some (.string a0_2) := (blk_cell BK116.out 2).trans rfl
                    have hcz21_3 : wc.cell? ⟨gb116, 3, none⟩ = some (.int .u64 a0_3) := (blk_cell BK116.out 3).trans rfl
                    have hcz21_4 : wc.cell? ⟨gb116, 4, none⟩ = some (.int .u64 a0_4) := (blk_cell BK116.out 4).trans rfl
                    have hcz21_5 : wc.cell? ⟨gb116, 5, none⟩ = some (.int .u64 a0_5) := (blk_cell BK116.out 5).trans rfl
                    have hfz21_0 := blk_frozen BK116.out 0
                    have hfz21_1 := blk_frozen BK116.out 1
                    have hfz21_2 := blk_frozen BK116.out 2
                    have hfz21_3 := blk_frozen BK116.out 3
                    have hfz21_4 := blk_frozen BK116.out 4
                    have hfz21_5 := blk_frozen BK116.out 5
                    go_wp2_with (first | (go_at_call 47; (with_reducible refine (taximeterref11_Has.calls kj1 a0_1 108 true _ A14.out).mono ?_); rintro e w22 ⟨rfl, hb⟩; have n0_ := Aside0.mk (blk_below (g := gb116) (o := .cells #[.int .u64 a0_0, .int .i64 a0_1, .string a0_2, .int .u64 a0_3, .int .u64 a0_4, .int .u64 a0_5] 37 (0, 0)) (by (with_reducible repeat (first | refine blk_drewN ?_ _ | refine blk_drew ?_ | refine blk_alloc ?_ _)); exact BK116.out) hb); have n1_ := Aside0.mk (below_step (by repeat (first | (with_reducible first | exact HB.out | apply below_alloc | apply pw_below_drewN | apply below_drew1 | refine below_set ?_ GE116.out) | exact HB.out)) hb); clear BK116; clear HB; have BK116 := n0_; have HB := n1_; clear n0_ n1_; (try clear hb); (try clear hb2); (try clear hk); (try clear hi); have hcz23_0 : w22.cell? ⟨gb116, 0, none⟩ = some (.int .u64 a0_0) := (blk_cell BK116.out 0).trans rfl; have hcz23_1 : w22.cell? ⟨gb116, 1, none⟩ = some (.int .i64 a0_1) := (blk_cell BK116.out 1).trans rfl; have hcz23_2 : w22.cell? ⟨gb116, 2, none⟩ = some (.string a0_2) := (blk_cell BK116.out 2).trans rfl; have hcz23_3 : w22.cell? ⟨gb116, 3, none⟩ = some (.int .u64 a0_3) := (blk_cell BK116.out 3).trans rfl; have hcz23_4 : w22.cell? ⟨gb116, 4, none⟩ = some (.int .u64 a0_4) := (blk_cell BK116.out 4).trans rfl; have hcz23_5 : w22.cell? ⟨gb116, 5, none⟩ = some (.int .u64 a0_5) := (blk_cell BK116.out 5).trans rfl; have hfz23_0 := blk_frozen BK116.out 0; have hfz23_1 := blk_frozen BK116.out 1; have hfz23_2 := blk_frozen BK116.out 2; have hfz23_3 := blk_frozen BK116.out 3; have hfz23_4 := blk_frozen BK116.out 4; have hfz23_5 := blk_frozen BK116.out 5))
                    go_meet
                    case rel => exact ⟨_, ((a0_4 == 0)), (by first | rfl | (simp; done) | (simp [*]; done)), H', ⟨by have := HJ1.out; first | omega | exact Nat.le_refl _⟩, ⟨by (with_reducible repeat (first | refine blk_drewN ?_ _ | refine blk_drew ?_ | refine blk_alloc ?_ _)); exact BK116.out⟩, ⟨by repeat (first | (with_reducible first | exact HB.out | apply below_alloc | apply pw_below_drewN | apply below_drew1 | refine below_set ?_ GE116.out) | exact HB.out)⟩⟩
                  · rw [if_neg c20] at H
                    have c20b0 : (a0_1 == 3) = false := beq_eq_false_iff_ne.mpr c20
                    have c20b1 : (a0_1 != 3) = true := bne_iff_ne.mpr c20
                    have H' := Aside0.mk H
                    clear H
                    have hcz24_0 : wc.cell? ⟨gb116, 0, none⟩ = some (.int .u64 a0_0) := (blk_cell BK116.out 0).trans rfl
                    have hcz24_1 : wc.cell? ⟨gb116, 1, none⟩ = some (.int .i64 a0_1) := (blk_cell BK116.out 1).trans rfl
                    have hcz24_2 : wc.cell? ⟨gb116, 2, none⟩ = some (.string a0_2) := (blk_cell BK116.out 2).trans rfl
                    have hcz24_3 : wc.cell? ⟨gb116, 3, none⟩ = some (.int .u64 a0_3) := (blk_cell BK116.out 3).trans rfl
                    have hcz24_4 : wc.cell? ⟨gb116, 4, none⟩ = some (.int .u64 a0_4) := (blk_cell BK116.out 4).trans rfl
                    have hcz24_5 : wc.cell? ⟨gb116, 5, none⟩ = some (.int .u64 a0_5) := (blk_cell BK116.out 5).trans rfl
                    have hfz24_0 := blk_frozen BK116.out 0
                    have hfz24_1 := blk_frozen BK116.out 1
                    have hfz24_2 := blk_frozen BK116.out 2
                    have hfz24_3 := blk_frozen BK116.out 3
                    have hfz24_4 := blk_frozen BK116.out 4
                    have hfz24_5 := blk_frozen BK116.out 5
                    go_wp2_with (first | (go_at_call 47; (with_reducible refine (taximeterref11_Has.calls kj1 a0_1 108 true _ A14.out).mono ?_); rintro e w25 ⟨rfl, hb⟩; have n0_ := Aside0.mk (blk_below (g := gb116) (o := .cells #[.int .u64 a0_0, .int .i64 a0_1, .string a0_2, .int .u64 a0_3, .int .u64 a0_4, .int .u64 a0_5] 37 (0, 0)) (by (with_reducible repeat (first | refine blk_drewN ?_ _ | refine blk_drew ?_ | refine blk_alloc ?_ _)); exact BK116.out) hb); have n1_ := Aside0.mk (below_step (by repeat (first | (with_reducible first | exact HB.out | apply below_alloc | apply pw_below_drewN | apply below_drew1 | refine below_set ?_ GE116.out) | exact HB.out)) hb); clear BK116; clear HB; have BK116 := n0_; have HB := n1_; clear n0_ n1_; (try clear hb); (try clear hb2); (try clear hk); (try clear hi); have hcz26_0 : w25.cell? ⟨gb116, 0, none⟩ = some (.int .u64 a0_0) := (blk_cell BK116.out 0).trans rfl; have hcz26_1 : w25.cell? ⟨gb116, 1, none⟩ = some (.int .i64 a0_1) := (blk_cell BK116.out 1).trans rfl; have hcz26_2 : w25.cell? ⟨gb116, 2, none⟩ = some (.string a0_2) := (blk_cell BK116.out 2).trans rfl; have hcz26_3 : w25.cell? ⟨gb116, 3, none⟩ = some (.int .u64 a0_3) := (blk_cell BK116.out 3).trans rfl; have hcz26_4 : w25.cell? ⟨gb116, 4, none⟩ = some (.int .u64 a0_4) := (blk_cell BK116.out 4).trans rfl; have hcz26_5 : w25.cell? ⟨gb116, 5, none⟩ = some (.int .u64 a0_5) := (blk_cell BK116.out 5).trans rfl; have hfz26_0 := blk_frozen BK116.out 0; have hfz26_1 := blk_frozen BK116.out 1; have hfz26_2 := blk_frozen BK116.out 2; have hfz26_3 := blk_frozen BK116.out 3; have hfz26_4 := blk_frozen BK116.out 4; have hfz26_5 := blk_frozen BK116.out 5))
                    go_meet
                    case rel => exact ⟨_, (false), (by first | rfl | (simp; done) | (simp [*]; done)), H', ⟨by have := HJ1.out; first | omega | exact Nat.le_refl _⟩, ⟨by (with_reducible repeat (first | refine blk_drewN ?_ _ | refine blk_drew ?_ | refine blk_alloc ?_ _)); exact BK116.out⟩, ⟨by repeat (first | (with_reducible first | exact HB.out | apply below_alloc | apply pw_below_drewN | apply below_drew1 | refine below_set ?_ GE116.out) | exact HB.out)⟩⟩
              · replace c15 := Bool.eq_false_iff.mpr c15
                subst c15
                have H1 : (if a0_1 = 3 then (taximeterref11_Check.j1 kj1 (a0_4 == 0) a0_0 a0_1 a0_2 a0_3 a0_4 a0_5) else (taximeterref11_Check.j1 kj1 false a0_0 a0_1 a0_2 a0_3 a0_4 a0_5)) = some r := by rw [if_neg (show ¬ (false = true) by decide)] at H; exact H
                clear H
                have H := H1
                clear H1
                by_cases c27 : a0_1 = 3
                · rw [if_pos c27] at H
                  have c27b0 : (a0_1 == 3) = true := beq_iff_eq.mpr c27
                  have c27b1 : (a0_1 != 3) = false := bne_eq_false_iff_eq.mpr c27
                  clear c27
                  have H' := Aside0.mk H
                  clear H
                  have hcz28_0 : wc.cell? ⟨gb116, 0, none⟩ = some (.int .u64 a0_0) := (blk_cell BK116.out 0).trans rfl
                  have hcz28_1 : wc.cell? ⟨gb116, 1, none⟩ = some (.int .i64 a0_1) := (blk_cell BK116.out 1).trans rfl
                  have hcz28_2 : wc.cell? ⟨gb116, 2, none⟩ = some (.string a0_2) := (blk_cell BK116.out 2).trans rfl
                  have hcz28_3 : wc.cell? ⟨gb116, 3, none⟩ = some (.int .u64 a0_3) := (blk_cell BK116.out 3).trans rfl
                  have hcz28_4 : wc.cell? ⟨gb116, 4, none⟩ = some (.int .u64 a0_4) := (blk_cell BK116.out 4).trans rfl
                  have hcz28_5 : wc.cell? ⟨gb116, 5, none⟩ = some (.int .u64 a0_5) := (blk_cell BK116.out 5).trans rfl
                  have hfz28_0 := blk_frozen BK116.out 0
                  have hfz28_1 := blk_frozen BK116.out 1
                  have hfz28_2 := blk_frozen BK116.out 2
                  have hfz28_3 := blk_frozen BK116.out 3
                  have hfz28_4 := blk_frozen BK116.out 4
                  have hfz28_5 := blk_frozen BK116.out 5
                  go_wp2_with (first | (go_at_call 47; (with_reducible refine (taximeterref11_Has.calls kj1 a0_1 108 false _ A14.out).mono ?_); rintro e w29 ⟨rfl, hb⟩; have n0_ := Aside0.mk (blk_below (g := gb116) (o := .cells #[.int .u64 a0_0, .int .i64 a0_1, .string a0_2, .int .u64 a0_3, .int .u64 a0_4, .int .u64 a0_5] 37 (0, 0)) (by (with_reducible repeat (first | refine blk_drewN ?_ _ | refine blk_drew ?_ | refine blk_alloc ?_ _)); exact BK116.out) hb); have n1_ := Aside0.mk (below_step (by repeat (first | (with_reducible first | exact HB.out | apply below_alloc | apply pw_below_drewN | apply below_drew1 | refine below_set ?_ GE116.out) | exact HB.out)) hb); clear BK116; clear HB; have BK116 := n0_; have HB := n1_; clear n0_ n1_; (try clear hb); (try clear hb2); (try clear hk); (try clear hi); have hcz30_0 : w29.cell? ⟨gb116, 0, none⟩ = some (.int .u64 a0_0) := (blk_cell BK116.out 0).trans rfl; have hcz30_1 : w29.cell? ⟨gb116, 1, none⟩ = some (.int .i64 a0_1) := (blk_cell BK116.out 1).trans rfl; have hcz30_2 : w29.cell? ⟨gb116, 2, none⟩ = some (.string a0_2) := (blk_cell BK116.out 2).trans rfl; have hcz30_3 : w29.cell? ⟨gb116, 3, none⟩ = some (.int .u64 a0_3) := (blk_cell BK116.out 3).trans rfl; have hcz30_4 : w29.cell? ⟨gb116, 4, none⟩ = some (.int .u64 a0_4) := (blk_cell BK116.out 4).trans rfl; have hcz30_5 : w29.cell? ⟨gb116, 5, none⟩ = some (.int .u64 a0_5) := (blk_cell BK116.out 5).trans rfl; have hfz30_0 := blk_frozen BK116.out 0; have hfz30_1 := blk_frozen BK116.out 1; have hfz30_2 := blk_frozen BK116.out 2; have hfz30_3 := blk_frozen BK116.out 3; have hfz30_4 := blk_frozen BK116.out 4; have hfz30_5 := blk_frozen BK116.out 5))
                  go_meet
                  case rel => exact ⟨_, ((a0_4 == 0)), (by first | rfl | (simp; done) | (simp [*]; done)), H', ⟨by have := HJ1.out; first | omega | exact Nat.le_refl _⟩, ⟨by (with_reducible repeat (first | refine blk_drewN ?_ _ | refine blk_drew ?_ | refine blk_alloc ?_ _)); exact BK116.out⟩, ⟨by repeat (first | (with_reducible first | exact HB.out | apply below_alloc | apply pw_below_drewN | apply below_drew1 | refine below_set ?_ GE116.out) | exact HB.out)⟩⟩
                · rw [if_neg c27] at H
                  have c27b0 : (a0_1 == 3) = false := beq_eq_false_iff_ne.mpr c27
                  have c27b1 : (a0_1 != 3) = true := bne_iff_ne.mpr c27
                  have H' := Aside0.mk H
                  clear H
                  have hcz31_0 : wc.cell? ⟨gb116, 0, none⟩ = some (.int .u64 a0_0) := (blk_cell BK116.out 0).trans rfl
                  have hcz31_1 : wc.cell? ⟨gb116, 1, none⟩ = some (.int .i64 a0_1) := (blk_cell BK116.out 1).trans rfl
                  have hcz31_2 : wc.cell? ⟨gb116, 2, none⟩ = some (.string a0_2) := (blk_cell BK116.out 2).trans rfl
                  have hcz31_3 : wc.cell? ⟨gb116, 3, none⟩ = some (.int .u64 a0_3) := (blk_cell BK116.out 3).trans rfl
                  have hcz31_4 : wc.cell? ⟨gb116, 4, none⟩ = some (.int .u64 a0_4) := (blk_cell BK116.out 4).trans rfl
                  have hcz31_5 : wc.cell? ⟨gb116, 5, none⟩ = some (.int .u64 a0_5) := (blk_cell BK116.out 5).trans rfl
                  have hfz31_0 := blk_frozen BK116.out 0
                  have hfz31_1 := blk_frozen BK116.out 1
                  have hfz31_2 := blk_frozen BK116.out 2
                  have hfz31_3 := blk_frozen BK116.out 3
                  have hfz31_4 := blk_frozen BK116.out 4
                  have hfz31_5 := blk_frozen BK116.out 5
                  go_wp2_with (first | (go_at_call 47; (with_reducible refine (taximeterref11_Has.calls kj1 a0_1 108 false _ A14.out).mono ?_); rintro e w32 ⟨rfl, hb⟩; have n0_ := Aside0.mk (blk_below (g := gb116) (o := .cells #[.int .u64 a0_0, .int .i64 a0_1, .string a0_2, .int .u64 a0_3, .int .u64 a0_4, .int .u64 a0_5] 37 (0, 0)) (by (with_reducible repeat (first | refine blk_drewN ?_ _ | refine blk_drew ?_ | refine blk_alloc ?_ _)); exact BK116.out) hb); have n1_ := Aside0.mk (below_step (by repeat (first | (with_reducible first | exact HB.out | apply below_alloc | apply pw_below_drewN | apply below_drew1 | refine below_set ?_ GE116.out) | exact HB.out)) hb); clear BK116; clear HB; have BK116 := n0_; have HB := n1_; clear n0_ n1_; (try clear hb); (try clear hb2); (try clear hk); (try clear hi); have hcz33_0 : w32.cell? ⟨gb116, 0, none⟩ = some (.int .u64 a0_0) := (blk_cell BK116.out 0).trans rfl; have hcz33_1 : w32.cell? ⟨gb116, 1, none⟩ = some (.int .i64 a0_1) := (blk_cell BK116.out 1).trans rfl; have hcz33_2 : w32.cell? ⟨gb116, 2, none⟩ = some (.string a0_2) := (blk_cell BK116.out 2).trans rfl; have hcz33_3 : w32.cell? ⟨gb116, 3, none⟩ = some (.int .u64 a0_3) := (blk_cell BK116.out 3).trans rfl; have hcz33_4 : w32.cell? ⟨gb116, 4, none⟩ = some (.int .u64 a0_4) := (blk_cell BK116.out 4).trans rfl; have hcz33_5 : w32.cell? ⟨gb116, 5, none⟩ = some (.int .u64 a0_5) := (blk_cell BK116.out 5).trans rfl; have hfz33_0 := blk_frozen BK116.out 0; have hfz33_1 := blk_frozen BK116.out 1; have hfz33_2 := blk_frozen BK116.out 2; have hfz33_3 := blk_frozen BK116.out 3; have hfz33_4 := blk_frozen BK116.out 4; have hfz33_5 := blk_frozen BK116.out 5))
                  go_meet
                  case rel => exact ⟨_, (false), (by first | rfl | (simp; done) | (simp [*]; done)), H', ⟨by have := HJ1.out; first | omega | exact Nat.le_refl _⟩, ⟨by (with_reducible repeat (first | refine blk_drewN ?_ _ | refine blk_drew ?_ | refine blk_alloc ?_ _)); exact BK116.out⟩, ⟨by repeat (first | (with_reducible first | exact HB.out | apply below_alloc | apply pw_below_drewN | apply below_drew1 | refine below_set ?_ GE116.out) | exact HB.out)⟩⟩
          case rest =>
            clear HC10
            try clear c1
            try clear c2
            try clear p2
            try clear c4
            try clear c4b0
            try clear c7
            try clear c9
            try clear c12
            try clear c12b0
            try clear c12b1
            try clear c15
            try clear c16
            try clear c16b0
            try clear c16b1
            try clear c20
            try clear c20b0
            try clear c20b1
            try clear c27
            try clear c27b0
            try clear c27b1
            try clear hcz11_0
            try clear hcz11_1
            try clear hcz11_2
            try clear hcz11_3
            try clear hcz11_4
            try clear hcz11_5
            try clear hcz13_0
            try clear hcz13_1
            try clear hcz13_2
            try clear hcz13_3
            try clear hcz13_4
            try clear hcz13_5
            try clear hcz17_0
            try clear hcz17_1
            try clear hcz17_2
            try clear hcz17_3
            try clear hcz17_4
            try clear hcz17_5
            try clear hcz19_0
            try clear hcz19_1
            try clear hcz19_2
            try clear hcz19_3
            try clear hcz19_4
            try clear hcz19_5
            try clear hcz21_0
            try clear hcz21_1
            try clear hcz21_2
            try clear hcz21_3
            try clear hcz21_4
            try clear hcz21_5
            try clear hcz23_0
            try clear hcz23_1
            try clear hcz23_2
            try clear hcz23_3
            try clear hcz23_4
            try clear hcz23_5
            try clear hcz24_0
            try clear hcz24_1
            try clear hcz24_2
            try clear hcz24_3
            try clear hcz24_4
            try clear hcz24_5
            try clear hcz26_0
            try clear hcz26_1
            try clear hcz26_2
            try clear hcz26_3
            try clear hcz26_4
            try clear hcz26_5
            try clear hcz28_0
            try clear hcz28_1
            try clear hcz28_2
            try clear hcz28_3
            try clear hcz28_4
            try clear hcz28_5
            try clear hcz30_0
            try clear hcz30_1
            try clear hcz30_2
            try clear hcz30_3
            try clear hcz30_4
            try clear hcz30_5
            try clear hcz31_0
            try clear hcz31_1
            try clear hcz31_2
            try clear hcz31_3
            try clear hcz31_4
            try clear hcz31_5
            try clear hcz33_0
            try clear hcz33_1
            try clear hcz33_2
            try clear hcz33_3
            try clear hcz33_4
            try clear hcz33_5
            try clear hcz5_0
            try clear hcz5_1
            try clear hcz5_2
            try clear hcz5_3
            try clear hcz5_4
            try clear hcz5_5
            try clear hcz6_0
            try clear hcz6_1
            try clear hcz6_2
            try clear hcz6_3
            try clear hcz6_4
            try clear hcz6_5
            try clear hfz11_0
            try clear hfz11_1
            try clear hfz11_2
            try clear hfz11_3
            try clear hfz11_4
            try clear hfz11_5
            try clear hfz13_0
            try clear hfz13_1
            try clear hfz13_2
            try clear hfz13_3
            try clear hfz13_4
            try clear hfz13_5
            try clear hfz17_0
            try clear hfz17_1
            try clear hfz17_2
            try clear hfz17_3
            try clear hfz17_4
            try clear hfz17_5
            try clear hfz19_0
            try clear hfz19_1
            try clear hfz19_2
            try clear hfz19_3
            try clear hfz19_4
            try clear hfz19_5
            try clear hfz21_0
            try clear hfz21_1
            try clear hfz21_2
            try clear hfz21_3
            try clear hfz21_4
            try clear hfz21_5
            try clear hfz23_0
            try clear hfz23_1
            try clear hfz23_2
            try clear hfz23_3
            try clear hfz23_4
            try clear hfz23_5
            try clear hfz24_0
            try clear hfz24_1
            try clear hfz24_2
            try clear hfz24_3
            try clear hfz24_4
            try clear hfz24_5
            try clear hfz26_0
            try clear hfz26_1
            try clear hfz26_2
            try clear hfz26_3
            try clear hfz26_4
            try clear hfz26_5
            try clear hfz28_0
            try clear hfz28_1
            try clear hfz28_2
            try clear hfz28_3
            try clear hfz28_4
            try clear hfz28_5
            try clear hfz30_0
            try clear hfz30_1
            try clear hfz30_2
            try clear hfz30_3
            try clear hfz30_4
            try clear hfz30_5
            try clear hfz31_0
            try clear hfz31_1
            try clear hfz31_2
            try clear hfz31_3
            try clear hfz31_4
            try clear hfz31_5
            try clear hfz33_0
            try clear hfz33_1
            try clear hfz33_2
            try clear hfz33_3
            try clear hfz33_4
            try clear hfz33_5
            try clear hfz5_0
            try clear hfz5_1
            try clear hfz5_2
            try clear hfz5_3
            try clear hfz5_4
            try clear hfz5_5
            try clear hfz6_0
            try clear hfz6_1
            try clear hfz6_2
            try clear hfz6_3
            try clear hfz6_4
            try clear hfz6_5
            try clear p2
            obtain ⟨kq, x38_9, rfl, HA, HJ9, BK116, HB⟩ := hcut
            cases kq with
            | zero => exact absurd HA.out (by simp [taximeterref11_Check.j1])
            | succ kj9 =>
              have H := HA.out
              clear HA
              simp only [taximeterref11_Check.j1] at H
              by_cases c34 : x38_9 = true
              · subst c34
                have H1 : (some 6) = some r := by rw [if_pos rfl] at H; exact H
                clear H
                have H := H1
                clear H1
                obtain rfl := Option.some.inj H
                go_wp2
                go_ret
                exact ⟨by first | rfl | (simp [errW_none, errW_some] <;> rfl) | (simp [*, errW_none, errW_some] <;> rfl), by repeat (first | (with_reducible first | exact HB.out | apply below_alloc | apply pw_below_drewN | apply below_drew1 | refine below_set ?_ GE116.out) | exact HB.out)⟩
              · replace c34 := Bool.eq_false_iff.mpr c34
                subst c34
                have H1 : ((taximeterref05_Class.f kj9 a0_5).bind fun t119 => ((taximeterref11_Has.f kj9 a0_1 98).bind fun t120 => (if t120 = true then (if t119 = 4 then (taximeterref11_Check.j2 kj9 false a0_0 a0_1 a0_2 a0_3 a0_4 a0_5) else (taximeterref11_Check.j2 kj9 (t119 != 5) a0_0 a0_1 a0_2 a0_3 a0_4 a0_5)) else (taximeterref11_Check.j2 kj9 false a0_0 a0_1 a0_2 a0_3 a0_4 a0_5)))) = some r := by rw [if_neg (show ¬ (false = true) by decide)] at H; exact H
                clear H
                have H := H1
                clear H1
                replace H := Option.bind_eq_some_iff.mp H
                obtain ⟨t119, A350, H⟩ := H
                replace H : ((taximeterref11_Has.f kj9 a0_1 98).bind fun t120 => (if t120 = true then (if t119 = 4 then (taximeterref11_Check.j2 kj9 false a0_0 a0_1 a0_2 a0_3 a0_4 a0_5) else (taximeterref11_Check.j2 kj9 (t119 != 5) a0_0 a0_1 a0_2 a0_3 a0_4 a0_5)) else (taximeterref11_Check.j2 kj9 false a0_0 a0_1 a0_2 a0_3 a0_4 a0_5))) = some r := H
                have A35 := Aside0.mk A350
                clear A350
                have HC36 := Aside0.mk H
                clear H
                have hcz37_0 : wc.cell? ⟨gb116, 0, none⟩ = some (.int .u64 a0_0) := (blk_cell BK116.out 0).trans rfl
                have hcz37_1 : wc.cell? ⟨gb116, 1, none⟩ = some (.int .i64 a0_1) := (blk_cell BK116.out 1).trans rfl
                have hcz37_2 : wc.cell? ⟨gb116, 2, none⟩ = some (.string a0_2) := (blk_cell BK116.out 2).trans rfl
                have hcz37_3 : wc.cell? ⟨gb116, 3, none⟩ = some (.int .u64 a0_3) := (blk_cell BK116.out 3).trans rfl
                have hcz37_4 : wc.cell? ⟨gb116, 4, none⟩ = some (.int .u64 a0_4) := (blk_cell BK116.out 4).trans rfl
                have hcz37_5 : wc.cell? ⟨gb116, 5, none⟩ = some (.int .u64 a0_5) := (blk_cell BK116.out 5).trans rfl
                have hfz37_0 := blk_frozen BK116.out 0
                have hfz37_1 := blk_frozen BK116.out 1
                have hfz37_2 := blk_frozen BK116.out 2
                have hfz37_3 := blk_frozen BK116.out 3
                have hfz37_4 := blk_frozen BK116.out 4
                have hfz37_5 := blk_frozen BK116.out 5
                go_upto_region 8 with (first | ((with_reducible refine gate_callee (f := 48) rfl ?_); refine goesL_ (some 41) rfl rfl Try.func48 (by kernel_rfl) rfl #[.int .u64 a0_5] rfl (by (try simp only [List.map_toArray, List.map_cons, List.map_nil]); first | done | rfl | (simp only [List.length_drop, List.length_take]; rfl)) ?_; (with_reducible refine (taximeterref05_Class.calls kj9 a0_5 t119 _ A35.out).mono ?_); rintro e w' ⟨rfl, ⟨nd, rfl⟩⟩; refine ⟨_, rfl, ?_⟩))
                (try simp only [Act.put, List.setIfInBounds_toArray, List.set_cons_zero, List.set_cons_succ])
                go_cut [52] (fun v52 wc => ∃ (kq : Nat) (x52_35 : Bool), v52 = .bool x52_35 ∧ Aside0 (taximeterref11_Check.j2 kq x52_35 a0_0 a0_1 a0_2 a0_3 a0_4 a0_5 = some r) ∧ Aside0 (kq ≤ kj9) ∧ Aside0 (wc.heap[gb116]? = some (.cells #[.int .u64 a0_0, .int .i64 a0_1, .string a0_2, .int .u64 a0_3, .int .u64 a0_4, .int .u64 a0_5] 37 (0, 0))) ∧ Aside0 (Below w.heap.size w wc))
                case first =>
                  have H := HC36.out
                  clear HC36
                  replace H := Option.bind_eq_some_iff.mp H
                  obtain ⟨t120, A380, H⟩ := H
                  replace H : (if t120 = true then (if t119 = 4 then (taximeterref11_Check.j2 kj9 false a0_0 a0_1 a0_2 a0_3 a0_4 a0_5) else (taximeterref11_Check.j2 kj9 (t119 != 5) a0_0 a0_1 a0_2 a0_3 a0_4 a0_5)) else (taximeterref11_Check.j2 kj9 false a0_0 a0_1 a0_2 a0_3 a0_4 a0_5)) = some r := H
                  have A38 := Aside0.mk A380
                  clear A380
                  by_cases c39 : t120 = true
                  · subst c39
                    have H1 : (if t119 = 4 then (taximeterref11_Check.j2 kj9 false a0_0 a0_1 a0_2 a0_3 a0_4 a0_5) else (taximeterref11_Check.j2 kj9 (t119 != 5) a0_0 a0_1 a0_2 a0_3 a0_4 a0_5)) = some r := by rw [if_pos rfl] at H; exact H
                    clear H
                    have H := H1
                    clear H1
                    by_cases c40 : t119 = 4
                    · rw [if_pos c40] at H
                      have c40b0 : (t119 == 4) = true := beq_iff_eq.mpr c40
                      have c40b1 : (t119 != 4) = false := bne_eq_false_iff_eq.mpr c40
                      clear c40
                      (first | rw [c40b0] | (simp only [i64_w, i32_w]; rw [c40b0]) | skip)
                      have H' := Aside0.mk H
                      clear H
                      have hcz41_0 : wc.cell? ⟨gb116, 0, none⟩ = some (.int .u64 a0_0) := (blk_cell BK116.out 0).trans rfl
                      have hcz41_1 : wc.cell? ⟨gb116, 1, none⟩ = some (.int .i64 a0_1) := (blk_cell BK116.out 1).trans rfl
                      have hcz41_2 : wc.cell? ⟨gb116, 2, none⟩ = some (.string a0_2) := (blk_cell BK116.out 2).trans rfl
                      have hcz41_3 : wc.cell? ⟨gb116, 3, none⟩ = some (.int .u64 a0_3) := (blk_cell BK116.out 3).trans rfl
                      have hcz41_4 : wc.cell? ⟨gb116, 4, none⟩ = some (.int .u64 a0_4) := (blk_cell BK116.out 4).trans rfl
                      have hcz41_5 : wc.cell? ⟨gb116, 5, none⟩ = some (.int .u64 a0_5) := (blk_cell BK116.out 5).trans rfl
                      have hfz41_0 := blk_frozen BK116.out 0
                      have hfz41_1 := blk_frozen BK116.out 1
                      have hfz41_2 := blk_frozen BK116.out 2
                      have hfz41_3 := blk_frozen BK116.out 3
                      have hfz41_4 := blk_frozen BK116.out 4
                      have hfz41_5 := blk_frozen BK116.out 5
                      go_wp2_with (first | ((with_reducible refine gate_callee (f := 47) rfl ?_); refine goesL_ (some 44) rfl rfl Try.func47 (by kernel_rfl) rfl #[.int .i64 a0_1, .int .u8 98] rfl (by (try simp only [List.map_toArray, List.map_cons, List.map_nil]); first | done | rfl | (simp only [List.length_drop, List.length_take]; rfl)) ?_; (with_reducible refine (taximeterref11_Has.calls kj9 a0_1 98 true _ A38.out).mono ?_); rintro e w42 ⟨rfl, hb⟩; refine ⟨_, rfl, ?_⟩; have n0_ := Aside0.mk (blk_below (g := gb116) (o := .cells #[.int .u64 a0_0, .int .i64 a0_1, .string a0_2, .int .u64 a0_3, .int .u64 a0_4, .int .u64 a0_5] 37 (0, 0)) (by (with_reducible repeat (first | refine blk_drewN ?_ _ | refine blk_drew ?_ | refine blk_alloc ?_ _)); exact BK116.out) hb); have n1_ := Aside0.mk (below_step (by repeat (first | (with_reducible first | exact HB.out | apply below_alloc | apply pw_below_drewN | apply below_drew1 | refine below_set ?_ GE116.out) | exact HB.out)) hb); clear BK116; clear HB; have BK116 := n0_; have HB := n1_; clear n0_ n1_; (try clear hb); (try clear hb2); (try clear hk); (try clear hi)))
                      go_meet
                      case rel => exact ⟨_, (false), (by first | rfl | (simp; done) | (simp [*]; done)), H', ⟨by have := HJ1.out; have := HJ9.out; first | omega | exact Nat.le_refl _⟩, ⟨by (with_reducible repeat (first | refine blk_drewN ?_ _ | refine blk_drew ?_ | refine blk_alloc ?_ _)); exact BK116.out⟩, ⟨by repeat (first | (with_reducible first | exact HB.out | apply below_alloc | apply pw_below_drewN | apply below_drew1 | refine below_set ?_ GE116.out) | exact HB.out)⟩⟩
                    · rw [if_neg c40] at H
                      have c40b0 : (t119 == 4) = false := beq_eq_false_iff_ne.mpr c40
                      have c40b1 : (t119 != 4) = true := bne_iff_ne.mpr c40
                      (first | rw [c40b0] | (simp only [i64_w, i32_w]; rw [c40b0]) | skip)
                      have H' := Aside0.mk H
                      clear H
                      have hcz43_0 : wc.cell? ⟨gb116, 0, none⟩ = some (.int .u64 a0_0) := (blk_cell BK116.out 0).trans rfl
                      have hcz43_1 : wc.cell? ⟨gb116, 1, none⟩ = some (.int .i64 a0_1) := (blk_cell BK116.out 1).trans rfl
                      have hcz43_2 : wc.cell? ⟨gb116, 2, none⟩ = some (.string a0_2) := (blk_cell BK116.out 2).trans rfl
                      have hcz43_3 : wc.cell? ⟨gb116, 3, none⟩ = some (.int .u64 a0_3) := (blk_cell BK116.out 3).trans rfl
                      have hcz43_4 : wc.cell? ⟨gb116, 4, none⟩ = some (.int .u64 a0_4) := (blk_cell BK116.out 4).trans rfl
                      have hcz43_5 : wc.cell? ⟨gb116, 5, none⟩ = some (.int .u64 a0_5) := (blk_cell BK116.out 5).trans rfl
                      have hfz43_0 := blk_frozen BK116.out 0
                      have hfz43_1 := blk_frozen BK116.out 1
                      have hfz43_2 := blk_frozen BK116.out 2
                      have hfz43_3 := blk_frozen BK116.out 3
                      have hfz43_4 := blk_frozen BK116.out 4
                      have hfz43_5 := blk_frozen BK116.out 5
                      go_wp2_with (first | ((with_reducible refine gate_callee (f := 47) rfl ?_); refine goesL_ (some 44) rfl rfl Try.func47 (by kernel_rfl) rfl #[.int .i64 a0_1, .int .u8 98] rfl (by (try simp only [List.map_toArray, List.map_cons, List.map_nil]); first | done | rfl | (simp only [List.length_drop, List.length_take]; rfl)) ?_; (with_reducible refine (taximeterref11_Has.calls kj9 a0_1 98 true _ A38.out).mono ?_); rintro e w44 ⟨rfl, hb⟩; refine ⟨_, rfl, ?_⟩; have n0_ := Aside0.mk (blk_below (g := gb116) (o := .cells #[.int .u64 a0_0, .int .i64 a0_1, .string a0_2, .int .u64 a0_3, .int .u64 a0_4, .int .u64 a0_5] 37 (0, 0)) (by (with_reducible repeat (first | refine blk_drewN ?_ _ | refine blk_drew ?_ | refine blk_alloc ?_ _)); exact BK116.out) hb); have n1_ := Aside0.mk (below_step (by repeat (first | (with_reducible first | exact HB.out | apply below_alloc | apply pw_below_drewN | apply below_drew1 | refine below_set ?_ GE116.out) | exact HB.out)) hb); clear BK116; clear HB; have BK116 := n0_; have HB := n1_; clear n0_ n1_; (try clear hb); (try clear hb2); (try clear hk); (try clear hi)))
                      go_meet
                      case rel => exact ⟨_, ((t119 != 5)), (by first | rfl | (simp; done) | (simp [*]; done)), H', ⟨by have := HJ1.out; have := HJ9.out; first | omega | exact Nat.le_refl _⟩, ⟨by (with_reducible repeat (first | refine blk_drewN ?_ _ | refine blk_drew ?_ | refine blk_alloc ?_ _)); exact BK116.out⟩, ⟨by repeat (first | (with_reducible first | exact HB.out | apply below_alloc | apply pw_below_drewN | apply below_drew1 | refine below_set ?_ GE116.out) | exact HB.out)⟩⟩
                  · replace c39 := Bool.eq_false_iff.mpr c39
                    subst c39
                    have H1 : (taximeterref11_Check.j2 kj9 false a0_0 a0_1 a0_2 a0_3 a0_4 a0_5) = some r := by rw [if_neg (show ¬ (false = true) by decide)] at H; exact H
                    clear H
                    have H := H1
                    clear H1
                    have H' := Aside0.mk H
                    clear H
                    have hcz45_0 : wc.cell? ⟨gb116, 0, none⟩ = some (.int .u64 a0_0) := (blk_cell BK116.out 0).trans rfl
                    have hcz45_1 : wc.cell? ⟨gb116, 1, none⟩ = some (.int .i64 a0_1) := (blk_cell BK116.out 1).trans rfl
                    have hcz45_2 : wc.cell? ⟨gb116, 2, none⟩ = some (.string a0_2) := (blk_cell BK116.out 2).trans rfl
                    have hcz45_3 : wc.cell? ⟨gb116, 3, none⟩ = some (.int .u64 a0_3) := (blk_cell BK116.out 3).trans rfl
                    have hcz45_4 : wc.cell? ⟨gb116, 4, none⟩ = some (.int .u64 a0_4) := (blk_cell BK116.out 4).trans rfl
                    have hcz45_5 : wc.cell? ⟨gb116, 5, none⟩ = some (.int .u64 a0_5) := (blk_cell BK116.out 5).trans rfl
                    have hfz45_0 := blk_frozen BK116.out 0
                    have hfz45_1 := blk_frozen BK116.out 1
                    have hfz45_2 := blk_frozen BK116.out 2
                    have hfz45_3 := blk_frozen BK116.out 3
                    have hfz45_4 := blk_frozen BK116.out 4
                    have hfz45_5 := blk_frozen BK116.out 5
                    go_wp2_with (first | ((with_reducible refine gate_callee (f := 47) rfl ?_); refine goesL_ (some 44) rfl rfl Try.func47 (by kernel_rfl) rfl #[.int .i64 a0_1, .int .u8 98] rfl (by (try simp only [List.map_toArray, List.map_cons, List.map_nil]); first | done | rfl | (simp only [List.length_drop, List.length_take]; rfl)) ?_; (with_reducible refine (taximeterref11_Has.calls kj9 a0_1 98 false _ A38.out).mono ?_); rintro e w46 ⟨rfl, hb⟩; refine ⟨_, rfl, ?_⟩; have n0_ := Aside0.mk (blk_below (g := gb116) (o := .cells #[.int .u64 a0_0, .int .i64 a0_1, .string a0_2, .int .u64 a0_3, .int .u64 a0_4, .int .u64 a0_5] 37 (0, 0)) (by (with_reducible repeat (first | refine blk_drewN ?_ _ | refine blk_drew ?_ | refine blk_alloc ?_ _)); exact BK116.out) hb); have n1_ := Aside0.mk (below_step (by repeat (first | (with_reducible first | exact HB.out | apply below_alloc | apply pw_below_drewN | apply below_drew1 | refine below_set ?_ GE116.out) | exact HB.out)) hb); clear BK116; clear HB; have BK116 := n0_; have HB := n1_; clear n0_ n1_; (try clear hb); (try clear hb2); (try clear hk); (try clear hi)))
                    go_meet
                    case rel => exact ⟨_, (false), (by first | rfl | (simp; done) | (simp [*]; done)), H', ⟨by have := HJ1.out; have := HJ9.out; first | omega | exact Nat.le_refl _⟩, ⟨by (with_reducible repeat (first | refine blk_drewN ?_ _ | refine blk_drew ?_ | refine blk_alloc ?_ _)); exact BK116.out⟩, ⟨by repeat (first | (with_reducible first | exact HB.out | apply below_alloc | apply pw_below_drewN | apply below_drew1 | refine below_set ?_ GE116.out) | exact HB.out)⟩⟩
                case rest =>
                  clear HC36
                  try clear c1
                  try clear c2
                  try clear p2
                  try clear c3
                  try clear c4
                  try clear c4b0
                  try clear c7
                  try clear c9
                  try clear c12
                  try clear c12b0
                  try clear c12b1
                  try clear c15
                  try clear c16
                  try clear c16b0
                  try clear c16b1
                  try clear c20
                  try clear c20b0
                  try clear c20b1
                  try clear c27
                  try clear c27b0
                  try clear c27b1
                  try clear c34
                  try clear c39
                  try clear c40
                  try clear c40b0
                  try clear c40b1
                  try clear c46
                  try clear hcz11_0
                  try clear hcz11_1
                  try clear hcz11_2
                  try clear hcz11_3
                  try clear hcz11_4
                  try clear hcz11_5
                  try clear hcz13_0
                  try clear hcz13_1
                  try clear hcz13_2
                  try clear hcz13_3
                  try clear hcz13_4
                  try clear hcz13_5
                  try clear hcz17_0
                  try clear hcz17_1
                  try clear hcz17_2
                  try clear hcz17_3
                  try clear hcz17_4
                  try clear hcz17_5
                  try clear hcz19_0
                  try clear hcz19_1
                  try clear hcz19_2
                  try clear hcz19_3
                  try clear hcz19_4
                  try clear hcz19_5
                  try clear hcz21_0
                  try clear hcz21_1
                  try clear hcz21_2
                  try clear hcz21_3
                  try clear hcz21_4
                  try clear hcz21_5
                  try clear hcz23_0
                  try clear hcz23_1
                  try clear hcz23_2
                  try clear hcz23_3
                  try clear hcz23_4
                  try clear hcz23_5
                  try clear hcz24_0
                  try clear hcz24_1
                  try clear hcz24_2
                  try clear hcz24_3
                  try clear hcz24_4
                  try clear hcz24_5
                  try clear hcz26_0
                  try clear hcz26_1
                  try clear hcz26_2
                  try clear hcz26_3
                  try clear hcz26_4
                  try clear hcz26_5
                  try clear hcz28_0
                  try clear hcz28_1
                  try clear hcz28_2
                  try clear hcz28_3
                  try clear hcz28_4
                  try clear hcz28_5
                  try clear hcz30_0
                  try clear hcz30_1
                  try clear hcz30_2
                  try clear hcz30_3
                  try clear hcz30_4
                  try clear hcz30_5
                  try clear hcz31_0
                  try clear hcz31_1
                  try clear hcz31_2
                  try clear hcz31_3
                  try clear hcz31_4
                  try clear hcz31_5
                  try clear hcz33_0
                  try clear hcz33_1
                  try clear hcz33_2
                  try clear hcz33_3
                  try clear hcz33_4
                  try clear hcz33_5
                  try clear hcz37_0
                  try clear hcz37_1
                  try clear hcz37_2
                  try clear hcz37_3
                  try clear hcz37_4
                  try clear hcz37_5
                  try clear hcz41_0
                  try clear hcz41_1
                  try clear hcz41_2
                  try clear hcz41_3
                  try clear hcz41_4
                  try clear hcz41_5
                  try clear hcz43_0
                  try clear hcz43_1
                  try clear hcz43_2
                  try clear hcz43_3
                  try clear hcz43_4
                  try clear hcz43_5
                  try clear hcz45_0
                  try clear hcz45_1
                  try clear hcz45_2
                  try clear hcz45_3
                  try clear hcz45_4
                  try clear hcz45_5
                  try clear hcz5_0
                  try clear hcz5_1
                  try clear hcz5_2
                  try clear hcz5_3
                  try clear hcz5_4
                  try clear hcz5_5
                  try clear hcz6_0
                  try clear hcz6_1
                  try clear hcz6_2
                  try clear hcz6_3
                  try clear hcz6_4
                  try clear hcz6_5
                  try clear hfz11_0
                  try clear hfz11_1
                  try clear hfz11_2
                  try clear hfz11_3
                  try clear hfz11_4
                  try clear hfz11_5
                  try clear hfz13_0
                  try clear hfz13_1
                  try clear hfz13_2
                  try clear hfz13_3
                  try clear hfz13_4
                  try clear hfz13_5
                  try clear hfz17_0
                  try clear hfz17_1
                  try clear hfz17_2
                  try clear hfz17_3
                  try clear hfz17_4
                  try clear hfz17_5
                  try clear hfz19_0
                  try clear hfz19_1
                  try clear hfz19_2
                  try clear hfz19_3
                  try clear hfz19_4
                  try clear hfz19_5
                  try clear hfz21_0
                  try clear hfz21_1
                  try clear hfz21_2
                  try clear hfz21_3
                  try clear hfz21_4
                  try clear hfz21_5
                  try clear hfz23_0
                  try clear hfz23_1
                  try clear hfz23_2
                  try clear hfz23_3
                  try clear hfz23_4
                  try clear hfz23_5
                  try clear hfz24_0
                  try clear hfz24_1
                  try clear hfz24_2
                  try clear hfz24_3
                  try clear hfz24_4
                  try clear hfz24_5
                  try clear hfz26_0
                  try clear hfz26_1
                  try clear hfz26_2
                  try clear hfz26_3
                  try clear hfz26_4
                  try clear hfz26_5
                  try clear hfz28_0
                  try clear hfz28_1
                  try clear hfz28_2
                  try clear hfz28_3
                  try clear hfz28_4
                  try clear hfz28_5
                  try clear hfz30_0
                  try clear hfz30_1
                  try clear hfz30_2
                  try clear hfz30_3
                  try clear hfz30_4
                  try clear hfz30_5
                  try clear hfz31_0
                  try clear hfz31_1
                  try clear hfz31_2
                  try clear hfz31_3
                  try clear hfz31_4
                  try clear hfz31_5
                  try clear hfz33_0
                  try clear hfz33_1
                  try clear hfz33_2
                  try clear hfz33_3
                  try clear hfz33_4
                  try clear hfz33_5
                  try clear hfz37_0
                  try clear hfz37_1
                  try clear hfz37_2
                  try clear hfz37_3
                  try clear hfz37_4
                  try clear hfz37_5
                  try clear hfz41_0
                  try clear hfz41_1
                  try clear hfz41_2
                  try clear hfz41_3
                  try clear hfz41_4
                  try clear hfz41_5
                  try clear hfz43_0
                  try clear hfz43_1
                  try clear hfz43_2
                  try clear hfz43_3
                  try clear hfz43_4
                  try clear hfz43_5
                  try clear hfz45_0
                  try clear hfz45_1
                  try clear hfz45_2
                  try clear hfz45_3
                  try clear hfz45_4
                  try clear hfz45_5
                  try clear hfz5_0
                  try clear hfz5_1
                  try clear hfz5_2
                  try clear hfz5_3
                  try clear hfz5_4
                  try clear hfz5_5
                  try clear hfz6_0
                  try clear hfz6_1
                  try clear hfz6_2
                  try clear hfz6_3
                  try clear hfz6_4
                  try clear hfz6_5
                  try clear p2
                  obtain ⟨kq, x52_35, rfl, HA, HJ35, BK116, HB⟩ := hcut
                  cases kq with
                  | zero => exact absurd HA.out (by simp [taximeterref11_Check.j2])
                  | succ kj35 =>
                    have H := HA.out
                    clear HA
                    simp only [taximeterref11_Check.j2] at H
                    by_cases c47 : x52_35 = true
                    · subst c47
                      have H1 : (some 13) = some r := by rw [if_pos rfl] at H; exact H
                      clear H
                      have H := H1
                      clear H1
                      obtain rfl := Option.some.inj H
                      go_wp2
                      go_ret
                      exact ⟨by first | rfl | (simp [errW_none, errW_some] <;> rfl) | (simp [*, errW_none, errW_some] <;> rfl), by repeat (first | (with_reducible first | exact HB.out | apply below_alloc | apply pw_below_drewN | apply below_drew1 | refine below_set ?_ GE116.out) | exact HB.out)⟩
                    · replace c47 := Bool.eq_false_iff.mpr c47
                      subst c47
                      have H1 : ((taximeterref11_Has.f kj35 a0_1 108).bind fun t121 => (if t121 = true then ((taximeterref11_Has.f kj35 a0_1 110).bind fun t122 => (if t122 = true then ((taximeterref11_Has.f kj35 a0_1 98).bind fun t123 => (if t123 = true then (some 0) else (if a0_5 = 0 then (some 0) else (some 2)))) else (if a0_4 = 0 then ((taximeterref11_Has.f kj35 a0_1 98).bind fun t124 => (if t124 = true then (some 0) else (if a0_5 = 0 then (some 0) else (some 2)))) else (some 2)))) else (if a0_3 = 0 then ((taximeterref11_Has.f kj35 a0_1 110).bind fun t125 => (if t125 = true then ((taximeterref11_Has.f kj35 a0_1 98).bind fun t126 => (if t126 = true then (some 0) else (if a0_5 = 0 then (some 0) else (some 2)))) else (if a0_4 = 0 then ((taximeterref11_Has.f kj35 a0_1 98).bind fun t127 => (if t127 = true then (some 0) else (if a0_5 = 0 then (some 0) else (some 2)))) else (some 2)))) else (some 2)))) = some r := by rw [if_neg (show ¬ (false = true) by decide)] at H; exact H
                      clear H
                      have H := H1
                      clear H1
                      replace H := Option.bind_eq_some_iff.mp H
                      obtain ⟨t121, A480, H⟩ := H
                      replace H : (if t121 = true then ((taximeterref11_Has.f kj35 a0_1 110).bind fun t122 => (if t122 = true then ((taximeterref11_Has.f kj35 a0_1 98).bind fun t123 => (if t123 = true then (some 0) else (if a0_5 = 0 then (some 0) else (some 2)))) else (if a0_4 = 0 then ((taximeterref11_Has.f kj35 a0_1 98).bind fun t124 => (if t124 = true then (some 0) else (if a0_5 = 0 then (some 0) else (some 2)))) else (some 2)))) else (if a0_3 = 0 then ((taximeterref11_Has.f kj35 a0_1 110).bind fun t125 => (if t125 = true then ((taximeterref11_Has.f kj35 a0_1 98).bind fun t126 => (if t126 = true then (some 0) else (if a0_5 = 0 then (some 0) else (some 2)))) else (if a0_4 = 0 then ((taximeterref11_Has.f kj35 a0_1 98).bind fun t127 => (if t127 = true then (some 0) else (if a0_5 = 0 then (some 0) else (some 2)))) else (some 2)))) else (some 2))) = some r := H
                      have A48 := Aside0.mk A480
                      clear A480
                      by_cases c49 : t121 = true
                      · subst c49
                        have H1 : ((taximeterref11_Has.f kj35 a0_1 110).bind fun t122 => (if t122 = true then ((taximeterref11_Has.f kj35 a0_1 98).bind fun t123 => (if t123 = true then (some 0) else (if a0_5 = 0 then (some 0) else (some 2)))) else (if a0_4 = 0 then ((taximeterref11_Has.f kj35 a0_1 98).bind fun t124 => (if t124 = true then (some 0) else (if a0_5 = 0 then (some 0) else (some 2)))) else (some 2)))) = some r := by rw [if_pos rfl] at H; exact H
                        clear H
                        have H := H1
                        clear H1
                        replace H := Option.bind_eq_some_iff.mp H
                        obtain ⟨t122, A500, H⟩ := H
                        replace H : (if t122 = true then ((taximeterref11_Has.f kj35 a0_1 98).bind fun t123 => (if t123 = true then (some 0) else (if a0_5 = 0 then (some 0) else (some 2)))) else (if a0_4 = 0 then ((taximeterref11_Has.f kj35 a0_1 98).bind fun t124 => (if t124 = true then (some 0) else (if a0_5 = 0 then (some 0) else (some 2)))) else (some 2))) = some r := H
                        have A50 := Aside0.mk A500
                        clear A500
                        by_cases c51 : t122 = true
                        · subst c51
                          have H1 : ((taximeterref11_Has.f kj35 a0_1 98).bind fun t123 => (if t123 = true then (some 0) else (if a0_5 = 0 then (some 0) else (some 2)))) = some r := by rw [if_pos rfl] at H; exact H
                          clear H
                          have H := H1
                          clear H1
                          replace H := Option.bind_eq_some_iff.mp H
                          obtain ⟨t123, A520, H⟩ := H
                          replace H : (if t123 = true then (some 0) else (if a0_5 = 0 then (some 0) else (some 2))) = some r := H
                          have A52 := Aside0.mk A520
                          clear A520
                          by_cases c53 : t123 = true
                          · subst c53
                            have H1 : (some 0) = some r := by rw [if_pos rfl] at H; exact H
                            clear H
                            have H := H1
                            clear H1
                            obtain rfl := Option.some.inj H
                            have hcz54_0 : wc.cell? ⟨gb116, 0, none⟩ = some (.int .u64 a0_0) := (blk_cell BK116.out 0).trans rfl
                            have hcz54_1 : wc.cell? ⟨gb116, 1, none⟩ = some (.int .i64 a0_1) := (blk_cell BK116.out 1).trans rfl
                            have hcz54_2 : wc.cell? ⟨gb116, 2, none⟩ = some (.string a0_2) := (blk_cell BK116.out 2).trans rfl
                            have hcz54_3 : wc.cell? ⟨gb116, 3, none⟩ = some (.int .u64 a0_3) := (blk_cell BK116.out 3).trans rfl
                            have hcz54_4 : wc.cell? ⟨gb116, 4, none⟩ = some (.int .u64 a0_4) := (blk_cell BK116.out 4).trans rfl
                            have hcz54_5 : wc.cell? ⟨gb116, 5, none⟩ = some (.int .u64 a0_5) := (blk_cell BK116.out 5).trans rfl
                            have hfz54_0 := blk_frozen BK116.out 0
                            have hfz54_1 := blk_frozen BK116.out 1
                            have hfz54_2 := blk_frozen BK116.out 2
                            have hfz54_3 := blk_frozen BK116.out 3
                            have hfz54_4 := blk_frozen BK116.out 4
                            have hfz54_5 := blk_frozen BK116.out 5
                            go_wp2_with (first | ((with_reducible refine gate_callee (f := 47) rfl ?_); refine goesL_ (some 55) rfl rfl Try.func47 (by kernel_rfl) rfl #[.int .i64 a0_1, .int .u8 108] rfl (by (try simp only [List.map_toArray, List.map_cons, List.map_nil]); first | done | rfl | (simp only [List.length_drop, List.length_take]; rfl)) ?_; (with_reducible refine (taximeterref11_Has.calls kj35 a0_1 108 true _ A48.out).mono ?_); rintro e w55 ⟨rfl, hb⟩; refine ⟨_, rfl, ?_⟩; have n0_ := Aside0.mk (blk_below (g := gb116) (o := .cells #[.int .u64 a0_0, .int .i64 a0_1, .string a0_2, .int .u64 a0_3, .int .u64 a0_4, .int .u64 a0_5] 37 (0, 0)) (by (with_reducible repeat (first | refine blk_drewN ?_ _ | refine blk_drew ?_ | refine blk_alloc ?_ _)); exact BK116.out) hb); have n1_ := Aside0.mk (below_step (by repeat (first | (with_reducible first | exact HB.out | apply below_alloc | apply pw_below_drewN | apply below_drew1 | refine below_set ?_ GE116.out) | exact HB.out)) hb); clear BK116; clear HB; have BK116 := n0_; have HB := n1_; clear n0_ n1_; (try clear hb); (try clear hb2); (try clear hk); (try clear hi); have hcz56_0 : w55.cell? ⟨gb116, 0, none⟩ = some (.int .u64 a0_0) := (blk_cell BK116.out 0).trans rfl; have hcz56_1 : w55.cell? ⟨gb116, 1, none⟩ = some (.int .i64 a0_1) := (blk_cell BK116.out 1).trans rfl; have hcz56_2 : w55.cell? ⟨gb116, 2, none⟩ = some (.string a0_2) := (blk_cell BK116.out 2).trans rfl; have hcz56_3 : w55.cell? ⟨gb116, 3, none⟩ = some (.int .u64 a0_3) := (blk_cell BK116.out 3).trans rfl; have hcz56_4 : w55.cell? ⟨gb116, 4, none⟩ = some (.int .u64 a0_4) := (blk_cell BK116.out 4).trans rfl; have hcz56_5 : w55.cell? ⟨gb116, 5, none⟩ = some (.int .u64 a0_5) := (blk_cell BK116.out 5).trans rfl; have hfz56_0 := blk_frozen BK116.out 0; have hfz56_1 := blk_frozen BK116.out 1; have hfz56_2 := blk_frozen BK116.out 2; have hfz56_3 := blk_frozen BK116.out 3; have hfz56_4 := blk_frozen BK116.out 4; have hfz56_5 := blk_frozen BK116.out 5) | (go_at_call 47; (with_reducible refine (taximeterref11_Has.calls kj35 a0_1 110 true _ A50.out).mono ?_); rintro e w57 ⟨rfl, hb⟩; have n0_ := Aside0.mk (blk_below (g := gb116) (o := .cells #[.int .u64 a0_0, .int .i64 a0_1, .string a0_2, .int .u64 a0_3, .int .u64 a0_4, .int .u64 a0_5] 37 (0, 0)) (by (with_reducible repeat (first | refine blk_drewN ?_ _ | refine blk_drew ?_ | refine blk_alloc ?_ _)); exact BK116.out) hb); have n1_ := Aside0.mk (below_step (by repeat (first | (with_reducible first | exact HB.out | apply below_alloc | apply pw_below_drewN | apply below_drew1 | refine below_set ?_ GE116.out) | exact HB.out)) hb); clear BK116; clear HB; have BK116 := n0_; have HB := n1_; clear n0_ n1_; (try clear hb); (try clear hb2); (try clear hk); (try clear hi); have hcz58_0 : w57.cell? ⟨gb116, 0, none⟩ = some (.int .u64 a0_0) := (blk_cell BK116.out 0).trans rfl; have hcz58_1 : w57.cell? ⟨gb116, 1, none⟩ = some (.int .i64 a0_1) := (blk_cell BK116.out 1).trans rfl; have hcz58_2 : w57.cell? ⟨gb116, 2, none⟩ = some (.string a0_2) := (blk_cell BK116.out 2).trans rfl; have hcz58_3 : w57.cell? ⟨gb116, 3, none⟩ = some (.int .u64 a0_3) := (blk_cell BK116.out 3).trans rfl; have hcz58_4 : w57.cell? ⟨gb116, 4, none⟩ = some (.int .u64 a0_4) := (blk_cell BK116.out 4).trans rfl; have hcz58_5 : w57.cell? ⟨gb116, 5, none⟩ = some (.int .u64 a0_5) := (blk_cell BK116.out 5).trans rfl; have hfz58_0 := blk_frozen BK116.out 0; have hfz58_1 := blk_frozen BK116.out 1; have hfz58_2 := blk_frozen BK116.out 2; have hfz58_3 := blk_frozen BK116.out 3; have hfz58_4 := blk_frozen BK116.out 4; have hfz58_5 := blk_frozen BK116.out 5) | (go_at_call 47; (with_reducible refine (taximeterref11_Has.calls kj35 a0_1 98 true _ A52.out).mono ?_); rintro e w59 ⟨rfl, hb⟩; have n0_ := Aside0.mk (blk_below (g := gb116) (o := .cells #[.int .u64 a0_0, .int .i64 a0_1, .string a0_2, .int .u64 a0_3, .int .u64 a0_4, .int .u64 a0_5] 37 (0, 0)) (by (with_reducible repeat (first | refine blk_drewN ?_ _ | refine blk_drew ?_ | refine blk_alloc ?_ _)); exact BK116.out) hb); have n1_ := Aside0.mk (below_step (by repeat (first | (with_reducible first | exact HB.out | apply below_alloc | apply pw_below_drewN | apply below_drew1 | refine below_set ?_ GE116.out) | exact HB.out)) hb); clear BK116; clear HB; have BK116 := n0_; have HB := n1_; clear n0_ n1_; (try clear hb); (try clear hb2); (try clear hk); (try clear hi)))
                            go_ret
                            exact ⟨by first | rfl | (simp [errW_none, errW_some] <;> rfl) | (simp [*, errW_none, errW_some] <;> rfl), by repeat (first | (with_reducible first | exact HB.out | apply below_alloc | apply pw_below_drewN | apply below_drew1 | refine below_set ?_ GE116.out) | exact HB.out)⟩
                          · replace c53 := Bool.eq_false_iff.mpr c53
                            subst c53
                            have H1 : (if a0_5 = 0 then (some 0) else (some 2)) = some r := by rw [if_neg (show ¬ (false = true) by decide)] at H; exact H
                            clear H
                            have H := H1
                            clear H1
                            by_cases c60 : a0_5 = 0
                            · rw [if_pos c60] at H
                              have c60b0 : (a0_5 == 0) = true := beq_iff_eq.mpr c60
                              have c60b1 : (a0_5 != 0) = false := bne_eq_false_iff_eq.mpr c60
                              clear c60
                              obtain rfl := Option.some.inj H
                              have hcz61_0 : wc.cell? ⟨gb116, 0, none⟩ = some (.int .u64 a0_0) := (blk_cell BK116.out 0).trans rfl
                              have hcz61_1 : wc.cell? ⟨gb116, 1, none⟩ = some (.int .i64 a0_1) := (blk_cell BK116.out 1).trans rfl
                              have hcz61_2 : wc.cell? ⟨gb116, 2, none⟩ = some (.string a0_2) := (blk_cell BK116.out 2).trans rfl
                              have hcz61_3 : wc.cell? ⟨gb116, 3, none⟩ = some (.int .u64 a0_3) := (blk_cell BK116.out 3).trans rfl
                              have hcz61_4 : wc.cell? ⟨gb116, 4, none⟩ = some (.int .u64 a0_4) := (blk_cell BK116.out 4).trans rfl
                              have hcz61_5 : wc.cell? ⟨gb116, 5, none⟩ = some (.int .u64 a0_5) := (blk_cell BK116.out 5).trans rfl
                              have hfz61_0 := blk_frozen BK116.out 0
                              have hfz61_1 := blk_frozen BK116.out 1
                              have hfz61_2 := blk_frozen BK116.out 2
                              have hfz61_3 := blk_frozen BK116.out 3
                              have hfz61_4 := blk_frozen BK116.out 4
                              have hfz61_5 := blk_frozen BK116.out 5
                              go_wp2_with (first | ((with_reducible refine gate_callee (f := 47) rfl ?_); refine goesL_ (some 55) rfl rfl Try.func47 (by kernel_rfl) rfl #[.int .i64 a0_1, .int .u8 108] rfl (by (try simp only [List.map_toArray, List.map_cons, List.map_nil]); first | done | rfl | (simp only [List.length_drop, List.length_take]; rfl)) ?_; (with_reducible refine (taximeterref11_Has.calls kj35 a0_1 108 true _ A48.out).mono ?_); rintro e w62 ⟨rfl, hb⟩; refine ⟨_, rfl, ?_⟩; have n0_ := Aside0.mk (blk_below (g := gb116) (o := .cells #[.int .u64 a0_0, .int .i64 a0_1, .string a0_2, .int .u64 a0_3, .int .u64 a0_4, .int .u64 a0_5] 37 (0, 0)) (by (with_reducible repeat (first | refine blk_drewN ?_ _ | refine blk_drew ?_ | refine blk_alloc ?_ _)); exact BK116.out) hb); have n1_ := Aside0.mk (below_step (by repeat (first | (with_reducible first | exact HB.out | apply below_alloc | apply pw_below_drewN | apply below_drew1 | refine below_set ?_ GE116.out) | exact HB.out)) hb); clear BK116; clear HB; have BK116 := n0_; have HB := n1_; clear n0_ n1_; (try clear hb); (try clear hb2); (try clear hk); (try clear hi); have hcz63_0 : w62.cell? ⟨gb116, 0, none⟩ = some (.int .u64 a0_0) := (blk_cell BK116.out 0).trans rfl; have hcz63_1 : w62.cell? ⟨gb116, 1, none⟩ = some (.int .i64 a0_1) := (blk_cell BK116.out 1).trans rfl; have hcz63_2 : w62.cell? ⟨gb116, 2, none⟩ = some (.string a0_2) := (blk_cell BK116.out 2).trans rfl; have hcz63_3 : w62.cell? ⟨gb116, 3, none⟩ = some (.int .u64 a0_3) := (blk_cell BK116.out 3).trans rfl; have hcz63_4 : w62.cell? ⟨gb116, 4, none⟩ = some (.int .u64 a0_4) := (blk_cell BK116.out 4).trans rfl; have hcz63_5 : w62.cell? ⟨gb116, 5, none⟩ = some (.int .u64 a0_5) := (blk_cell BK116.out 5).trans rfl; have hfz63_0 := blk_frozen BK116.out 0; have hfz63_1 := blk_frozen BK116.out 1; have hfz63_2 := blk_frozen BK116.out 2; have hfz63_3 := blk_frozen BK116.out 3; have hfz63_4 := blk_frozen BK116.out 4; have hfz63_5 := blk_frozen BK116.out 5) | (go_at_call 47; (with_reducible refine (taximeterref11_Has.calls kj35 a0_1 110 true _ A50.out).mono ?_); rintro e w64 ⟨rfl, hb⟩; have n0_ := Aside0.mk (blk_below (g := gb116) (o := .cells #[.int .u64 a0_0, .int .i64 a0_1, .string a0_2, .int .u64 a0_3, .int .u64 a0_4, .int .u64 a0_5] 37 (0, 0)) (by (with_reducible repeat (first | refine blk_drewN ?_ _ | refine blk_drew ?_ | refine blk_alloc ?_ _)); exact BK116.out) hb); have n1_ := Aside0.mk (below_step (by repeat (first | (with_reducible first | exact HB.out | apply below_alloc | apply pw_below_drewN | apply below_drew1 | refine below_set ?_ GE116.out) | exact HB.out)) hb); clear BK116; clear HB; have BK116 := n0_; have HB := n1_; clear n0_ n1_; (try clear hb); (try clear hb2); (try clear hk); (try clear hi); have hcz65_0 : w64.cell? ⟨gb116, 0, none⟩ = some (.int .u64 a0_0) := (blk_cell BK116.out 0).trans rfl; have hcz65_1 : w64.cell? ⟨gb116, 1, none⟩ = some (.int .i64 a0_1) := (blk_cell BK116.out 1).trans rfl; have hcz65_2 : w64.cell? ⟨gb116, 2, none⟩ = some (.string a0_2) := (blk_cell BK116.out 2).trans rfl; have hcz65_3 : w64.cell? ⟨gb116, 3, none⟩ = some (.int .u64 a0_3) := (blk_cell BK116.out 3).trans rfl; have hcz65_4 : w64.cell? ⟨gb116, 4, none⟩ = some (.int .u64 a0_4) := (blk_cell BK116.out 4).trans rfl; have hcz65_5 : w64.cell? ⟨gb116, 5, none⟩ = some (.int .u64 a0_5) := (blk_cell BK116.out 5).trans rfl; have hfz65_0 := blk_frozen BK116.out 0; have hfz65_1 := blk_frozen BK116.out 1; have hfz65_2 := blk_frozen BK116.out 2; have hfz65_3 := blk_frozen BK116.out 3; have hfz65_4 := blk_frozen BK116.out 4; have hfz65_5 := blk_frozen BK116.out 5) | (go_at_call 47; (with_reducible refine (taximeterref11_Has.calls kj35 a0_1 98 false _ A52.out).mono ?_); rintro e w66 ⟨rfl, hb⟩; have n0_ := Aside0.mk (blk_below (g := gb116) (o := .cells #[.int .u64 a0_0, .int .i64 a0_1, .string a0_2, .int .u64 a0_3, .int .u64 a0_4, .int .u64 a0_5] 37 (0, 0)) (by (with_reducible repeat (first | refine blk_drewN ?_ _ | refine blk_drew ?_ | refine blk_alloc ?_ _)); exact BK116.out) hb); have n1_ := Aside0.mk (below_step (by repeat (first | (with_reducible first | exact HB.out | apply below_alloc | apply pw_below_drewN | apply below_drew1 | refine below_set ?_ GE116.out) | exact HB.out)) hb); clear BK116; clear HB; have BK116 := n0_; have HB := n1_; clear n0_ n1_; (try clear hb); (try clear hb2); (try clear hk); (try clear hi); have hcz67_0 : w66.cell? ⟨gb116, 0, none⟩ = some (.int .u64 a0_0) := (blk_cell BK116.out 0).trans rfl; have hcz67_1 : w66.cell? ⟨gb116, 1, none⟩ = some (.int .i64 a0_1) := (blk_cell BK116.out 1).trans rfl; have hcz67_2 : w66.cell? ⟨gb116, 2, none⟩ = some (.string a0_2) := (blk_cell BK116.out 2).trans rfl; have hcz67_3 : w66.cell? ⟨gb116, 3, none⟩ = some (.int .u64 a0_3) := (blk_cell BK116.out 3).trans rfl; have hcz67_4 : w66.cell? ⟨gb116, 4, none⟩ = some (.int .u64 a0_4) := (blk_cell BK116.out 4).trans rfl; have hcz67_5 : w66.cell? ⟨gb116, 5, none⟩ = some (.int .u64 a0_5) := (blk_cell BK116.out 5).trans rfl; have hfz67_0 := blk_frozen BK116.out 0; have hfz67_1 := blk_frozen BK116.out 1; have hfz67_2 := blk_frozen BK116.out 2; have hfz67_3 := blk_frozen BK116.out 3; have hfz67_4 := blk_frozen BK116.out 4; have hfz67_5 := blk_frozen BK116.out 5))
                              go_ret
                              exact ⟨by first | rfl | (simp [errW_none, errW_some] <;> rfl) | (simp [*, errW_none, errW_some] <;> rfl), by repeat (first | (with_reducible first | exact HB.out | apply below_alloc | apply pw_below_drewN | apply below_drew1 | refine below_set ?_ GE116.out) | exact HB.out)⟩
                            · rw [if_neg c60] at H
                              have c60b0 : (a0_5 == 0) = false := beq_eq_false_iff_ne.mpr c60
                              have c60b1 : (a0_5 != 0) = true := bne_iff_ne.mpr c60
                              obtain rfl := Option.some.inj H
                              have hcz68_0 : wc.cell? ⟨gb116, 0, none⟩ = some (.int .u64 a0_0) := (blk_cell BK116.out 0).trans rfl
                              have hcz68_1 : wc.cell? ⟨gb116, 1, none⟩ = some (.int .i64 a0_1) := (blk_cell BK116.out 1).trans rfl
                              have hcz68_2 : wc.cell? ⟨gb116, 2, none⟩ = some (.string a0_2) := (blk_cell BK116.out 2).trans rfl
                              have hcz68_3 : wc.cell? ⟨gb116, 3, none⟩ = some (.int .u64 a0_3) := (blk_cell BK116.out 3).trans rfl
                              have hcz68_4 : wc.cell? ⟨gb116, 4, none⟩ = some (.int .u64 a0_4) := (blk_cell BK116.out 4).trans rfl
                              have hcz68_5 : wc.cell? ⟨gb116, 5, none⟩ = some (.int .u64 a0_5) := (blk_cell BK116.out 5).trans rfl
                              have hfz68_0 := blk_frozen BK116.out 0
                              have hfz68_1 := blk_frozen BK116.out 1
                              have hfz68_2 := blk_frozen BK116.out 2
                              have hfz68_3 := blk_frozen BK116.out 3
                              have hfz68_4 := blk_frozen BK116.out 4
                              have hfz68_5 := blk_frozen BK116.out 5
                              go_wp2_with (first | ((with_reducible refine gate_callee (f := 47) rfl ?_); refine goesL_ (some 55) rfl rfl Try.func47 (by kernel_rfl) rfl #[.int .i64 a0_1, .int .u8 108] rfl (by (try simp only [List.map_toArray, List.map_cons, List.map_nil]); first | done | rfl | (simp only [List.length_drop, List.length_take]; rfl)) ?_; (with_reducible refine (taximeterref11_Has.calls kj35 a0_1 108 true _ A48.out).mono ?_); rintro e w69 ⟨rfl, hb⟩; refine ⟨_, rfl, ?_⟩; have n0_ := Aside0.mk (blk_below (g := gb116) (o := .cells #[.int .u64 a0_0, .int .i64 a0_1, .string a0_2, .int .u64 a0_3, .int .u64 a0_4, .int .u64 a0_5] 37 (0, 0)) (by (with_reducible repeat (first | refine blk_drewN ?_ _ | refine blk_drew ?_ | refine blk_alloc ?_ _)); exact BK116.out) hb); have n1_ := Aside0.mk (below_step (by repeat (first | (with_reducible first | exact HB.out | apply below_alloc | apply pw_below_drewN | apply below_drew1 | refine below_set ?_ GE116.out) | exact HB.out)) hb); clear BK116; clear HB; have BK116 := n0_; have HB := n1_; clear n0_ n1_; (try clear hb); (try clear hb2); (try clear hk); (try clear hi); have hcz70_0 : w69.cell? ⟨gb116, 0, none⟩ = some (.int .u64 a0_0) := (blk_cell BK116.out 0).trans rfl; have hcz70_1 : w69.cell? ⟨gb116, 1, none⟩ = some (.int .i64 a0_1) := (blk_cell BK116.out 1).trans rfl; have hcz70_2 : w69.cell? ⟨gb116, 2, none⟩ = some (.string a0_2) := (blk_cell BK116.out 2).trans rfl; have hcz70_3 : w69.cell? ⟨gb116, 3, none⟩ = some (.int .u64 a0_3) := (blk_cell BK116.out 3).trans rfl; have hcz70_4 : w69.cell? ⟨gb116, 4, none⟩ = some (.int .u64 a0_4) := (blk_cell BK116.out 4).trans rfl; have hcz70_5 : w69.cell? ⟨gb116, 5, none⟩ = some (.int .u64 a0_5) := (blk_cell BK116.out 5).trans rfl; have hfz70_0 := blk_frozen BK116.out 0; have hfz70_1 := blk_frozen BK116.out 1; have hfz70_2 := blk_frozen BK116.out 2; have hfz70_3 := blk_frozen BK116.out 3; have hfz70_4 := blk_frozen BK116.out 4; have hfz70_5 := blk_frozen BK116.out 5) | (go_at_call 47; (with_reducible refine (taximeterref11_Has.calls kj35 a0_1 110 true _ A50.out).mono ?_); rintro e w71 ⟨rfl, hb⟩; have n0_ := Aside0.mk (blk_below (g := gb116) (o := .cells #[.int .u64 a0_0, .int .i64 a0_1, .string a0_2, .int .u64 a0_3, .int .u64 a0_4, .int .u64 a0_5] 37 (0, 0)) (by (with_reducible repeat (first | refine blk_drewN ?_ _ | refine blk_drew ?_ | refine blk_alloc ?_ _)); exact BK116.out) hb); have n1_ := Aside0.mk (below_step (by repeat (first | (with_reducible first | exact HB.out | apply below_alloc | apply pw_below_drewN | apply below_drew1 | refine below_set ?_ GE116.out) | exact HB.out)) hb); clear BK116; clear HB; have BK116 := n0_; have HB := n1_; clear n0_ n1_; (try clear hb); (try clear hb2); (try clear hk); (try clear hi); have hcz72_0 : w71.cell? ⟨gb116, 0, none⟩ = some (.int .u64 a0_0) := (blk_cell BK116.out 0).trans rfl; have hcz72_1 : w71.cell? ⟨gb116, 1, none⟩ = some (.int .i64 a0_1) := (blk_cell BK116.out 1).trans rfl; have hcz72_2 : w71.cell? ⟨gb116, 2, none⟩ = some (.string a0_2) := (blk_cell BK116.out 2).trans rfl; have hcz72_3 : w71.cell? ⟨gb116, 3, none⟩ = some (.int .u64 a0_3) := (blk_cell BK116.out 3).trans rfl; have hcz72_4 : w71.cell? ⟨gb116, 4, none⟩ = some (.int .u64 a0_4) := (blk_cell BK116.out 4).trans rfl; have hcz72_5 : w71.cell? ⟨gb116, 5, none⟩ = some (.int .u64 a0_5) := (blk_cell BK116.out 5).trans rfl; have hfz72_0 := blk_frozen BK116.out 0; have hfz72_1 := blk_frozen BK116.out 1; have hfz72_2 := blk_frozen BK116.out 2; have hfz72_3 := blk_frozen BK116.out 3; have hfz72_4 := blk_frozen BK116.out 4; have hfz72_5 := blk_frozen BK116.out 5) | (go_at_call 47; (with_reducible refine (taximeterref11_Has.calls kj35 a0_1 98 false _ A52.out).mono ?_); rintro e w73 ⟨rfl, hb⟩; have n0_ := Aside0.mk (blk_below (g := gb116) (o := .cells #[.int .u64 a0_0, .int .i64 a0_1, .string a0_2, .int .u64 a0_3, .int .u64 a0_4, .int .u64 a0_5] 37 (0, 0)) (by (with_reducible repeat (first | refine blk_drewN ?_ _ | refine blk_drew ?_ | refine blk_alloc ?_ _)); exact BK116.out) hb); have n1_ := Aside0.mk (below_step (by repeat (first | (with_reducible first | exact HB.out | apply below_alloc | apply pw_below_drewN | apply below_drew1 | refine below_set ?_ GE116.out) | exact HB.out)) hb); clear BK116; clear HB; have BK116 := n0_; have HB := n1_; clear n0_ n1_; (try clear hb); (try clear hb2); (try clear hk); (try clear hi); have hcz74_0 : w73.cell? ⟨gb116, 0, none⟩ = some (.int .u64 a0_0) := (blk_cell BK116.out 0).trans rfl; have hcz74_1 : w73.cell? ⟨gb116, 1, none⟩ = some (.int .i64 a0_1) := (blk_cell BK116.out 1).trans rfl; have hcz74_2 : w73.cell? ⟨gb116, 2, none⟩ = some (.string a0_2) := (blk_cell BK116.out 2).trans rfl; have hcz74_3 : w73.cell? ⟨gb116, 3, none⟩ = some (.int .u64 a0_3) := (blk_cell BK116.out 3).trans rfl; have hcz74_4 : w73.cell? ⟨gb116, 4, none⟩ = some (.int .u64 a0_4) := (blk_cell BK116.out 4).trans rfl; have hcz74_5 : w73.cell? ⟨gb116, 5, none⟩ = some (.int .u64 a0_5) := (blk_cell BK116.out 5).trans rfl; have hfz74_0 := blk_frozen BK116.out 0; have hfz74_1 := blk_frozen BK116.out 1; have hfz74_2 := blk_frozen BK116.out 2; have hfz74_3 := blk_frozen BK116.out 3; have hfz74_4 := blk_frozen BK116.out 4; have hfz74_5 := blk_frozen BK116.out 5))
                              go_ret
                              exact ⟨by first | rfl | (simp [errW_none, errW_some] <;> rfl) | (simp [*, errW_none, errW_some] <;> rfl), by repeat (first | (with_reducible first | exact HB.out | apply below_alloc | apply pw_below_drewN | apply below_drew1 | refine below_set ?_ GE116.out) | exact HB.out)⟩
                        · replace c51 := Bool.eq_false_iff.mpr c51
                          subst c51
                          have H1 : (if a0_4 = 0 then ((taximeterref11_Has.f kj35 a0_1 98).bind fun t124 => (if t124 = true then (some 0) else (if a0_5 = 0 then (some 0) else (some 2)))) else (some 2)) = some r := by rw [if_neg (show ¬ (false = true) by decide)] at H; exact H
                          clear H
                          have H := H1
                          clear H1
                          by_cases c75 : a0_4 = 0
                          · rw [if_pos c75] at H
                            have c75b0 : (a0_4 == 0) = true := beq_iff_eq.mpr c75
                            have c75b1 : (a0_4 != 0) = false := bne_eq_false_iff_eq.mpr c75
                            clear c75
                            replace H := Option.bind_eq_some_iff.mp H
                            obtain ⟨t124, A760, H⟩ := H
                            replace H : (if t124 = true then (some 0) else (if a0_5 = 0 then (some 0) else (some 2))) = some r := H
                            have A76 := Aside0.mk A760
                            clear A760
                            by_cases c77 : t124 = true
                            · subst c77
                              have H1 : (some 0) = some r := by rw [if_pos rfl] at H; exact H
                              clear H
                              have H := H1
                              clear H1
                              obtain rfl := Option.some.inj H
                              have hcz78_0 : wc.cell? ⟨gb116, 0, none⟩ = some (.int .u64 a0_0) := (blk_cell BK116.out 0).trans rfl
                              have hcz78_1 : wc.cell? ⟨gb116, 1, none⟩ = some (.int .i64 a0_1) := (blk_cell BK116.out 1).trans rfl
                              have hcz78_2 : wc.cell? ⟨gb116, 2, none⟩ = some (.string a0_2) := (blk_cell BK116.out 2).trans rfl
                              have hcz78_3 : wc.cell? ⟨gb116, 3, none⟩ = some (.int .u64 a0_3) := (blk_cell BK116.out 3).trans rfl
                              have hcz78_4 : wc.cell? ⟨gb116, 4, none⟩ = some (.int .u64 a0_4) := (blk_cell BK116.out 4).trans rfl
                              have hcz78_5 : wc.cell? ⟨gb116, 5, none⟩ = some (.int .u64 a0_5) := (blk_cell BK116.out 5).trans rfl
                              have hfz78_0 := blk_frozen BK116.out 0
                              have hfz78_1 := blk_frozen BK116.out 1
                              have hfz78_2 := blk_frozen BK116.out 2
                              have hfz78_3 := blk_frozen BK116.out 3
                              have hfz78_4 := blk_frozen BK116.out 4
                              have hfz78_5 := blk_frozen BK116.out 5
                              go_wp2_with (first | ((with_reducible refine gate_callee (f := 47) rfl ?_); refine goesL_ (some 55) rfl rfl Try.func47 (by kernel_rfl) rfl #[.int .i64 a0_1, .int .u8 108] rfl (by (try simp only [List.map_toArray, List.map_cons, List.map_nil]); first | done | rfl | (simp only [List.length_drop, List.length_take]; rfl)) ?_; (with_reducible refine (taximeterref11_Has.calls kj35 a0_1 108 true _ A48.out).mono ?_); rintro e w79 ⟨rfl, hb⟩; refine ⟨_, rfl, ?_⟩; have n0_ := Aside0.mk (blk_below (g := gb116) (o := .cells #[.int .u64 a0_0, .int .i64 a0_1, .string a0_2, .int .u64 a0_3, .int .u64 a0_4, .int .u64 a0_5] 37 (0, 0)) (by (with_reducible repeat (first | refine blk_drewN ?_ _ | refine blk_drew ?_ | refine blk_alloc ?_ _)); exact BK116.out) hb); have n1_ := Aside0.mk (below_step (by repeat (first | (with_reducible first | exact HB.out | apply below_alloc | apply pw_below_drewN | apply below_drew1 | refine below_set ?_ GE116.out) | exact HB.out)) hb); clear BK116; clear HB; have BK116 := n0_; have HB := n1_; clear n0_ n1_; (try clear hb); (try clear hb2); (try clear hk); (try clear hi); have hcz80_0 : w79.cell? ⟨gb116, 0, none⟩ = some (.int .u64 a0_0) := (blk_cell BK116.out 0).trans rfl; have hcz80_1 : w79.cell? ⟨gb116, 1, none⟩ = some (.int .i64 a0_1) := (blk_cell BK116.out 1).trans rfl; have hcz80_2 : w79.cell? ⟨gb116, 2, none⟩ = some (.string a0_2) := (blk_cell BK116.out 2).trans rfl; have hcz80_3 : w79.cell? ⟨gb116, 3, none⟩ = some (.int .u64 a0_3) := (blk_cell BK116.out 3).trans rfl; have hcz80_4 : w79.cell? ⟨gb116, 4, none⟩ = some (.int .u64 a0_4) := (blk_cell BK116.out 4).trans rfl; have hcz80_5 : w79.cell? ⟨gb116, 5, none⟩ = some (.int .u64 a0_5) := (blk_cell BK116.out 5).trans rfl; have hfz80_0 := blk_frozen BK116.out 0; have hfz80_1 := blk_frozen BK116.out 1; have hfz80_2 := blk_frozen BK116.out 2; have hfz80_3 := blk_frozen BK116.out 3; have hfz80_4 := blk_frozen BK116.out 4; have hfz80_5 := blk_frozen BK116.out 5) | (go_at_call 47; (with_reducible refine (taximeterref11_Has.calls kj35 a0_1 110 false _ A50.out).mono ?_); rintro e w81 ⟨rfl, hb⟩; have n0_ := Aside0.mk (blk_below (g := gb116) (o := .cells #[.int .u64 a0_0, .int .i64 a0_1, .string a0_2, .int .u64 a0_3, .int .u64 a0_4, .int .u64 a0_5] 37 (0, 0)) (by (with_reducible repeat (first | refine blk_drewN ?_ _ | refine blk_drew ?_ | refine blk_alloc ?_ _)); exact BK116.out) hb); have n1_ := Aside0.mk (below_step (by repeat (first | (with_reducible first | exact HB.out | apply below_alloc | apply pw_below_drewN | apply below_drew1 | refine below_set ?_ GE116.out) | exact HB.out)) hb); clear BK116; clear HB; have BK116 := n0_; have HB := n1_; clear n0_ n1_; (try clear hb); (try clear hb2); (try clear hk); (try clear hi); have hcz82_0 : w81.cell? ⟨gb116, 0, none⟩ = some (.int .u64 a0_0) := (blk_cell BK116.out 0).trans rfl; have hcz82_1 : w81.cell? ⟨gb116, 1, none⟩ = some (.int .i64 a0_1) := (blk_cell BK116.out 1).trans rfl; have hcz82_2 : w81.cell? ⟨gb116, 2, none⟩ = some (.string a0_2) := (blk_cell BK116.out 2).trans rfl; have hcz82_3 : w81.cell? ⟨gb116, 3, none⟩ = some (.int .u64 a0_3) := (blk_cell BK116.out 3).trans rfl; have hcz82_4 : w81.cell? ⟨gb116, 4, none⟩ = some (.int .u64 a0_4) := (blk_cell BK116.out 4).trans rfl; have hcz82_5 : w81.cell? ⟨gb116, 5, none⟩ = some (.int .u64 a0_5) := (blk_cell BK116.out 5).trans rfl; have hfz82_0 := blk_frozen BK116.out 0; have hfz82_1 := blk_frozen BK116.out 1; have hfz82_2 := blk_frozen BK116.out 2; have hfz82_3 := blk_frozen BK116.out 3; have hfz82_4 := blk_frozen BK116.out 4; have hfz82_5 := blk_frozen BK116.out 5) | (go_at_call 47; (with_reducible refine (taximeterref11_Has.calls kj35 a0_1 98 true _ A76.out).mono ?_); rintro e w83 ⟨rfl, hb⟩; have n0_ := Aside0.mk (blk_below (g := gb116) (o := .cells #[.int .u64 a0_0, .int .i64 a0_1, .string a0_2, .int .u64 a0_3, .int .u64 a0_4, .int .u64 a0_5] 37 (0, 0)) (by (with_reducible repeat (first | refine blk_drewN ?_ _ | refine blk_drew ?_ | refine blk_alloc ?_ _)); exact BK116.out) hb); have n1_ := Aside0.mk (below_step (by repeat (first | (with_reducible first | exact HB.out | apply below_alloc | apply pw_below_drewN | apply below_drew1 | refine below_set ?_ GE116.out) | exact HB.out)) hb); clear BK116; clear HB; have BK116 := n0_; have HB := n1_; clear n0_ n1_; (try clear hb); (try clear hb2); (try clear hk); (try clear hi)))
                              go_ret
                              exact ⟨by first | rfl | (simp [errW_none, errW_some] <;> rfl) | (simp [*, errW_none, errW_some] <;> rfl), by repeat (first | (with_reducible first | exact HB.out | apply below_alloc | apply pw_below_drewN | apply below_drew1 | refine below_set ?_ GE116.out) | exact HB.out)⟩
                            · replace c77 := Bool.eq_false_iff.mpr c77
                              subst c77
                              have H1 : (if a0_5 = 0 then (some 0) else (some 2)) = some r := by rw [if_neg (show ¬ (false = true) by decide)] at H; exact H
                              clear H
                              have H := H1
                              clear H1
                              by_cases c84 : a0_5 = 0
                              · rw [if_pos c84] at H
                                have c84b0 : (a0_5 == 0) = true := beq_iff_eq.mpr c84
                                have c84b1 : (a0_5 != 0) = false := bne_eq_false_iff_eq.mpr c84
                                clear c84
                                obtain rfl := Option.some.inj H
                                have hcz85_0 : wc.cell? ⟨gb116, 0, none⟩ = some (.int .u64 a0_0) := (blk_cell BK116.out 0).trans rfl
                                have hcz85_1 : wc.cell? ⟨gb116, 1, none⟩ = some (.int .i64 a0_1) := (blk_cell BK116.out 1).trans rfl
                                have hcz85_2 : wc.cell? ⟨gb116, 2, none⟩ = some (.string a0_2) := (blk_cell BK116.out 2).trans rfl
                                have hcz85_3 : wc.cell? ⟨gb116, 3, none⟩ = some (.int .u64 a0_3) := (blk_cell BK116.out 3).trans rfl
                                have hcz85_4 : wc.cell? ⟨gb116, 4, none⟩ = some (.int .u64 a0_4) := (blk_cell BK116.out 4).trans rfl
                                have hcz85_5 : wc.cell? ⟨gb116, 5, none⟩ = some (.int .u64 a0_5) := (blk_cell BK116.out 5).trans rfl
                                have hfz85_0 := blk_frozen BK116.out 0
                                have hfz85_1 := blk_frozen BK116.out 1
                                have hfz85_2 := blk_frozen BK116.out 2
                                have hfz85_3 := blk_frozen BK116.out 3
                                have hfz85_4 := blk_frozen BK116.out 4
                                have hfz85_5 := blk_frozen BK116.out 5
                                go_wp2_with (first | ((with_reducible refine gate_callee (f := 47) rfl ?_); refine goesL_ (some 55) rfl rfl Try.func47 (by kernel_rfl) rfl #[.int .i64 a0_1, .int .u8 108] rfl (by (try simp only [List.map_toArray, List.map_cons, List.map_nil]); first | done | rfl | (simp only [List.length_drop, List.length_take]; rfl)) ?_; (with_reducible refine (taximeterref11_Has.calls kj35 a0_1 108 true _ A48.out).mono ?_); rintro e w86 ⟨rfl, hb⟩; refine ⟨_, rfl, ?_⟩; have n0_ := Aside0.mk (blk_below (g := gb116) (o := .cells #[.int .u64 a0_0, .int .i64 a0_1, .string a0_2, .int .u64 a0_3, .int .u64 a0_4, .int .u64 a0_5] 37 (0, 0)) (by (with_reducible repeat (first | refine blk_drewN ?_ _ | refine blk_drew ?_ | refine blk_alloc ?_ _)); exact BK116.out) hb); have n1_ := Aside0.mk (below_step (by repeat (first | (with_reducible first | exact HB.out | apply below_alloc | apply pw_below_drewN | apply below_drew1 | refine below_set ?_ GE116.out) | exact HB.out)) hb); clear BK116; clear HB; have BK116 := n0_; have HB := n1_; clear n0_ n1_; (try clear hb); (try clear hb2); (try clear hk); (try clear hi); have hcz87_0 : w86.cell? ⟨gb116, 0, none⟩ = some (.int .u64 a0_0) := (blk_cell BK116.out 0).trans rfl; have hcz87_1 : w86.cell? ⟨gb116, 1, none⟩ = some (.int .i64 a0_1) := (blk_cell BK116.out 1).trans rfl; have hcz87_2 : w86.cell? ⟨gb116, 2, none⟩ = some (.string a0_2) := (blk_cell BK116.out 2).trans rfl; have hcz87_3 : w86.cell? ⟨gb116, 3, none⟩ = some (.int .u64 a0_3) := (blk_cell BK116.out 3).trans rfl; have hcz87_4 : w86.cell? ⟨gb116, 4, none⟩ = some (.int .u64 a0_4) := (blk_cell BK116.out 4).trans rfl; have hcz87_5 : w86.cell? ⟨gb116, 5, none⟩ = some (.int .u64 a0_5) := (blk_cell BK116.out 5).trans rfl; have hfz87_0 := blk_frozen BK116.out 0; have hfz87_1 := blk_frozen BK116.out 1; have hfz87_2 := blk_frozen BK116.out 2; have hfz87_3 := blk_frozen BK116.out 3; have hfz87_4 := blk_frozen BK116.out 4; have hfz87_5 := blk_frozen BK116.out 5) | (go_at_call 47; (with_reducible refine (taximeterref11_Has.calls kj35 a0_1 110 false _ A50.out).mono ?_); rintro e w88 ⟨rfl, hb⟩; have n0_ := Aside0.mk (blk_below (g := gb116) (o := .cells #[.int .u64 a0_0, .int .i64 a0_1, .string a0_2, .int .u64 a0_3, .int .u64 a0_4, .int .u64 a0_5] 37 (0, 0)) (by (with_reducible repeat (first | refine blk_drewN ?_ _ | refine blk_drew ?_ | refine blk_alloc ?_ _)); exact BK116.out) hb); have n1_ := Aside0.mk (below_step (by repeat (first | (with_reducible first | exact HB.out | apply below_alloc | apply pw_below_drewN | apply below_drew1 | refine below_set ?_ GE116.out) | exact HB.out)) hb); clear BK116; clear HB; have BK116 := n0_; have HB := n1_; clear n0_ n1_; (try clear hb); (try clear hb2); (try clear hk); (try clear hi); have hcz89_0 : w88.cell? ⟨gb116, 0, none⟩ = some (.int .u64 a0_0) := (blk_cell BK116.out 0).trans rfl; have hcz89_1 : w88.cell? ⟨gb116, 1, none⟩ = some (.int .i64 a0_1) := (blk_cell BK116.out 1).trans rfl; have hcz89_2 : w88.cell? ⟨gb116, 2, none⟩ = some (.string a0_2) := (blk_cell BK116.out 2).trans rfl; have hcz89_3 : w88.cell? ⟨gb116, 3, none⟩ = some (.int .u64 a0_3) := (blk_cell BK116.out 3).trans rfl; have hcz89_4 : w88.cell? ⟨gb116, 4, none⟩ = some (.int .u64 a0_4) := (blk_cell BK116.out 4).trans rfl; have hcz89_5 : w88.cell? ⟨gb116, 5, none⟩ = some (.int .u64 a0_5) := (blk_cell BK116.out 5).trans rfl; have hfz89_0 := blk_frozen BK116.out 0; have hfz89_1 := blk_frozen BK116.out 1; have hfz89_2 := blk_frozen BK116.out 2; have hfz89_3 := blk_frozen BK116.out 3; have hfz89_4 := blk_frozen BK116.out 4; have hfz89_5 := blk_frozen BK116.out 5) | (go_at_call 47; (with_reducible refine (taximeterref11_Has.calls kj35 a0_1 98 false _ A76.out).mono ?_); rintro e w90 ⟨rfl, hb⟩; have n0_ := Aside0.mk (blk_below (g := gb116) (o := .cells #[.int .u64 a0_0, .int .i64 a0_1, .string a0_2, .int .u64 a0_3, .int .u64 a0_4, .int .u64 a0_5] 37 (0, 0)) (by (with_reducible repeat (first | refine blk_drewN ?_ _ | refine blk_drew ?_ | refine blk_alloc ?_ _)); exact BK116.out) hb); have n1_ := Aside0.mk (below_step (by repeat (first | (with_reducible first | exact HB.out | apply below_alloc | apply pw_below_drewN | apply below_drew1 | refine below_set ?_ GE116.out) | exact HB.out)) hb); clear BK116; clear HB; have BK116 := n0_; have HB := n1_; clear n0_ n1_; (try clear hb); (try clear hb2); (try clear hk); (try clear hi); have hcz91_0 : w90.cell? ⟨gb116, 0, none⟩ = some (.int .u64 a0_0) := (blk_cell BK116.out 0).trans rfl; have hcz91_1 : w90.cell? ⟨gb116, 1, none⟩ = some (.int .i64 a0_1) := (blk_cell BK116.out 1).trans rfl; have hcz91_2 : w90.cell? ⟨gb116, 2, none⟩ = some (.string a0_2) := (blk_cell BK116.out 2).trans rfl; have hcz91_3 : w90.cell? ⟨gb116, 3, none⟩ = some (.int .u64 a0_3) := (blk_cell BK116.out 3).trans rfl; have hcz91_4 : w90.cell? ⟨gb116, 4, none⟩ = some (.int .u64 a0_4) := (blk_cell BK116.out 4).trans rfl; have hcz91_5 : w90.cell? ⟨gb116, 5, none⟩ = some (.int .u64 a0_5) := (blk_cell BK116.out 5).trans rfl; have hfz91_0 := blk_frozen BK116.out 0; have hfz91_1 := blk_frozen BK116.out 1; have hfz91_2 := blk_frozen BK116.out 2; have hfz91_3 := blk_frozen BK116.out 3; have hfz91_4 := blk_frozen BK116.out 4; have hfz91_5 := blk_frozen BK116.out 5))
                                go_ret
                                exact ⟨by first | rfl | (simp [errW_none, errW_some] <;> rfl) | (simp [*, errW_none, errW_some] <;> rfl), by repeat (first | (with_reducible first | exact HB.out | apply below_alloc | apply pw_below_drewN | apply below_drew1 | refine below_set ?_ GE116.out) | exact HB.out)⟩
                              · rw [if_neg c84] at H
                                have c84b0 : (a0_5 == 0) = false := beq_eq_false_iff_ne.mpr c84
                                have c84b1 : (a0_5 != 0) = true := bne_iff_ne.mpr c84
                                obtain rfl := Option.some.inj H
                                have hcz92_0 : wc.cell? ⟨gb116, 0, none⟩ = some (.int .u64 a0_0) := (blk_cell BK116.out 0).trans rfl
                                have hcz92_1 : wc.cell? ⟨gb116, 1, none⟩ = some (.int .i64 a0_1) := (blk_cell BK116.out 1).trans rfl
                                have hcz92_2 : wc.cell? ⟨gb116, 2, none⟩ = some (.string a0_2) := (blk_cell BK116.out 2).trans rfl
                                have hcz92_3 : wc.cell? ⟨gb116, 3, none⟩ = some (.int .u64 a0_3) := (blk_cell BK116.out 3).trans rfl
                                have hcz92_4 : wc.cell? ⟨gb116, 4, none⟩ = some (.int .u64 a0_4) := (blk_cell BK116.out 4).trans rfl
                                have hcz92_5 : wc.cell? ⟨gb116, 5, none⟩ = some (.int .u64 a0_5) := (blk_cell BK116.out 5).trans rfl
                                have hfz92_0 := blk_frozen BK116.out 0
                                have hfz92_1 := blk_frozen BK116.out 1
                                have hfz92_2 := blk_frozen BK116.out 2
                                have hfz92_3 := blk_frozen BK116.out 3
                                have hfz92_4 := blk_frozen BK116.out 4
                                have hfz92_5 := blk_frozen BK116.out 5
                                go_wp2_with (first | ((with_reducible refine gate_callee (f := 47) rfl ?_); refine goesL_ (some 55) rfl rfl Try.func47 (by kernel_rfl) rfl #[.int .i64 a0_1, .int .u8 108] rfl (by (try simp only [List.map_toArray, List.map_cons, List.map_nil]); first | done | rfl | (simp only [List.length_drop, List.length_take]; rfl)) ?_; (with_reducible refine (taximeterref11_Has.calls kj35 a0_1 108 true _ A48.out).mono ?_); rintro e w93 ⟨rfl, hb⟩; refine ⟨_, rfl, ?_⟩; have n0_ := Aside0.mk (blk_below (g := gb116) (o := .cells #[.int .u64 a0_0, .int .i64 a0_1, .string a0_2, .int .u64 a0_3, .int .u64 a0_4, .int .u64 a0_5] 37 (0, 0)) (by (with_reducible repeat (first | refine blk_drewN ?_ _ | refine blk_drew ?_ | refine blk_alloc ?_ _)); exact BK116.out) hb); have n1_ := Aside0.mk (below_step (by repeat (first | (with_reducible first | exact HB.out | apply below_alloc | apply pw_below_drewN | apply below_drew1 | refine below_set ?_ GE116.out) | exact HB.out)) hb); clear BK116; clear HB; have BK116 := n0_; have HB := n1_; clear n0_ n1_; (try clear hb); (try clear hb2); (try clear hk); (try clear hi); have hcz94_0 : w93.cell? ⟨gb116, 0, none⟩ = some (.int .u64 a0_0) := (blk_cell BK116.out 0).trans rfl; have hcz94_1 : w93.cell? ⟨gb116, 1, none⟩ = some (.int .i64 a0_1) := (blk_cell BK116.out 1).trans rfl; have hcz94_2 : w93.cell? ⟨gb116, 2, none⟩ = some (.string a0_2) := (blk_cell BK116.out 2).trans rfl; have hcz94_3 : w93.cell? ⟨gb116, 3, none⟩ = some (.int .u64 a0_3) := (blk_cell BK116.out 3).trans rfl; have hcz94_4 : w93.cell? ⟨gb116, 4, none⟩ = some (.int .u64 a0_4) := (blk_cell BK116.out 4).trans rfl; have hcz94_5 : w93.cell? ⟨gb116, 5, none⟩ = some (.int .u64 a0_5) := (blk_cell BK116.out 5).trans rfl; have hfz94_0 := blk_frozen BK116.out 0; have hfz94_1 := blk_frozen BK116.out 1; have hfz94_2 := blk_frozen BK116.out 2; have hfz94_3 := blk_frozen BK116.out 3; have hfz94_4 := blk_frozen BK116.out 4; have hfz94_5 := blk_frozen BK116.out 5) | (go_at_call 47; (with_reducible refine (taximeterref11_Has.calls kj35 a0_1 110 false _ A50.out).mono ?_); rintro e w95 ⟨rfl, hb⟩; have n0_ := Aside0.mk (blk_below (g := gb116) (o := .cells #[.int .u64 a0_0, .int .i64 a0_1, .string a0_2, .int .u64 a0_3, .int .u64 a0_4, .int .u64 a0_5] 37 (0, 0)) (by (with_reducible repeat (first | refine blk_drewN ?_ _ | refine blk_drew ?_ | refine blk_alloc ?_ _)); exact BK116.out) hb); have n1_ := Aside0.mk (below_step (by repeat (first | (with_reducible first | exact HB.out | apply below_alloc | apply pw_below_drewN | apply below_drew1 | refine below_set ?_ GE116.out) | exact HB.out)) hb); clear BK116; clear HB; have BK116 := n0_; have HB := n1_; clear n0_ n1_; (try clear hb); (try clear hb2); (try clear hk); (try clear hi); have hcz96_0 : w95.cell? ⟨gb116, 0, none⟩ = some (.int .u64 a0_0) := (blk_cell BK116.out 0).trans rfl; have hcz96_1 : w95.cell? ⟨gb116, 1, none⟩ = some (.int .i64 a0_1) := (blk_cell BK116.out 1).trans rfl; have hcz96_2 : w95.cell? ⟨gb116, 2, none⟩ = some (.string a0_2) := (blk_cell BK116.out 2).trans rfl; have hcz96_3 : w95.cell? ⟨gb116, 3, none⟩ = some (.int .u64 a0_3) := (blk_cell BK116.out 3).trans rfl; have hcz96_4 : w95.cell? ⟨gb116, 4, none⟩ = some (.int .u64 a0_4) := (blk_cell BK116.out 4).trans rfl; have hcz96_5 : w95.cell? ⟨gb116, 5, none⟩ = some (.int .u64 a0_5) := (blk_cell BK116.out 5).trans rfl; have hfz96_0 := blk_frozen BK116.out 0; have hfz96_1 := blk_frozen BK116.out 1; have hfz96_2 := blk_frozen BK116.out 2; have hfz96_3 := blk_frozen BK116.out 3; have hfz96_4 := blk_frozen BK116.out 4; have hfz96_5 := blk_frozen BK116.out 5) | (go_at_call 47; (with_reducible refine (taximeterref11_Has.calls kj35 a0_1 98 false _ A76.out).mono ?_); rintro e w97 ⟨rfl, hb⟩; have n0_ := Aside0.mk (blk_below (g := gb116) (o := .cells #[.int .u64 a0_0, .int .i64 a0_1, .string a0_2, .int .u64 a0_3, .int .u64 a0_4, .int .u64 a0_5] 37 (0, 0)) (by (with_reducible repeat (first | refine blk_drewN ?_ _ | refine blk_drew ?_ | refine blk_alloc ?_ _)); exact BK116.out) hb); have n1_ := Aside0.mk (below_step (by repeat (first | (with_reducible first | exact HB.out | apply below_alloc | apply pw_below_drewN | apply below_drew1 | refine below_set ?_ GE116.out) | exact HB.out)) hb); clear BK116; clear HB; have BK116 := n0_; have HB := n1_; clear n0_ n1_; (try clear hb); (try clear hb2); (try clear hk); (try clear hi); have hcz98_0 : w97.cell? ⟨gb116, 0, none⟩ = some (.int .u64 a0_0) := (blk_cell BK116.out 0).trans rfl; have hcz98_1 : w97.cell? ⟨gb116, 1, none⟩ = some (.int .i64 a0_1) := (blk_cell BK116.out 1).trans rfl; have hcz98_2 : w97.cell? ⟨gb116, 2, none⟩ = some (.string a0_2) := (blk_cell BK116.out 2).trans rfl; have hcz98_3 : w97.cell? ⟨gb116, 3, none⟩ = some (.int .u64 a0_3) := (blk_cell BK116.out 3).trans rfl; have hcz98_4 : w97.cell? ⟨gb116, 4, none⟩ = some (.int .u64 a0_4) := (blk_cell BK116.out 4).trans rfl; have hcz98_5 : w97.cell? ⟨gb116, 5, none⟩ = some (.int .u64 a0_5) := (blk_cell BK116.out 5).trans rfl; have hfz98_0 := blk_frozen BK116.out 0; have hfz98_1 := blk_frozen BK116.out 1; have hfz98_2 := blk_frozen BK116.out 2; have hfz98_3 := blk_frozen BK116.out 3; have hfz98_4 := blk_frozen BK116.out 4; have hfz98_5 := blk_frozen BK116.out 5))
                                go_ret
                                exact ⟨by first | rfl | (simp [errW_none, errW_some] <;> rfl) | (simp [*, errW_none, errW_some] <;> rfl), by repeat (first | (with_reducible first | exact HB.out | apply below_alloc | apply pw_below_drewN | apply below_drew1 | refine below_set ?_ GE116.out) | exact HB.out)⟩
                          · rw [if_neg c75] at H
                            have c75b0 : (a0_4 == 0) = false := beq_eq_false_iff_ne.mpr c75
                            have c75b1 : (a0_4 != 0) = true := bne_iff_ne.mpr c75
                            obtain rfl := Option.some.inj H
                            have hcz99_0 : wc.cell? ⟨gb116, 0, none⟩ = some (.int .u64 a0_0) := (blk_cell BK116.out 0).trans rfl
                            have hcz99_1 : wc.cell? ⟨gb116, 1, none⟩ = some (.int .i64 a0_1) := (blk_cell BK116.out 1).trans rfl
                            have hcz99_2 : wc.cell? ⟨gb116, 2, none⟩ = some (.string a0_2) := (blk_cell BK116.out 2).trans rfl
                            have hcz99_3 : wc.cell? ⟨gb116, 3, none⟩ = some (.int .u64 a0_3) := (blk_cell BK116.out 3).trans rfl
                            have hcz99_4 : wc.cell? ⟨gb116, 4, none⟩ = some (.int .u64 a0_4) := (blk_cell BK116.out 4).trans rfl
                            have hcz99_5 : wc.cell? ⟨gb116, 5, none⟩ = some (.int .u64 a0_5) := (blk_cell BK116.out 5).trans rfl
                            have hfz99_0 := blk_frozen BK116.out 0
                            have hfz99_1 := blk_frozen BK116.out 1
                            have hfz99_2 := blk_frozen BK116.out 2
                            have hfz99_3 := blk_frozen BK116.out 3
                            have hfz99_4 := blk_frozen BK116.out 4
                            have hfz99_5 := blk_frozen BK116.out 5
                            go_wp2_with (first | ((with_reducible refine gate_callee (f := 47) rfl ?_); refine goesL_ (some 55) rfl rfl Try.func47 (by kernel_rfl) rfl #[.int .i64 a0_1, .int .u8 108] rfl (by (try simp only [List.map_toArray, List.map_cons, List.map_nil]); first | done | rfl | (simp only [List.length_drop, List.length_take]; rfl)) ?_; (with_reducible refine (taximeterref11_Has.calls kj35 a0_1 108 true _ A48.out).mono ?_); rintro e w100 ⟨rfl, hb⟩; refine ⟨_, rfl, ?_⟩; have n0_ := Aside0.mk (blk_below (g := gb116) (o := .cells #[.int .u64 a0_0, .int .i64 a0_1, .string a0_2, .int .u64 a0_3, .int .u64 a0_4, .int .u64 a0_5] 37 (0, 0)) (by (with_reducible repeat (first | refine blk_drewN ?_ _ | refine blk_drew ?_ | refine blk_alloc ?_ _)); exact BK116.out) hb); have n1_ := Aside0.mk (below_step (by repeat (first | (with_reducible first | exact HB.out | apply below_alloc | apply pw_below_drewN | apply below_drew1 | refine below_set ?_ GE116.out) | exact HB.out)) hb); clear BK116; clear HB; have BK116 := n0_; have HB := n1_; clear n0_ n1_; (try clear hb); (try clear hb2); (try clear hk); (try clear hi); have hcz101_0 : w100.cell? ⟨gb116, 0, none⟩ = some (.int .u64 a0_0) := (blk_cell BK116.out 0).trans rfl; have hcz101_1 : w100.cell? ⟨gb116, 1, none⟩ = some (.int .i64 a0_1) := (blk_cell BK116.out 1).trans rfl; have hcz101_2 : w100.cell? ⟨gb116, 2, none⟩ = some (.string a0_2) := (blk_cell BK116.out 2).trans rfl; have hcz101_3 : w100.cell? ⟨gb116, 3, none⟩ = some (.int .u64 a0_3) := (blk_cell BK116.out 3).trans rfl; have hcz101_4 : w100.cell? ⟨gb116, 4, none⟩ = some (.int .u64 a0_4) := (blk_cell BK116.out 4).trans rfl; have hcz101_5 : w100.cell? ⟨gb116, 5, none⟩ = some (.int .u64 a0_5) := (blk_cell BK116.out 5).trans rfl; have hfz101_0 := blk_frozen BK116.out 0; have hfz101_1 := blk_frozen BK116.out 1; have hfz101_2 := blk_frozen BK116.out 2; have hfz101_3 := blk_frozen BK116.out 3; have hfz101_4 := blk_frozen BK116.out 4; have hfz101_5 := blk_frozen BK116.out 5) | (go_at_call 47; (with_reducible refine (taximeterref11_Has.calls kj35 a0_1 110 false _ A50.out).mono ?_); rintro e w102 ⟨rfl, hb⟩; have n0_ := Aside0.mk (blk_below (g := gb116) (o := .cells #[.int .u64 a0_0, .int .i64 a0_1, .string a0_2, .int .u64 a0_3, .int .u64 a0_4, .int .u64 a0_5] 37 (0, 0)) (by (with_reducible repeat (first | refine blk_drewN ?_ _ | refine blk_drew ?_ | refine blk_alloc ?_ _)); exact BK116.out) hb); have n1_ := Aside0.mk (below_step (by repeat (first | (with_reducible first | exact HB.out | apply below_alloc | apply pw_below_drewN | apply below_drew1 | refine below_set ?_ GE116.out) | exact HB.out)) hb); clear BK116; clear HB; have BK116 := n0_; have HB := n1_; clear n0_ n1_; (try clear hb); (try clear hb2); (try clear hk); (try clear hi); have hcz103_0 : w102.cell? ⟨gb116, 0, none⟩ = some (.int .u64 a0_0) := (blk_cell BK116.out 0).trans rfl; have hcz103_1 : w102.cell? ⟨gb116, 1, none⟩ = some (.int .i64 a0_1) := (blk_cell BK116.out 1).trans rfl; have hcz103_2 : w102.cell? ⟨gb116, 2, none⟩ = some (.string a0_2) := (blk_cell BK116.out 2).trans rfl; have hcz103_3 : w102.cell? ⟨gb116, 3, none⟩ = some (.int .u64 a0_3) := (blk_cell BK116.out 3).trans rfl; have hcz103_4 : w102.cell? ⟨gb116, 4, none⟩ = some (.int .u64 a0_4) := (blk_cell BK116.out 4).trans rfl; have hcz103_5 : w102.cell? ⟨gb116, 5, none⟩ = some (.int .u64 a0_5) := (blk_cell BK116.out 5).trans rfl; have hfz103_0 := blk_frozen BK116.out 0; have hfz103_1 := blk_frozen BK116.out 1; have hfz103_2 := blk_frozen BK116.out 2; have hfz103_3 := blk_frozen BK116.out 3; have hfz103_4 := blk_frozen BK116.out 4; have hfz103_5 := blk_frozen BK116.out 5))
                            go_ret
                            exact ⟨by first | rfl | (simp [errW_none, errW_some] <;> rfl) | (simp [*, errW_none, errW_some] <;> rfl), by repeat (first | (with_reducible first | exact HB.out | apply below_alloc | apply pw_below_drewN | apply below_drew1 | refine below_set ?_ GE116.out) | exact HB.out)⟩
                      · replace c49 := Bool.eq_false_iff.mpr c49
                        subst c49
                        have H1 : (if a0_3 = 0 then ((taximeterref11_Has.f kj35 a0_1 110).bind fun t125 => (if t125 = true then ((taximeterref11_Has.f kj35 a0_1 98).bind fun t126 => (if t126 = true then (some 0) else (if a0_5 = 0 then (some 0) else (some 2)))) else (if a0_4 = 0 then ((taximeterref11_Has.f kj35 a0_1 98).bind fun t127 => (if t127 = true then (some 0) else (if a0_5 = 0 then (some 0) else (some 2)))) else (some 2)))) else (some 2)) = some r := by rw [if_neg (show ¬ (false = true) by decide)] at H; exact H
                        clear H
                        have H := H1
                        clear H1
                        by_cases c104 : a0_3 = 0
                        · rw [if_pos c104] at H
                          have c104b0 : (a0_3 == 0) = true := beq_iff_eq.mpr c104
                          have c104b1 : (a0_3 != 0) = false := bne_eq_false_iff_eq.mpr c104
                          clear c104
                          replace H := Option.bind_eq_some_iff.mp H
                          obtain ⟨t125, A1050, H⟩ := H
                          replace H : (if t125 = true then ((taximeterref11_Has.f kj35 a0_1 98).bind fun t126 => (if t126 = true then (some 0) else (if a0_5 = 0 then (some 0) else (some 2)))) else (if a0_4 = 0 then ((taximeterref11_Has.f kj35 a0_1 98).bind fun t127 => (if t127 = true then (some 0) else (if a0_5 = 0 then (some 0) else (some 2)))) else (some 2))) = some r := H
                          have A105 := Aside0.mk A1050
                          clear A1050
                          by_cases c106 : t125 = true
                          · subst c106
                            have H1 : ((taximeterref11_Has.f kj35 a0_1 98).bind fun t126 => (if t126 = true then (some 0) else (if a0_5 = 0 then (some 0) else (some 2)))) = some r := by rw [if_pos rfl] at H; exact H
                            clear H
                            have H := H1
                            clear H1
                            replace H := Option.bind_eq_some_iff.mp H
                            obtain ⟨t126, A1070, H⟩ := H
                            replace H : (if t126 = true then (some 0) else (if a0_5 = 0 then (some 0) else (some 2))) = some r := H
                            have A107 := Aside0.mk A1070
                            clear A1070
                            by_cases c108 : t126 = true
                            · subst c108
                              have H1 : (some 0) = some r := by rw [if_pos rfl] at H; exact H
                              clear H
                              have H := H1
                              clear H1
                              obtain rfl := Option.some.inj H
                              have hcz109_0 : wc.cell? ⟨gb116, 0, none⟩ = some (.int .u64 a0_0) := (blk_cell BK116.out 0).trans rfl
                              have hcz109_1 : wc.cell? ⟨gb116, 1, none⟩ = some (.int .i64 a0_1) := (blk_cell BK116.out 1).trans rfl
                              have hcz109_2 : wc.cell? ⟨gb116, 2, none⟩ = some (.string a0_2) := (blk_cell BK116.out 2).trans rfl
                              have hcz109_3 : wc.cell? ⟨gb116, 3, none⟩ = some (.int .u64 a0_3) := (blk_cell BK116.out 3).trans rfl
                              have hcz109_4 : wc.cell? ⟨gb116, 4, none⟩ = some (.int .u64 a0_4) := (blk_cell BK116.out 4).trans rfl
                              have hcz109_5 : wc.cell? ⟨gb116, 5, none⟩ = some (.int .u64 a0_5) := (blk_cell BK116.out 5).trans rfl
                              have hfz109_0 := blk_frozen BK116.out 0
                              have hfz109_1 := blk_frozen BK116.out 1
                              have hfz109_2 := blk_frozen BK116.out 2
                              have hfz109_3 := blk_frozen BK116.out 3
                              have hfz109_4 := blk_frozen BK116.out 4
                              have hfz109_5 := blk_frozen BK116.out 5
                              go_wp2_with (first | ((with_reducible refine gate_callee (f := 47) rfl ?_); refine goesL_ (some 55) rfl rfl Try.func47 (by kernel_rfl) rfl #[.int .i64 a0_1, .int .u8 108] rfl (by (try simp only [List.map_toArray, List.map_cons, List.map_nil]); first | done | rfl | (simp only [List.length_drop, List.length_take]; rfl)) ?_; (with_reducible refine (taximeterref11_Has.calls kj35 a0_1 108 false _ A48.out).mono ?_); rintro e w110 ⟨rfl, hb⟩; refine ⟨_, rfl, ?_⟩; have n0_ := Aside0.mk (blk_below (g := gb116) (o := .cells #[.int .u64 a0_0, .int .i64 a0_1, .string a0_2, .int .u64 a0_3, .int .u64 a0_4, .int .u64 a0_5] 37 (0, 0)) (by (with_reducible repeat (first | refine blk_drewN ?_ _ | refine blk_drew ?_ | refine blk_alloc ?_ _)); exact BK116.out) hb); have n1_ := Aside0.mk (below_step (by repeat (first | (with_reducible first | exact HB.out | apply below_alloc | apply pw_below_drewN | apply below_drew1 | refine below_set ?_ GE116.out) | exact HB.out)) hb); clear BK116; clear HB; have BK116 := n0_; have HB := n1_; clear n0_ n1_; (try clear hb); (try clear hb2); (try clear hk); (try clear hi); have hcz111_0 : w110.cell? ⟨gb116, 0, none⟩ = some (.int .u64 a0_0) := (blk_cell BK116.out 0).trans rfl; have hcz111_1 : w110.cell? ⟨gb116, 1, none⟩ = some (.int .i64 a0_1) := (blk_cell BK116.out 1).trans rfl; have hcz111_2 : w110.cell? ⟨gb116, 2, none⟩ = some (.string a0_2) := (blk_cell BK116.out 2).trans rfl; have hcz111_3 : w110.cell? ⟨gb116, 3, none⟩ = some (.int .u64 a0_3) := (blk_cell BK116.out 3).trans rfl; have hcz111_4 : w110.cell? ⟨gb116, 4, none⟩ = some (.int .u64 a0_4) := (blk_cell BK116.out 4).trans rfl; have hcz111_5 : w110.cell? ⟨gb116, 5, none⟩ = some (.int .u64 a0_5) := (blk_cell BK116.out 5).trans rfl; have hfz111_0 := blk_frozen BK116.out 0; have hfz111_1 := blk_frozen BK116.out 1; have hfz111_2 := blk_frozen BK116.out 2; have hfz111_3 := blk_frozen BK116.out 3; have hfz111_4 := blk_frozen BK116.out 4; have hfz111_5 := blk_frozen BK116.out 5) | (go_at_call 47; (with_reducible refine (taximeterref11_Has.calls kj35 a0_1 110 true _ A105.out).mono ?_); rintro e w112 ⟨rfl, hb⟩; have n0_ := Aside0.mk (blk_below (g := gb116) (o := .cells #[.int .u64 a0_0, .int .i64 a0_1, .string a0_2, .int .u64 a0_3, .int .u64 a0_4, .int .u64 a0_5] 37 (0, 0)) (by (with_reducible repeat (first | refine blk_drewN ?_ _ | refine blk_drew ?_ | refine blk_alloc ?_ _)); exact BK116.out) hb); have n1_ := Aside0.mk (below_step (by repeat (first | (with_reducible first | exact HB.out | apply below_alloc | apply pw_below_drewN | apply below_drew1 | refine below_set ?_ GE116.out) | exact HB.out)) hb); clear BK116; clear HB; have BK116 := n0_; have HB := n1_; clear n0_ n1_; (try clear hb); (try clear hb2); (try clear hk); (try clear hi); have hcz113_0 : w112.cell? ⟨gb116, 0, none⟩ = some (.int .u64 a0_0) := (blk_cell BK116.out 0).trans rfl; have hcz113_1 : w112.cell? ⟨gb116, 1, none⟩ = some (.int .i64 a0_1) := (blk_cell BK116.out 1).trans rfl; have hcz113_2 : w112.cell? ⟨gb116, 2, none⟩ = some (.string a0_2) := (blk_cell BK116.out 2).trans rfl; have hcz113_3 : w112.cell? ⟨gb116, 3, none⟩ = some (.int .u64 a0_3) := (blk_cell BK116.out 3).trans rfl; have hcz113_4 : w112.cell? ⟨gb116, 4, none⟩ = some (.int .u64 a0_4) := (blk_cell BK116.out 4).trans rfl; have hcz113_5 : w112.cell? ⟨gb116, 5, none⟩ = some (.int .u64 a0_5) := (blk_cell BK116.out 5).trans rfl; have hfz113_0 := blk_frozen BK116.out 0; have hfz113_1 := blk_frozen BK116.out 1; have hfz113_2 := blk_frozen BK116.out 2; have hfz113_3 := blk_frozen BK116.out 3; have hfz113_4 := blk_frozen BK116.out 4; have hfz113_5 := blk_frozen BK116.out 5) | (go_at_call 47; (with_reducible refine (taximeterref11_Has.calls kj35 a0_1 98 true _ A107.out).mono ?_); rintro e w114 ⟨rfl, hb⟩; have n0_ := Aside0.mk (blk_below (g := gb116) (o := .cells #[.int .u64 a0_0, .int .i64 a0_1, .string a0_2, .int .u64 a0_3, .int .u64 a0_4, .int .u64 a0_5] 37 (0, 0)) (by (with_reducible repeat (first | refine blk_drewN ?_ _ | refine blk_drew ?_ | refine blk_alloc ?_ _)); exact BK116.out) hb); have n1_ := Aside0.mk (below_step (by repeat (first | (with_reducible first | exact HB.out | apply below_alloc | apply pw_below_drewN | apply below_drew1 | refine below_set ?_ GE116.out) | exact HB.out)) hb); clear BK116; clear HB; have BK116 := n0_; have HB := n1_; clear n0_ n1_; (try clear hb); (try clear hb2); (try clear hk); (try clear hi)))
                              go_ret
                              exact ⟨by first | rfl | (simp [errW_none, errW_some] <;> rfl) | (simp [*, errW_none, errW_some] <;> rfl), by repeat (first | (with_reducible first | exact HB.out | apply below_alloc | apply pw_below_drewN | apply below_drew1 | refine below_set ?_ GE116.out) | exact HB.out)⟩
                            · replace c108 := Bool.eq_false_iff.mpr c108
                              subst c108
                              have H1 : (if a0_5 = 0 then (some 0) else (some 2)) = some r := by rw [if_neg (show ¬ (false = true) by decide)] at H; exact H
                              clear H
                              have H := H1
                              clear H1
                              by_cases c115 : a0_5 = 0
                              · rw [if_pos c115] at H
                                have c115b0 : (a0_5 == 0) = true := beq_iff_eq.mpr c115
                                have c115b1 : (a0_5 != 0) = false := bne_eq_false_iff_eq.mpr c115
                                clear c115
                                obtain rfl := Option.some.inj H
                                have hcz116_0 : wc.cell? ⟨gb116, 0, none⟩ = some (.int .u64 a0_0) := (blk_cell BK116.out 0).trans rfl
                                have hcz116_1 : wc.cell? ⟨gb116, 1, none⟩ = some (.int .i64 a0_1) := (blk_cell BK116.out 1).trans rfl
                                have hcz116_2 : wc.cell? ⟨gb116, 2, none⟩ = some (.string a0_2) := (blk_cell BK116.out 2).trans rfl
                                have hcz116_3 : wc.cell? ⟨gb116, 3, none⟩ = some (.int .u64 a0_3) := (blk_cell BK116.out 3).trans rfl
                                have hcz116_4 : wc.cell? ⟨gb116, 4, none⟩ = some (.int .u64 a0_4) := (blk_cell BK116.out 4).trans rfl
                                have hcz116_5 : wc.cell? ⟨gb116, 5, none⟩ = some (.int .u64 a0_5) := (blk_cell BK116.out 5).trans rfl
                                have hfz116_0 := blk_frozen BK116.out 0
                                have hfz116_1 := blk_frozen BK116.out 1
                                have hfz116_2 := blk_frozen BK116.out 2
                                have hfz116_3 := blk_frozen BK116.out 3
                                have hfz116_4 := blk_frozen BK116.out 4
                                have hfz116_5 := blk_frozen BK116.out 5
                                go_wp2_with (first | ((with_reducible refine gate_callee (f := 47) rfl ?_); refine goesL_ (some 55) rfl rfl Try.func47 (by kernel_rfl) rfl #[.int .i64 a0_1, .int .u8 108] rfl (by (try simp only [List.map_toArray, List.map_cons, List.map_nil]); first | done | rfl | (simp only [List.length_drop, List.length_take]; rfl)) ?_; (with_reducible refine (taximeterref11_Has.calls kj35 a0_1 108 false _ A48.out).mono ?_); rintro e w117 ⟨rfl, hb⟩; refine ⟨_, rfl, ?_⟩; have n0_ := Aside0.mk (blk_below (g := gb116) (o := .cells #[.int .u64 a0_0, .int .i64 a0_1, .string a0_2, .int .u64 a0_3, .int .u64 a0_4, .int .u64 a0_5] 37 (0, 0)) (by (with_reducible repeat (first | refine blk_drewN ?_ _ | refine blk_drew ?_ | refine blk_alloc ?_ _)); exact BK116.out) hb); have n1_ := Aside0.mk (below_step (by repeat (first | (with_reducible first | exact HB.out | apply below_alloc | apply pw_below_drewN | apply below_drew1 | refine below_set ?_ GE116.out) | exact HB.out)) hb); clear BK116; clear HB; have BK116 := n0_; have HB := n1_; clear n0_ n1_; (try clear hb); (try clear hb2); (try clear hk); (try clear hi); have hcz118_0 : w117.cell? ⟨gb116, 0, none⟩ = some (.int .u64 a0_0) := (blk_cell BK116.out 0).trans rfl; have hcz118_1 : w117.cell? ⟨gb116, 1, none⟩ = some (.int .i64 a0_1) := (blk_cell BK116.out 1).trans rfl; have hcz118_2 : w117.cell? ⟨gb116, 2, none⟩ = some (.string a0_2) := (blk_cell BK116.out 2).trans rfl; have hcz118_3 : w117.cell? ⟨gb116, 3, none⟩ = some (.int .u64 a0_3) := (blk_cell BK116.out 3).trans rfl; have hcz118_4 : w117.cell? ⟨gb116, 4, none⟩ = some (.int .u64 a0_4) := (blk_cell BK116.out 4).trans rfl; have hcz118_5 : w117.cell? ⟨gb116, 5, none⟩ = some (.int .u64 a0_5) := (blk_cell BK116.out 5).trans rfl; have hfz118_0 := blk_frozen BK116.out 0; have hfz118_1 := blk_frozen BK116.out 1; have hfz118_2 := blk_frozen BK116.out 2; have hfz118_3 := blk_frozen BK116.out 3; have hfz118_4 := blk_frozen BK116.out 4; have hfz118_5 := blk_frozen BK116.out 5) | (go_at_call 47; (with_reducible refine (taximeterref11_Has.calls kj35 a0_1 110 true _ A105.out).mono ?_); rintro e w119 ⟨rfl, hb⟩; have n0_ := Aside0.mk (blk_below (g := gb116) (o := .cells #[.int .u64 a0_0, .int .i64 a0_1, .string a0_2, .int .u64 a0_3, .int .u64 a0_4, .int .u64 a0_5] 37 (0, 0)) (by (with_reducible repeat (first | refine blk_drewN ?_ _ | refine blk_drew ?_ | refine blk_alloc ?_ _)); exact BK116.out) hb); have n1_ := Aside0.mk (below_step (by repeat (first | (with_reducible first | exact HB.out | apply below_alloc | apply pw_below_drewN | apply below_drew1 | refine below_set ?_ GE116.out) | exact HB.out)) hb); clear BK116; clear HB; have BK116 := n0_; have HB := n1_; clear n0_ n1_; (try clear hb); (try clear hb2); (try clear hk); (try clear hi); have hcz120_0 : w119.cell? ⟨gb116, 0, none⟩ = some (.int .u64 a0_0) := (blk_cell BK116.out 0).trans rfl; have hcz120_1 : w119.cell? ⟨gb116, 1, none⟩ = some (.int .i64 a0_1) := (blk_cell BK116.out 1).trans rfl; have hcz120_2 : w119.cell? ⟨gb116, 2, none⟩ = some (.string a0_2) := (blk_cell BK116.out 2).trans rfl; have hcz120_3 : w119.cell? ⟨gb116, 3, none⟩ = some (.int .u64 a0_3) := (blk_cell BK116.out 3).trans rfl; have hcz120_4 : w119.cell? ⟨gb116, 4, none⟩ = some (.int .u64 a0_4) := (blk_cell BK116.out 4).trans rfl; have hcz120_5 : w119.cell? ⟨gb116, 5, none⟩ = some (.int .u64 a0_5) := (blk_cell BK116.out 5).trans rfl; have hfz120_0 := blk_frozen BK116.out 0; have hfz120_1 := blk_frozen BK116.out 1; have hfz120_2 := blk_frozen BK116.out 2; have hfz120_3 := blk_frozen BK116.out 3; have hfz120_4 := blk_frozen BK116.out 4; have hfz120_5 := blk_frozen BK116.out 5) | (go_at_call 47; (with_reducible refine (taximeterref11_Has.calls kj35 a0_1 98 false _ A107.out).mono ?_); rintro e w121 ⟨rfl, hb⟩; have n0_ := Aside0.mk (blk_below (g := gb116) (o := .cells #[.int .u64 a0_0, .int .i64 a0_1, .string a0_2, .int .u64 a0_3, .int .u64 a0_4, .int .u64 a0_5] 37 (0, 0)) (by (with_reducible repeat (first | refine blk_drewN ?_ _ | refine blk_drew ?_ | refine blk_alloc ?_ _)); exact BK116.out) hb); have n1_ := Aside0.mk (below_step (by repeat (first | (with_reducible first | exact HB.out | apply below_alloc | apply pw_below_drewN | apply below_drew1 | refine below_set ?_ GE116.out) | exact HB.out)) hb); clear BK116; clear HB; have BK116 := n0_; have HB := n1_; clear n0_ n1_; (try clear hb); (try clear hb2); (try clear hk); (try clear hi); have hcz122_0 : w121.cell? ⟨gb116, 0, none⟩ = some (.int .u64 a0_0) := (blk_cell BK116.out 0).trans rfl; have hcz122_1 : w121.cell? ⟨gb116, 1, none⟩ = some (.int .i64 a0_1) := (blk_cell BK116.out 1).trans rfl; have hcz122_2 : w121.cell? ⟨gb116, 2, none⟩ = some (.string a0_2) := (blk_cell BK116.out 2).trans rfl; have hcz122_3 : w121.cell? ⟨gb116, 3, none⟩ = some (.int .u64 a0_3) := (blk_cell BK116.out 3).trans rfl; have hcz122_4 : w121.cell? ⟨gb116, 4, none⟩ = some (.int .u64 a0_4) := (blk_cell BK116.out 4).trans rfl; have hcz122_5 : w121.cell? ⟨gb116, 5, none⟩ = some (.int .u64 a0_5) := (blk_cell BK116.out 5).trans rfl; have hfz122_0 := blk_frozen BK116.out 0; have hfz122_1 := blk_frozen BK116.out 1; have hfz122_2 := blk_frozen BK116.out 2; have hfz122_3 := blk_frozen BK116.out 3; have hfz122_4 := blk_frozen BK116.out 4; have hfz122_5 := blk_frozen BK116.out 5))
                                go_ret
                                exact ⟨by first | rfl | (simp [errW_none, errW_some] <;> rfl) | (simp [*, errW_none, errW_some] <;> rfl), by repeat (first | (with_reducible first | exact HB.out | apply below_alloc | apply pw_below_drewN | apply below_drew1 | refine below_set ?_ GE116.out) | exact HB.out)⟩
                              · rw [if_neg c115] at H
                                have c115b0 : (a0_5 == 0) = false := beq_eq_false_iff_ne.mpr c115
                                have c115b1 : (a0_5 != 0) = true := bne_iff_ne.mpr c115
                                obtain rfl := Option.some.inj H
                                have hcz123_0 : wc.cell? ⟨gb116, 0, none⟩ = some (.int .u64 a0_0) := (blk_cell BK116.out 0).trans rfl
                                have hcz123_1 : wc.cell? ⟨gb116, 1, none⟩ = some (.int .i64 a0_1) := (blk_cell BK116.out 1).trans rfl
                                have hcz123_2 : wc.cell? ⟨gb116, 2, none⟩ = some (.string a0_2) := (blk_cell BK116.out 2).trans rfl
                                have hcz123_3 : wc.cell? ⟨gb116, 3, none⟩ = some (.int .u64 a0_3) := (blk_cell BK116.out 3).trans rfl
                                have hcz123_4 : wc.cell? ⟨gb116, 4, none⟩ = some (.int .u64 a0_4) := (blk_cell BK116.out 4).trans rfl
                                have hcz123_5 : wc.cell? ⟨gb116, 5, none⟩ = some (.int .u64 a0_5) := (blk_cell BK116.out 5).trans rfl
                                have hfz123_0 := blk_frozen BK116.out 0
                                have hfz123_1 := blk_frozen BK116.out 1
                                have hfz123_2 := blk_frozen BK116.out 2
                                have hfz123_3 := blk_frozen BK116.out 3
                                have hfz123_4 := blk_frozen BK116.out 4
                                have hfz123_5 := blk_frozen BK116.out 5
                                go_wp2_with (first | ((with_reducible refine gate_callee (f := 47) rfl ?_); refine goesL_ (some 55) rfl rfl Try.func47 (by kernel_rfl) rfl #[.int .i64 a0_1, .int .u8 108] rfl (by (try simp only [List.map_toArray, List.map_cons, List.map_nil]); first | done | rfl | (simp only [List.length_drop, List.length_take]; rfl)) ?_; (with_reducible refine (taximeterref11_Has.calls kj35 a0_1 108 false _ A48.out).mono ?_); rintro e w124 ⟨rfl, hb⟩; refine ⟨_, rfl, ?_⟩; have n0_ := Aside0.mk (blk_below (g := gb116) (o := .cells #[.int .u64 a0_0, .int .i64 a0_1, .string a0_2, .int .u64 a0_3, .int .u64 a0_4, .int .u64 a0_5] 37 (0, 0)) (by (with_reducible repeat (first | refine blk_drewN ?_ _ | refine blk_drew ?_ | refine blk_alloc ?_ _)); exact BK116.out) hb); have n1_ := Aside0.mk (below_step (by repeat (first | (with_reducible first | exact HB.out | apply below_alloc | apply pw_below_drewN | apply below_drew1 | refine below_set ?_ GE116.out) | exact HB.out)) hb); clear BK116; clear HB; have BK116 := n0_; have HB := n1_; clear n0_ n1_; (try clear hb); (try clear hb2); (try clear hk); (try clear hi); have hcz125_0 : w124.cell? ⟨gb116, 0, none⟩ = some (.int .u64 a0_0) := (blk_cell BK116.out 0).trans rfl; have hcz125_1 : w124.cell? ⟨gb116, 1, none⟩ = some (.int .i64 a0_1) := (blk_cell BK116.out 1).trans rfl; have hcz125_2 : w124.cell? ⟨gb116, 2, none⟩ = some (.string a0_2) := (blk_cell BK116.out 2).trans rfl; have hcz125_3 : w124.cell? ⟨gb116, 3, none⟩ = some (.int .u64 a0_3) := (blk_cell BK116.out 3).trans rfl; have hcz125_4 : w124.cell? ⟨gb116, 4, none⟩ = some (.int .u64 a0_4) := (blk_cell BK116.out 4).trans rfl; have hcz125_5 : w124.cell? ⟨gb116, 5, none⟩ = some (.int .u64 a0_5) := (blk_cell BK116.out 5).trans rfl; have hfz125_0 := blk_frozen BK116.out 0; have hfz125_1 := blk_frozen BK116.out 1; have hfz125_2 := blk_frozen BK116.out 2; have hfz125_3 := blk_frozen BK116.out 3; have hfz125_4 := blk_frozen BK116.out 4; have hfz125_5 := blk_frozen BK116.out 5) | (go_at_call 47; (with_reducible refine (taximeterref11_Has.calls kj35 a0_1 110 true _ A105.out).mono ?_); rintro e w126 ⟨rfl, hb⟩; have n0_ := Aside0.mk (blk_below (g := gb116) (o := .cells #[.int .u64 a0_0, .int .i64 a0_1, .string a0_2, .int .u64 a0_3, .int .u64 a0_4, .int .u64 a0_5] 37 (0, 0)) (by (with_reducible repeat (first | refine blk_drewN ?_ _ | refine blk_drew ?_ | refine blk_alloc ?_ _)); exact BK116.out) hb); have n1_ := Aside0.mk (below_step (by repeat (first | (with_reducible first | exact HB.out | apply below_alloc | apply pw_below_drewN | apply below_drew1 | refine below_set ?_ GE116.out) | exact HB.out)) hb); clear BK116; clear HB; have BK116 := n0_; have HB := n1_; clear n0_ n1_; (try clear hb); (try clear hb2); (try clear hk); (try clear hi); have hcz127_0 : w126.cell? ⟨gb116, 0, none⟩ = some (.int .u64 a0_0) := (blk_cell BK116.out 0).trans rfl; have hcz127_1 : w126.cell? ⟨gb116, 1, none⟩ = some (.int .i64 a0_1) := (blk_cell BK116.out 1).trans rfl; have hcz127_2 : w126.cell? ⟨gb116, 2, none⟩ = some (.string a0_2) := (blk_cell BK116.out 2).trans rfl; have hcz127_3 : w126.cell? ⟨gb116, 3, none⟩ = some (.int .u64 a0_3) := (blk_cell BK116.out 3).trans rfl; have hcz127_4 : w126.cell? ⟨gb116, 4, none⟩ = some (.int .u64 a0_4) := (blk_cell BK116.out 4).trans rfl; have hcz127_5 : w126.cell? ⟨gb116, 5, none⟩ = some (.int .u64 a0_5) := (blk_cell BK116.out 5).trans rfl; have hfz127_0 := blk_frozen BK116.out 0; have hfz127_1 := blk_frozen BK116.out 1; have hfz127_2 := blk_frozen BK116.out 2; have hfz127_3 := blk_frozen BK116.out 3; have hfz127_4 := blk_frozen BK116.out 4; have hfz127_5 := blk_frozen BK116.out 5) | (go_at_call 47; (with_reducible refine (taximeterref11_Has.calls kj35 a0_1 98 false _ A107.out).mono ?_); rintro e w128 ⟨rfl, hb⟩; have n0_ := Aside0.mk (blk_below (g := gb116) (o := .cells #[.int .u64 a0_0, .int .i64 a0_1, .string a0_2, .int .u64 a0_3, .int .u64 a0_4, .int .u64 a0_5] 37 (0, 0)) (by (with_reducible repeat (first | refine blk_drewN ?_ _ | refine blk_drew ?_ | refine blk_alloc ?_ _)); exact BK116.out) hb); have n1_ := Aside0.mk (below_step (by repeat (first | (with_reducible first | exact HB.out | apply below_alloc | apply pw_below_drewN | apply below_drew1 | refine below_set ?_ GE116.out) | exact HB.out)) hb); clear BK116; clear HB; have BK116 := n0_; have HB := n1_; clear n0_ n1_; (try clear hb); (try clear hb2); (try clear hk); (try clear hi); have hcz129_0 : w128.cell? ⟨gb116, 0, none⟩ = some (.int .u64 a0_0) := (blk_cell BK116.out 0).trans rfl; have hcz129_1 : w128.cell? ⟨gb116, 1, none⟩ = some (.int .i64 a0_1) := (blk_cell BK116.out 1).trans rfl; have hcz129_2 : w128.cell? ⟨gb116, 2, none⟩ = some (.string a0_2) := (blk_cell BK116.out 2).trans rfl; have hcz129_3 : w128.cell? ⟨gb116, 3, none⟩ = some (.int .u64 a0_3) := (blk_cell BK116.out 3).trans rfl; have hcz129_4 : w128.cell? ⟨gb116, 4, none⟩ = some (.int .u64 a0_4) := (blk_cell BK116.out 4).trans rfl; have hcz129_5 : w128.cell? ⟨gb116, 5, none⟩ = some (.int .u64 a0_5) := (blk_cell BK116.out 5).trans rfl; have hfz129_0 := blk_frozen BK116.out 0; have hfz129_1 := blk_frozen BK116.out 1; have hfz129_2 := blk_frozen BK116.out 2; have hfz129_3 := blk_frozen BK116.out 3; have hfz129_4 := blk_frozen BK116.out 4; have hfz129_5 := blk_frozen BK116.out 5))
                                go_ret
                                exact ⟨by first | rfl | (simp [errW_none, errW_some] <;> rfl) | (simp [*, errW_none, errW_some] <;> rfl), by repeat (first | (with_reducible first | exact HB.out | apply below_alloc | apply pw_below_drewN | apply below_drew1 | refine below_set ?_ GE116.out) | exact HB.out)⟩
                          · replace c106 := Bool.eq_false_iff.mpr c106
                            subst c106
                            have H1 : (if a0_4 = 0 then ((taximeterref11_Has.f kj35 a0_1 98).bind fun t127 => (if t127 = true then (some 0) else (if a0_5 = 0 then (some 0) else (some 2)))) else (some 2)) = some r := by rw [if_neg (show ¬ (false = true) by decide)] at H; exact H
                            clear H
                            have H := H1
                            clear H1
                            by_cases c130 : a0_4 = 0
                            · rw [if_pos c130] at H
                              have c130b0 : (a0_4 == 0) = true := beq_iff_eq.mpr c130
                              have c130b1 : (a0_4 != 0) = false := bne_eq_false_iff_eq.mpr c130
                              clear c130
                              replace H := Option.bind_eq_some_iff.mp H
                              obtain ⟨t127, A1310, H⟩ := H
                              replace H : (if t127 = true then (some 0) else (if a0_5 = 0 then (some 0) else (some 2))) = some r := H
                              have A131 := Aside0.mk A1310
                              clear A1310
                              by_cases c132 : t127 = true
                              · subst c132
                                have H1 : (some 0) = some r := by rw [if_pos rfl] at H; exact H
                                clear H
                                have H := H1
                                clear H1
                                obtain rfl := Option.some.inj H
                                have hcz133_0 : wc.cell? ⟨gb116, 0, none⟩ = some (.int .u64 a0_0) := (blk_cell BK116.out 0).trans rfl
                                have hcz133_1 : wc.cell? ⟨gb116, 1, none⟩ = some (.int .i64 a0_1) := (blk_cell BK116.out 1).trans rfl
                                have hcz133_2 : wc.cell? ⟨gb116, 2, none⟩ = some (.string a0_2) := (blk_cell BK116.out 2).trans rfl
                                have hcz133_3 : wc.cell? ⟨gb116, 3, none⟩ = some (.int .u64 a0_3) := (blk_cell BK116.out 3).trans rfl
                                have hcz133_4 : wc.cell? ⟨gb116, 4, none⟩ = some (.int .u64 a0_4) := (blk_cell BK116.out 4).trans rfl
                                have hcz133_5 : wc.cell? ⟨gb116, 5, none⟩ = some (.int .u64 a0_5) := (blk_cell BK116.out 5).trans rfl
                                have hfz133_0 := blk_frozen BK116.out 0
                                have hfz133_1 := blk_frozen BK116.out 1
                                have hfz133_2 := blk_frozen BK116.out 2
                                have hfz133_3 := blk_frozen BK116.out 3
                                have hfz133_4 := blk_frozen BK116.out 4
                                have hfz133_5 := blk_frozen BK116.out 5
                                go_wp2_with (first | ((with_reducible refine gate_callee (f := 47) rfl ?_); refine goesL_ (some 55) rfl rfl Try.func47 (by kernel_rfl) rfl #[.int .i64 a0_1, .int .u8 108] rfl (by (try simp only [List.map_toArray, List.map_cons, List.map_nil]); first | done | rfl | (simp only [List.length_drop, List.length_take]; rfl)) ?_; (with_reducible refine (taximeterref11_Has.calls kj35 a0_1 108 false _ A48.out).mono ?_); rintro e w134 ⟨rfl, hb⟩; refine ⟨_, rfl, ?_⟩; have n0_ := Aside0.mk (blk_below (g := gb116) (o := .cells #[.int .u64 a0_0, .int .i64 a0_1, .string a0_2, .int .u64 a0_3, .int .u64 a0_4, .int .u64 a0_5] 37 (0, 0)) (by (with_reducible repeat (first | refine blk_drewN ?_ _ | refine blk_drew ?_ | refine blk_alloc ?_ _)); exact BK116.out) hb); have n1_ := Aside0.mk (below_step (by repeat (first | (with_reducible first | exact HB.out | apply below_alloc | apply pw_below_drewN | apply below_drew1 | refine below_set ?_ GE116.out) | exact HB.out)) hb); clear BK116; clear HB; have BK116 := n0_; have HB := n1_; clear n0_ n1_; (try clear hb); (try clear hb2); (try clear hk); (try clear hi); have hcz135_0 : w134.cell? ⟨gb116, 0, none⟩ = some (.int .u64 a0_0) := (blk_cell BK116.out 0).trans rfl; have hcz135_1 : w134.cell? ⟨gb116, 1, none⟩ = some (.int .i64 a0_1) := (blk_cell BK116.out 1).trans rfl; have hcz135_2 : w134.cell? ⟨gb116, 2, none⟩ = some (.string a0_2) := (blk_cell BK116.out 2).trans rfl; have hcz135_3 : w134.cell? ⟨gb116, 3, none⟩ = some (.int .u64 a0_3) := (blk_cell BK116.out 3).trans rfl; have hcz135_4 : w134.cell? ⟨gb116, 4, none⟩ = some (.int .u64 a0_4) := (blk_cell BK116.out 4).trans rfl; have hcz135_5 : w134.cell? ⟨gb116, 5, none⟩ = some (.int .u64 a0_5) := (blk_cell BK116.out 5).trans rfl; have hfz135_0 := blk_frozen BK116.out 0; have hfz135_1 := blk_frozen BK116.out 1; have hfz135_2 := blk_frozen BK116.out 2; have hfz135_3 := blk_frozen BK116.out 3; have hfz135_4 := blk_frozen BK116.out 4; have hfz135_5 := blk_frozen BK116.out 5) | (go_at_call 47; (with_reducible refine (taximeterref11_Has.calls kj35 a0_1 110 false _ A105.out).mono ?_); rintro e w136 ⟨rfl, hb⟩; have n0_ := Aside0.mk (blk_below (g := gb116) (o := .cells #[.int .u64 a0_0, .int .i64 a0_1, .string a0_2, .int .u64 a0_3, .int .u64 a0_4, .int .u64 a0_5] 37 (0, 0)) (by (with_reducible repeat (first | refine blk_drewN ?_ _ | refine blk_drew ?_ | refine blk_alloc ?_ _)); exact BK116.out) hb); have n1_ := Aside0.mk (below_step (by repeat (first | (with_reducible first | exact HB.out | apply below_alloc | apply pw_below_drewN | apply below_drew1 | refine below_set ?_ GE116.out) | exact HB.out)) hb); clear BK116; clear HB; have BK116 := n0_; have HB := n1_; clear n0_ n1_; (try clear hb); (try clear hb2); (try clear hk); (try clear hi); have hcz137_0 : w136.cell? ⟨gb116, 0, none⟩ = some (.int .u64 a0_0) := (blk_cell BK116.out 0).trans rfl; have hcz137_1 : w136.cell? ⟨gb116, 1, none⟩ = some (.int .i64 a0_1) := (blk_cell BK116.out 1).trans rfl; have hcz137_2 : w136.cell? ⟨gb116, 2, none⟩ = some (.string a0_2) := (blk_cell BK116.out 2).trans rfl; have hcz137_3 : w136.cell? ⟨gb116, 3, none⟩ = some (.int .u64 a0_3) := (blk_cell BK116.out 3).trans rfl; have hcz137_4 : w136.cell? ⟨gb116, 4, none⟩ = some (.int .u64 a0_4) := (blk_cell BK116.out 4).trans rfl; have hcz137_5 : w136.cell? ⟨gb116, 5, none⟩ = some (.int .u64 a0_5) := (blk_cell BK116.out 5).trans rfl; have hfz137_0 := blk_frozen BK116.out 0; have hfz137_1 := blk_frozen BK116.out 1; have hfz137_2 := blk_frozen BK116.out 2; have hfz137_3 := blk_frozen BK116.out 3; have hfz137_4 := blk_frozen BK116.out 4; have hfz137_5 := blk_frozen BK116.out 5) | (go_at_call 47; (with_reducible refine (taximeterref11_Has.calls kj35 a0_1 98 true _ A131.out).mono ?_); rintro e w138 ⟨rfl, hb⟩; have n0_ := Aside0.mk (blk_below (g := gb116) (o := .cells #[.int .u64 a0_0, .int .i64 a0_1, .string a0_2, .int .u64 a0_3, .int .u64 a0_4, .int .u64 a0_5] 37 (0, 0)) (by (with_reducible repeat (first | refine blk_drewN ?_ _ | refine blk_drew ?_ | refine blk_alloc ?_ _)); exact BK116.out) hb); have n1_ := Aside0.mk (below_step (by repeat (first | (with_reducible first | exact HB.out | apply below_alloc | apply pw_below_drewN | apply below_drew1 | refine below_set ?_ GE116.out) | exact HB.out)) hb); clear BK116; clear HB; have BK116 := n0_; have HB := n1_; clear n0_ n1_; (try clear hb); (try clear hb2); (try clear hk); (try clear hi)))
                                go_ret
                                exact ⟨by first | rfl | (simp [errW_none, errW_some] <;> rfl) | (simp [*, errW_none, errW_some] <;> rfl), by repeat (first | (with_reducible first | exact HB.out | apply below_alloc | apply pw_below_drewN | apply below_drew1 | refine below_set ?_ GE116.out) | exact HB.out)⟩
                              · replace c132 := Bool.eq_false_iff.mpr c132
                                subst c132
                                have H1 : (if a0_5 = 0 then (some 0) else (some 2)) = some r := by rw [if_neg (show ¬ (false = true) by decide)] at H; exact H
                                clear H
                                have H := H1
                                clear H1
                                by_cases c139 : a0_5 = 0
                                · rw [if_pos c139] at H
                                  have c139b0 : (a0_5 == 0) = true := beq_iff_eq.mpr c139
                                  have c139b1 : (a0_5 != 0) = false := bne_eq_false_iff_eq.mpr c139
                                  clear c139
                                  obtain rfl := Option.some.inj H
                                  have hcz140_0 : wc.cell? ⟨gb116, 0, none⟩ = some (.int .u64 a0_0) := (blk_cell BK116.out 0).trans rfl
                                  have hcz140_1 : wc.cell? ⟨gb116, 1, none⟩ = some (.int .i64 a0_1) := (blk_cell BK116.out 1).trans rfl
                                  have hcz140_2 : wc.cell? ⟨gb116, 2, none⟩ = some (.string a0_2) := (blk_cell BK116.out 2).trans rfl
                                  have hcz140_3 : wc.cell? ⟨gb116, 3, none⟩ = some (.int .u64 a0_3) := (blk_cell BK116.out 3).trans rfl
                                  have hcz140_4 : wc.cell? ⟨gb116, 4, none⟩ = some (.int .u64 a0_4) := (blk_cell BK116.out 4).trans rfl
                                  have hcz140_5 : wc.cell? ⟨gb116, 5, none⟩ = some (.int .u64 a0_5) := (blk_cell BK116.out 5).trans rfl
                                  have hfz140_0 := blk_frozen BK116.out 0
                                  have hfz140_1 := blk_frozen BK116.out 1
                                  have hfz140_2 := blk_frozen BK116.out 2
                                  have hfz140_3 := blk_frozen BK116.out 3
                                  have hfz140_4 := blk_frozen BK116.out 4
                                  have hfz140_5 := blk_frozen BK116.out 5
                                  go_wp2_with (first | ((with_reducible refine gate_callee (f := 47) rfl ?_); refine goesL_ (some 55) rfl rfl Try.func47 (by kernel_rfl) rfl #[.int .i64 a0_1, .int .u8 108] rfl (by (try simp only [List.map_toArray, List.map_cons, List.map_nil]); first | done | rfl | (simp only [List.length_drop, List.length_take]; rfl)) ?_; (with_reducible refine (taximeterref11_Has.calls kj35 a0_1 108 false _ A48.out).mono ?_); rintro e w141 ⟨rfl, hb⟩; refine ⟨_, rfl, ?_⟩; have n0_ := Aside0.mk (blk_below (g := gb116) (o := .cells #[.int .u64 a0_0, .int .i64 a0_1, .string a0_2, .int .u64 a0_3, .int .u64 a0_4, .int .u64 a0_5] 37 (0, 0)) (by (with_reducible repeat (first | refine blk_drewN ?_ _ | refine blk_drew ?_ | refine blk_alloc ?_ _)); exact BK116.out) hb); have n1_ := Aside0.mk (below_step (by repeat (first | (with_reducible first | exact HB.out | apply below_alloc | apply pw_below_drewN | apply below_drew1 | refine below_set ?_ GE116.out) | exact HB.out)) hb); clear BK116; clear HB; have BK116 := n0_; have HB := n1_; clear n0_ n1_; (try clear hb); (try clear hb2); (try clear hk); (try clear hi); have hcz142_0 : w141.cell? ⟨gb116, 0, none⟩ = some (.int .u64 a0_0) := (blk_cell BK116.out 0).trans rfl; have hcz142_1 : w141.cell? ⟨gb116, 1, none⟩ = some (.int .i64 a0_1) := (blk_cell BK116.out 1).trans rfl; have hcz142_2 : w141.cell? ⟨gb116, 2, none⟩ = some (.string a0_2) := (blk_cell BK116.out 2).trans rfl; have hcz142_3 : w141.cell? ⟨gb116, 3, none⟩ = some (.int .u64 a0_3) := (blk_cell BK116.out 3).trans rfl; have hcz142_4 : w141.cell? ⟨gb116, 4, none⟩ = some (.int .u64 a0_4) := (blk_cell BK116.out 4).trans rfl; have hcz142_5 : w141.cell? ⟨gb116, 5, none⟩ = some (.int .u64 a0_5) := (blk_cell BK116.out 5).trans rfl; have hfz142_0 := blk_frozen BK116.out 0; have hfz142_1 := blk_frozen BK116.out 1; have hfz142_2 := blk_frozen BK116.out 2; have hfz142_3 := blk_frozen BK116.out 3; have hfz142_4 := blk_frozen BK116.out 4; have hfz142_5 := blk_frozen BK116.out 5) | (go_at_call 47; (with_reducible refine (taximeterref11_Has.calls kj35 a0_1 110 false _ A105.out).mono ?_); rintro e w143 ⟨rfl, hb⟩; have n0_ := Aside0.mk (blk_below (g := gb116) (o := .cells #[.int .u64 a0_0, .int .i64 a0_1, .string a0_2, .int .u64 a0_3, .int .u64 a0_4, .int .u64 a0_5] 37 (0, 0)) (by (with_reducible repeat (first | refine blk_drewN ?_ _ | refine blk_drew ?_ | refine blk_alloc ?_ _)); exact BK116.out) hb); have n1_ := Aside0.mk (below_step (by repeat (first | (with_reducible first | exact HB.out | apply below_alloc | apply pw_below_drewN | apply below_drew1 | refine below_set ?_ GE116.out) | exact HB.out)) hb); clear BK116; clear HB; have BK116 := n0_; have HB := n1_; clear n0_ n1_; (try clear hb); (try clear hb2); (try clear hk); (try clear hi); have hcz144_0 : w143.cell? ⟨gb116, 0, none⟩ = some (.int .u64 a0_0) := (blk_cell BK116.out 0).trans rfl; have hcz144_1 : w143.cell? ⟨gb116, 1, none⟩ = some (.int .i64 a0_1) := (blk_cell BK116.out 1).trans rfl; have hcz144_2 : w143.cell? ⟨gb116, 2, none⟩ = some (.string a0_2) := (blk_cell BK116.out 2).trans rfl; have hcz144_3 : w143.cell? ⟨gb116, 3, none⟩ = some (.int .u64 a0_3) := (blk_cell BK116.out 3).trans rfl; have hcz144_4 : w143.cell? ⟨gb116, 4, none⟩ = some (.int .u64 a0_4) := (blk_cell BK116.out 4).trans rfl; have hcz144_5 : w143.cell? ⟨gb116, 5, none⟩ = some (.int .u64 a0_5) := (blk_cell BK116.out 5).trans rfl; have hfz144_0 := blk_frozen BK116.out 0; have hfz144_1 := blk_frozen BK116.out 1; have hfz144_2 := blk_frozen BK116.out 2; have hfz144_3 := blk_frozen BK116.out 3; have hfz144_4 := blk_frozen BK116.out 4; have hfz144_5 := blk_frozen BK116.out 5) | (go_at_call 47; (with_reducible refine (taximeterref11_Has.calls kj35 a0_1 98 false _ A131.out).mono ?_); rintro e w145 ⟨rfl, hb⟩; have n0_ := Aside0.mk (blk_below (g := gb116) (o := .cells #[.int .u64 a0_0, .int .i64 a0_1, .string a0_2, .int .u64 a0_3, .int .u64 a0_4, .int .u64 a0_5] 37 (0, 0)) (by (with_reducible repeat (first | refine blk_drewN ?_ _ | refine blk_drew ?_ | refine blk_alloc ?_ _)); exact BK116.out) hb); have n1_ := Aside0.mk (below_step (by repeat (first | (with_reducible first | exact HB.out | apply below_alloc | apply pw_below_drewN | apply below_drew1 | refine below_set ?_ GE116.out) | exact HB.out)) hb); clear BK116; clear HB; have BK116 := n0_; have HB := n1_; clear n0_ n1_; (try clear hb); (try clear hb2); (try clear hk); (try clear hi); have hcz146_0 : w145.cell? ⟨gb116, 0, none⟩ = some (.int .u64 a0_0) := (blk_cell BK116.out 0).trans rfl; have hcz146_1 : w145.cell? ⟨gb116, 1, none⟩ = some (.int .i64 a0_1) := (blk_cell BK116.out 1).trans rfl; have hcz146_2 : w145.cell? ⟨gb116, 2, none⟩ = some (.string a0_2) := (blk_cell BK116.out 2).trans rfl; have hcz146_3 : w145.cell? ⟨gb116, 3, none⟩ = some (.int .u64 a0_3) := (blk_cell BK116.out 3).trans rfl; have hcz146_4 : w145.cell? ⟨gb116, 4, none⟩ = some (.int .u64 a0_4) := (blk_cell BK116.out 4).trans rfl; have hcz146_5 : w145.cell? ⟨gb116, 5, none⟩ = some (.int .u64 a0_5) := (blk_cell BK116.out 5).trans rfl; have hfz146_0 := blk_frozen BK116.out 0; have hfz146_1 := blk_frozen BK116.out 1; have hfz146_2 := blk_frozen BK116.out 2; have hfz146_3 := blk_frozen BK116.out 3; have hfz146_4 := blk_frozen BK116.out 4; have hfz146_5 := blk_frozen BK116.out 5))
                                  go_ret
                                  exact ⟨by first | rfl | (simp [errW_none, errW_some] <;> rfl) | (simp [*, errW_none, errW_some] <;> rfl), by repeat (first | (with_reducible first | exact HB.out | apply below_alloc | apply pw_below_drewN | apply below_drew1 | refine below_set ?_ GE116.out) | exact HB.out)⟩
                                · rw [if_neg c139] at H
                                  have c139b0 : (a0_5 == 0) = false := beq_eq_false_iff_ne.mpr c139
                                  have c139b1 : (a0_5 != 0) = true := bne_iff_ne.mpr c139
                                  obtain rfl := Option.some.inj H
                                  have hcz147_0 : wc.cell? ⟨gb116, 0, none⟩ = some (.int .u64 a0_0) := (blk_cell BK116.out 0).trans rfl
                                  have hcz147_1 : wc.cell? ⟨gb116, 1, none⟩ = some (.int .i64 a0_1) := (blk_cell BK116.out 1).trans rfl
                                  have hcz147_2 : wc.cell? ⟨gb116, 2, none⟩ = some (.string a0_2) := (blk_cell BK116.out 2).trans rfl
                                  have hcz147_3 : wc.cell? ⟨gb116, 3, none⟩ = some (.int .u64 a0_3) := (blk_cell BK116.out 3).trans rfl
                                  have hcz147_4 : wc.cell? ⟨gb116, 4, none⟩ = some (.int .u64 a0_4) := (blk_cell BK116.out 4).trans rfl
                                  have hcz147_5 : wc.cell? ⟨gb116, 5, none⟩ = some (.int .u64 a0_5) := (blk_cell BK116.out 5).trans rfl
                                  have hfz147_0 := blk_frozen BK116.out 0
                                  have hfz147_1 := blk_frozen BK116.out 1
                                  have hfz147_2 := blk_frozen BK116.out 2
                                  have hfz147_3 := blk_frozen BK116.out 3
                                  have hfz147_4 := blk_frozen BK116.out 4
                                  have hfz147_5 := blk_frozen BK116.out 5
                                  go_wp2_with (first | ((with_reducible refine gate_callee (f := 47) rfl ?_); refine goesL_ (some 55) rfl rfl Try.func47 (by kernel_rfl) rfl #[.int .i64 a0_1, .int .u8 108] rfl (by (try simp only [List.map_toArray, List.map_cons, List.map_nil]); first | done | rfl | (simp only [List.length_drop, List.length_take]; rfl)) ?_; (with_reducible refine (taximeterref11_Has.calls kj35 a0_1 108 false _ A48.out).mono ?_); rintro e w148 ⟨rfl, hb⟩; refine ⟨_, rfl, ?_⟩; have n0_ := Aside0.mk (blk_below (g := gb116) (o := .cells #[.int .u64 a0_0, .int .i64 a0_1, .string a0_2, .int .u64 a0_3, .int .u64 a0_4, .int .u64 a0_5] 37 (0, 0)) (by (with_reducible repeat (first | refine blk_drewN ?_ _ | refine blk_drew ?_ | refine blk_alloc ?_ _)); exact BK116.out) hb); have n1_ := Aside0.mk (below_step (by repeat (first | (with_reducible first | exact HB.out | apply below_alloc | apply pw_below_drewN | apply below_drew1 | refine below_set ?_ GE116.out) | exact HB.out)) hb); clear BK116; clear HB; have BK116 := n0_; have HB := n1_; clear n0_ n1_; (try clear hb); (try clear hb2); (try clear hk); (try clear hi); have hcz149_0 : w148.cell? ⟨gb116, 0, none⟩ = some (.int .u64 a0_0) := (blk_cell BK116.out 0).trans rfl; have hcz149_1 : w148.cell? ⟨gb116, 1, none⟩ = some (.int .i64 a0_1) := (blk_cell BK116.out 1).trans rfl; have hcz149_2 : w148.cell? ⟨gb116, 2, none⟩ = some (.string a0_2) := (blk_cell BK116.out 2).trans rfl; have hcz149_3 : w148.cell? ⟨gb116, 3, none⟩ = some (.int .u64 a0_3) := (blk_cell BK116.out 3).trans rfl; have hcz149_4 : w148.cell? ⟨gb116, 4, none⟩ = some (.int .u64 a0_4) := (blk_cell BK116.out 4).trans rfl; have hcz149_5 : w148.cell? ⟨gb116, 5, none⟩ = some (.int .u64 a0_5) := (blk_cell BK116.out 5).trans rfl; have hfz149_0 := blk_frozen BK116.out 0; have hfz149_1 := blk_frozen BK116.out 1; have hfz149_2 := blk_frozen BK116.out 2; have hfz149_3 := blk_frozen BK116.out 3; have hfz149_4 := blk_frozen BK116.out 4; have hfz149_5 := blk_frozen BK116.out 5) | (go_at_call 47; (with_reducible refine (taximeterref11_Has.calls kj35 a0_1 110 false _ A105.out).mono ?_); rintro e w150 ⟨rfl, hb⟩; have n0_ := Aside0.mk (blk_below (g := gb116) (o := .cells #[.int .u64 a0_0, .int .i64 a0_1, .string a0_2, .int .u64 a0_3, .int .u64 a0_4, .int .u64 a0_5] 37 (0, 0)) (by (with_reducible repeat (first | refine blk_drewN ?_ _ | refine blk_drew ?_ | refine blk_alloc ?_ _)); exact BK116.out) hb); have n1_ := Aside0.mk (below_step (by repeat (first | (with_reducible first | exact HB.out | apply below_alloc | apply pw_below_drewN | apply below_drew1 | refine below_set ?_ GE116.out) | exact HB.out)) hb); clear BK116; clear HB; have BK116 := n0_; have HB := n1_; clear n0_ n1_; (try clear hb); (try clear hb2); (try clear hk); (try clear hi); have hcz151_0 : w150.cell? ⟨gb116, 0, none⟩ = some (.int .u64 a0_0) := (blk_cell BK116.out 0).trans rfl; have hcz151_1 : w150.cell? ⟨gb116, 1, none⟩ = some (.int .i64 a0_1) := (blk_cell BK116.out 1).trans rfl; have hcz151_2 : w150.cell? ⟨gb116, 2, none⟩ = some (.string a0_2) := (blk_cell BK116.out 2).trans rfl; have hcz151_3 : w150.cell? ⟨gb116, 3, none⟩ = some (.int .u64 a0_3) := (blk_cell BK116.out 3).trans rfl; have hcz151_4 : w150.cell? ⟨gb116, 4, none⟩ = some (.int .u64 a0_4) := (blk_cell BK116.out 4).trans rfl; have hcz151_5 : w150.cell? ⟨gb116, 5, none⟩ = some (.int .u64 a0_5) := (blk_cell BK116.out 5).trans rfl; have hfz151_0 := blk_frozen BK116.out 0; have hfz151_1 := blk_frozen BK116.out 1; have hfz151_2 := blk_frozen BK116.out 2; have hfz151_3 := blk_frozen BK116.out 3; have hfz151_4 := blk_frozen BK116.out 4; have hfz151_5 := blk_frozen BK116.out 5) | (go_at_call 47; (with_reducible refine (taximeterref11_Has.calls kj35 a0_1 98 false _ A131.out).mono ?_); rintro e w152 ⟨rfl, hb⟩; have n0_ := Aside0.mk (blk_below (g := gb116) (o := .cells #[.int .u64 a0_0, .int .i64 a0_1, .string a0_2, .int .u64 a0_3, .int .u64 a0_4, .int .u64 a0_5] 37 (0, 0)) (by (with_reducible repeat (first | refine blk_drewN ?_ _ | refine blk_drew ?_ | refine blk_alloc ?_ _)); exact BK116.out) hb); have n1_ := Aside0.mk (below_step (by repeat (first | (with_reducible first | exact HB.out | apply below_alloc | apply pw_below_drewN | apply below_drew1 | refine below_set ?_ GE116.out) | exact HB.out)) hb); clear BK116; clear HB; have BK116 := n0_; have HB := n1_; clear n0_ n1_; (try clear hb); (try clear hb2); (try clear hk); (try clear hi); have hcz153_0 : w152.cell? ⟨gb116, 0, none⟩ = some (.int .u64 a0_0) := (blk_cell BK116.out 0).trans rfl; have hcz153_1 : w152.cell? ⟨gb116, 1, none⟩ = some (.int .i64 a0_1) := (blk_cell BK116.out 1).trans rfl; have hcz153_2 : w152.cell? ⟨gb116, 2, none⟩ = some (.string a0_2) := (blk_cell BK116.out 2).trans rfl; have hcz153_3 : w152.cell? ⟨gb116, 3, none⟩ = some (.int .u64 a0_3) := (blk_cell BK116.out 3).trans rfl; have hcz153_4 : w152.cell? ⟨gb116, 4, none⟩ = some (.int .u64 a0_4) := (blk_cell BK116.out 4).trans rfl; have hcz153_5 : w152.cell? ⟨gb116, 5, none⟩ = some (.int .u64 a0_5) := (blk_cell BK116.out 5).trans rfl; have hfz153_0 := blk_frozen BK116.out 0; have hfz153_1 := blk_frozen BK116.out 1; have hfz153_2 := blk_frozen BK116.out 2; have hfz153_3 := blk_frozen BK116.out 3; have hfz153_4 := blk_frozen BK116.out 4; have hfz153_5 := blk_frozen BK116.out 5))
                                  go_ret
                                  exact ⟨by first | rfl | (simp [errW_none, errW_some] <;> rfl) | (simp [*, errW_none, errW_some] <;> rfl), by repeat (first | (with_reducible first | exact HB.out | apply below_alloc | apply pw_below_drewN | apply below_drew1 | refine below_set ?_ GE116.out) | exact HB.out)⟩
                            · rw [if_neg c130] at H
                              have c130b0 : (a0_4 == 0) = false := beq_eq_false_iff_ne.mpr c130
                              have c130b1 : (a0_4 != 0) = true := bne_iff_ne.mpr c130
                              obtain rfl := Option.some.inj H
                              have hcz154_0 : wc.cell? ⟨gb116, 0, none⟩ = some (.int .u64 a0_0) := (blk_cell BK116.out 0).trans rfl
                              have hcz154_1 : wc.cell? ⟨gb116, 1, none⟩ = some (.int .i64 a0_1) := (blk_cell BK116.out 1).trans rfl
                              have hcz154_2 : wc.cell? ⟨gb116, 2, none⟩ = some (.string a0_2) := (blk_cell BK116.out 2).trans rfl
                              have hcz154_3 : wc.cell? ⟨gb116, 3, none⟩ = some (.int .u64 a0_3) := (blk_cell BK116.out 3).trans rfl
                              have hcz154_4 : wc.cell? ⟨gb116, 4, none⟩ = some (.int .u64 a0_4) := (blk_cell BK116.out 4).trans rfl
                              have hcz154_5 : wc.cell? ⟨gb116, 5, none⟩ = some (.int .u64 a0_5) := (blk_cell BK116.out 5).trans rfl
                              have hfz154_0 := blk_frozen BK116.out 0
                              have hfz154_1 := blk_frozen BK116.out 1
                              have hfz154_2 := blk_frozen BK116.out 2
                              have hfz154_3 := blk_frozen BK116.out 3
                              have hfz154_4 := blk_frozen BK116.out 4
                              have hfz154_5 := blk_frozen BK116.out 5
                              go_wp2_with (first | ((with_reducible refine gate_callee (f := 47) rfl ?_); refine goesL_ (some 55) rfl rfl Try.func47 (by kernel_rfl) rfl #[.int .i64 a0_1, .int .u8 108] rfl (by (try simp only [List.map_toArray, List.map_cons, List.map_nil]); first | done | rfl | (simp only [List.length_drop, List.length_take]; rfl)) ?_; (with_reducible refine (taximeterref11_Has.calls kj35 a0_1 108 false _ A48.out).mono ?_); rintro e w155 ⟨rfl, hb⟩; refine ⟨_, rfl, ?_⟩; have n0_ := Aside0.mk (blk_below (g := gb116) (o := .cells #[.int .u64 a0_0, .int .i64 a0_1, .string a0_2, .int .u64 a0_3, .int .u64 a0_4, .int .u64 a0_5] 37 (0, 0)) (by (with_reducible repeat (first | refine blk_drewN ?_ _ | refine blk_drew ?_ | refine blk_alloc ?_ _)); exact BK116.out) hb); have n1_ := Aside0.mk (below_step (by repeat (first | (with_reducible first | exact HB.out | apply below_alloc | apply pw_below_drewN | apply below_drew1 | refine below_set ?_ GE116.out) | exact HB.out)) hb); clear BK116; clear HB; have BK116 := n0_; have HB := n1_; clear n0_ n1_; (try clear hb); (try clear hb2); (try clear hk); (try clear hi); have hcz156_0 : w155.cell? ⟨gb116, 0, none⟩ = some (.int .u64 a0_0) := (blk_cell BK116.out 0).trans rfl; have hcz156_1 : w155.cell? ⟨gb116, 1, none⟩ = some (.int .i64 a0_1) := (blk_cell BK116.out 1).trans rfl; have hcz156_2 : w155.cell? ⟨gb116, 2, none⟩ = some (.string a0_2) := (blk_cell BK116.out 2).trans rfl; have hcz156_3 : w155.cell? ⟨gb116, 3, none⟩ = some (.int .u64 a0_3) := (blk_cell BK116.out 3).trans rfl; have hcz156_4 : w155.cell? ⟨gb116, 4, none⟩ = some (.int .u64 a0_4) := (blk_cell BK116.out 4).trans rfl; have hcz156_5 : w155.cell? ⟨gb116, 5, none⟩ = some (.int .u64 a0_5) := (blk_cell BK116.out 5).trans rfl; have hfz156_0 := blk_frozen BK116.out 0; have hfz156_1 := blk_frozen BK116.out 1; have hfz156_2 := blk_frozen BK116.out 2; have hfz156_3 := blk_frozen BK116.out 3; have hfz156_4 := blk_frozen BK116.out 4; have hfz156_5 := blk_frozen BK116.out 5) | (go_at_call 47; (with_reducible refine (taximeterref11_Has.calls kj35 a0_1 110 false _ A105.out).mono ?_); rintro e w157 ⟨rfl, hb⟩; have n0_ := Aside0.mk (blk_below (g := gb116) (o := .cells #[.int .u64 a0_0, .int .i64 a0_1, .string a0_2, .int .u64 a0_3, .int .u64 a0_4, .int .u64 a0_5] 37 (0, 0)) (by (with_reducible repeat (first | refine blk_drewN ?_ _ | refine blk_drew ?_ | refine blk_alloc ?_ _)); exact BK116.out) hb); have n1_ := Aside0.mk (below_step (by repeat (first | (with_reducible first | exact HB.out | apply below_alloc | apply pw_below_drewN | apply below_drew1 | refine below_set ?_ GE116.out) | exact HB.out)) hb); clear BK116; clear HB; have BK116 := n0_; have HB := n1_; clear n0_ n1_; (try clear hb); (try clear hb2); (try clear hk); (try clear hi); have hcz158_0 : w157.cell? ⟨gb116, 0, none⟩ = some (.int .u64 a0_0) := (blk_cell BK116.out 0).trans rfl; have hcz158_1 : w157.cell? ⟨gb116, 1, none⟩ = some (.int .i64 a0_1) := (blk_cell BK116.out 1).trans rfl; have hcz158_2 : w157.cell? ⟨gb116, 2, none⟩ = some (.string a0_2) := (blk_cell BK116.out 2).trans rfl; have hcz158_3 : w157.cell? ⟨gb116, 3, none⟩ = some (.int .u64 a0_3) := (blk_cell BK116.out 3).trans rfl; have hcz158_4 : w157.cell? ⟨gb116, 4, none⟩ = some (.int .u64 a0_4) := (blk_cell BK116.out 4).trans rfl; have hcz158_5 : w157.cell? ⟨gb116, 5, none⟩ = some (.int .u64 a0_5) := (blk_cell BK116.out 5).trans rfl; have hfz158_0 := blk_frozen BK116.out 0; have hfz158_1 := blk_frozen BK116.out 1; have hfz158_2 := blk_frozen BK116.out 2; have hfz158_3 := blk_frozen BK116.out 3; have hfz158_4 := blk_frozen BK116.out 4; have hfz158_5 := blk_frozen BK116.out 5))
                              go_ret
                              exact ⟨by first | rfl | (simp [errW_none, errW_some] <;> rfl) | (simp [*, errW_none, errW_some] <;> rfl), by repeat (first | (with_reducible first | exact HB.out | apply below_alloc | apply pw_below_drewN | apply below_drew1 | refine below_set ?_ GE116.out) | exact HB.out)⟩
                        · rw [if_neg c104] at H
                          have c104b0 : (a0_3 == 0) = false := beq_eq_false_iff_ne.mpr c104
                          have c104b1 : (a0_3 != 0) = true := bne_iff_ne.mpr c104
                          obtain rfl := Option.some.inj H
                          have hcz159_0 : wc.cell? ⟨gb116, 0, none⟩ = some (.int .u64 a0_0) := (blk_cell BK116.out 0).trans rfl
                          have hcz159_1 : wc.cell? ⟨gb116, 1, none⟩ = some (.int .i64 a0_1) := (blk_cell BK116.out 1).trans rfl
                          have hcz159_2 : wc.cell? ⟨gb116, 2, none⟩ = some (.string a0_2) := (blk_cell BK116.out 2).trans rfl
                          have hcz159_3 : wc.cell? ⟨gb116, 3, none⟩ = some (.int .u64 a0_3) := (blk_cell BK116.out 3).trans rfl
                          have hcz159_4 : wc.cell? ⟨gb116, 4, none⟩ = some (.int .u64 a0_4) := (blk_cell BK116.out 4).trans rfl
                          have hcz159_5 : wc.cell? ⟨gb116, 5, none⟩ = some (.int .u64 a0_5) := (blk_cell BK116.out 5).trans rfl
                          have hfz159_0 := blk_frozen BK116.out 0
                          have hfz159_1 := blk_frozen BK116.out 1
                          have hfz159_2 := blk_frozen BK116.out 2
                          have hfz159_3 := blk_frozen BK116.out 3
                          have hfz159_4 := blk_frozen BK116.out 4
                          have hfz159_5 := blk_frozen BK116.out 5
                          go_wp2_with (first | ((with_reducible refine gate_callee (f := 47) rfl ?_); refine goesL_ (some 55) rfl rfl Try.func47 (by kernel_rfl) rfl #[.int .i64 a0_1, .int .u8 108] rfl (by (try simp only [List.map_toArray, List.map_cons, List.map_nil]); first | done | rfl | (simp only [List.length_drop, List.length_take]; rfl)) ?_; (with_reducible refine (taximeterref11_Has.calls kj35 a0_1 108 false _ A48.out).mono ?_); rintro e w160 ⟨rfl, hb⟩; refine ⟨_, rfl, ?_⟩; have n0_ := Aside0.mk (blk_below (g := gb116) (o := .cells #[.int .u64 a0_0, .int .i64 a0_1, .string a0_2, .int .u64 a0_3, .int .u64 a0_4, .int .u64 a0_5] 37 (0, 0)) (by (with_reducible repeat (first | refine blk_drewN ?_ _ | refine blk_drew ?_ | refine blk_alloc ?_ _)); exact BK116.out) hb); have n1_ := Aside0.mk (below_step (by repeat (first | (with_reducible first | exact HB.out | apply below_alloc | apply pw_below_drewN | apply below_drew1 | refine below_set ?_ GE116.out) | exact HB.out)) hb); clear BK116; clear HB; have BK116 := n0_; have HB := n1_; clear n0_ n1_; (try clear hb); (try clear hb2); (try clear hk); (try clear hi); have hcz161_0 : w160.cell? ⟨gb116, 0, none⟩ = some (.int .u64 a0_0) := (blk_cell BK116.out 0).trans rfl; have hcz161_1 : w160.cell? ⟨gb116, 1, none⟩ = some (.int .i64 a0_1) := (blk_cell BK116.out 1).trans rfl; have hcz161_2 : w160.cell? ⟨gb116, 2, none⟩ = some (.string a0_2) := (blk_cell BK116.out 2).trans rfl; have hcz161_3 : w160.cell? ⟨gb116, 3, none⟩ = some (.int .u64 a0_3) := (blk_cell BK116.out 3).trans rfl; have hcz161_4 : w160.cell? ⟨gb116, 4, none⟩ = some (.int .u64 a0_4) := (blk_cell BK116.out 4).trans rfl; have hcz161_5 : w160.cell? ⟨gb116, 5, none⟩ = some (.int .u64 a0_5) := (blk_cell BK116.out 5).trans rfl; have hfz161_0 := blk_frozen BK116.out 0; have hfz161_1 := blk_frozen BK116.out 1; have hfz161_2 := blk_frozen BK116.out 2; have hfz161_3 := blk_frozen BK116.out 3; have hfz161_4 := blk_frozen BK116.out 4; have hfz161_5 := blk_frozen BK116.out 5))
                          go_ret
                          exact ⟨by first | rfl | (simp [errW_none, errW_some] <;> rfl) | (simp [*, errW_none, errW_some] <;> rfl), by repeat (first | (with_reducible first | exact HB.out | apply below_alloc | apply pw_below_drewN | apply below_drew1 | refine below_set ?_ GE116.out) | exact HB.out)⟩
        · replace c9 := Bool.eq_false_iff.mpr c9
          subst c9
          have H1 : (some 7) = some r := by rw [if_neg (show ¬ (false = true) by decide)] at H; exact H
          clear H
          have H := H1
          clear H1
          obtain rfl := Option.some.inj H
          have hcz162_0 : wc.cell? ⟨gb116, 0, none⟩ = some (.int .u64 a0_0) := (blk_cell BK116.out 0).trans rfl
          have hcz162_1 : wc.cell? ⟨gb116, 1, none⟩ = some (.int .i64 a0_1) := (blk_cell BK116.out 1).trans rfl
          have hcz162_2 : wc.cell? ⟨gb116, 2, none⟩ = some (.string a0_2) := (blk_cell BK116.out 2).trans rfl
          have hcz162_3 : wc.cell? ⟨gb116, 3, none⟩ = some (.int .u64 a0_3) := (blk_cell BK116.out 3).trans rfl
          have hcz162_4 : wc.cell? ⟨gb116, 4, none⟩ = some (.int .u64 a0_4) := (blk_cell BK116.out 4).trans rfl
          have hcz162_5 : wc.cell? ⟨gb116, 5, none⟩ = some (.int .u64 a0_5) := (blk_cell BK116.out 5).trans rfl
          have hfz162_0 := blk_frozen BK116.out 0
          have hfz162_1 := blk_frozen BK116.out 1
          have hfz162_2 := blk_frozen BK116.out 2
          have hfz162_3 := blk_frozen BK116.out 3
          have hfz162_4 := blk_frozen BK116.out 4
          have hfz162_5 := blk_frozen BK116.out 5
          go_wp2_with (first | ((with_reducible refine gate_callee (f := 46) rfl ?_); refine goesL_ (some 14) rfl rfl Try.func46 (by kernel_rfl) rfl #[.string a0_2] rfl (by (try simp only [List.map_toArray, List.map_cons, List.map_nil]); first | done | rfl | (simp only [List.length_drop, List.length_take]; rfl)) ?_; (with_reducible refine (taximeterref07_Tenant.calls kj1 a0_2 false _ A8.out).mono ?_); rintro e w' ⟨rfl, ⟨nd, rfl⟩⟩; refine ⟨_, rfl, ?_⟩))
          go_ret
          exact ⟨by first | rfl | (simp [errW_none, errW_some] <;> rfl) | (simp [*, errW_none, errW_some] <;> rfl), by repeat (first | (with_reducible first | exact HB.out | apply below_alloc | apply pw_below_drewN | apply below_drew1 | refine below_set ?_ GE116.out) | exact HB.out)⟩

end Go.Proofs.Ytblpnohfileibaa.PSegTorn
