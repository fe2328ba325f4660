/- slices.IndexFunc and slices.DeleteFunc of events with the predicate of erase.Keep. -/
import Derived.Test.YtfdafkjoienpmaaEvT
namespace Go.Proofs.Ytfdafkjoienpmaa
open Go.RowKit

def delB (t : ByteArray) (ss : List Int) (e : Ev) : Bool := !ownB t ss e && !allB e.kind

/-- what the predicate of Keep reads -/
structure Cap (w : World) (Bt Bs : Nat) (t : ByteArray) (A : Option Addr) (n c : Nat) (ss : List Int) : Prop where
  ct : w.cell? ⟨Bt, 0, none⟩ = some (.string t)
  cs : w.cell? ⟨Bs, 0, none⟩ = some (.slice A n c)
  ints : Ints w A n ss

theorem Cap.below {w w' : World} {Bt Bs : Nat} {t : ByteArray} {A : Option Addr} {n c : Nat} {ss : List Int} (h : Cap w Bt Bs t A n c ss) (hb : Below w.heap.size w w') : Cap w' Bt Bs t A n c ss :=
  ⟨(hb.cell (cell_lt h.ct)).trans h.ct, (hb.cell (cell_lt h.cs)).trans h.cs, Rd.below h.ints hb⟩

theorem Cap.fr {S : Nat → Prop} {w w' : World} {Bt Bs : Nat} {t : ByteArray} {A : Option Addr} {n c : Nat} {ss : List Int} (h : Cap w Bt Bs t A n c ss) (hf : Fr S w w') (h1 : ¬ S Bt) (h2 : ¬ S Bs) (h3 : 0 < n → ∀ a, A = some a → ¬ S a.block) : Cap w' Bt Bs t A n c ss :=
  ⟨hf.cell h.ct h1, hf.cell h.cs h2, hf.rd h.ints h3⟩
theorem size_ev : (Try.prog.info? 30).map (·.size) = some 8 := by kernel_rfl
theorem ld_ev {w : World} {b o : Nat} (e : Ev) (hc : ∀ i u, (evCells e)[i]? = some u → w.cell? ⟨b, o + i, none⟩ = some u) :
    (Instr.loadAt 30 (.pointer (some ⟨b, o, none⟩))).run Try.prog w = .ok (evV e) w :=
  run_load_agg 30 _ Try.underlying30 rfl (evCells e) size_ev hc

theorem zero_ev (w : World) : (zeroValue 30).run Try.prog w = .ok evZero w := by kernel_rfl
theorem evZero_one : ∀ u ∈ evZero.cells.toList, u.oneCell' = true := by intro u hu; simp [evZero, Value.cells] at hu; rcases hu with rfl | rfl | rfl | rfl | rfl | rfl <;> rfl
/-- the eight cells of an event at a place -/
def EvAt (w : World) (b o : Nat) (e : Ev) : Prop :=
  w.cell? ⟨b, o, none⟩ = some (.int .i64 e.kind) ∧ w.cell? ⟨b, o + 1, none⟩ = some (.int .i64 e.session) ∧ w.cell? ⟨b, o + 2, none⟩ = some (.int .i64 e.stream) ∧ w.cell? ⟨b, o + 3, none⟩ = some (.string e.tenant) ∧
  w.cell? ⟨b, o + 4, none⟩ = some (.int .u64 e.n) ∧ w.cell? ⟨b, o + 5, none⟩ = some (.int .i64 e.m) ∧ w.cell? ⟨b, o + 6, none⟩ = some (.int .u64 e.bits) ∧ w.cell? ⟨b, o + 7, none⟩ = some (.slice e.dA e.dn e.dc)
theorem EvAt.of {w : World} {b o : Nat} {e : Ev} (hc : ∀ i u, (evCells e)[i]? = some u → w.cell? ⟨b, o + i, none⟩ = some u) : EvAt w b o e :=
  ⟨hc 0 _ rfl, hc 1 _ rfl, hc 2 _ rfl, hc 3 _ rfl, hc 4 _ rfl, hc 5 _ rfl, hc 6 _ rfl, hc 7 _ rfl⟩
theorem at_after {w w1 : World} {e : Ev} (hb : Below (w.alloc (.cells (evCells e).toArray 30)).heap.size (w.alloc (.cells (evCells e).toArray 30)) w1) : EvAt w1 w.heap.size 0 e := by
  refine EvAt.of fun i u hu => ?_
  have := hb.cell (p := ⟨w.heap.size, 0 + i, none⟩) (by simp)
  rw [this, Nat.zero_add, cell_of_row _ _ _ _ _ _ (heap_alloc_new _ _)]
  simpa using hu

set_option maxRecDepth 100000 in
theorem del_any (Bt Bs : Nat) (t : ByteArray) (A : Option Addr) (n c : Nat) (ss : List Int) (e : Ev) (w : World) (h : Cap w Bt Bs t A n c ss) (hn : n ≤ 100000000000) :
    Calls Try.prog 17 #[evV e, .pointer (some ⟨Bt, 0, none⟩), .pointer (some ⟨Bs, 0, none⟩)] w fun r w' => r = .returned (.bool (delB t ss e)) ∧ Below w.heap.size w w' := by
  have hlt := cell_lt h.ct
  have hls := cell_lt h.cs
  have h1 := h.below ((Below.refl _ _).alloc (Nat.le_refl _) (.cells #[.int .i64 e.kind, .int .i64 e.session, .int .i64 e.stream, .string e.tenant, .int .u64 e.n, .int .i64 e.m, .int .u64 e.bits, .slice e.dA e.dn e.dc] 30))
  have ht := h1.ct
  have hs := h1.cs
  have hI := Lib.hid h1.ints
  have hH := Lib.hid h
  clear h h1
  cases ho : ownB t ss e with
  | true =>
    have hr : delB t ss e = false := by unfold delB; rw [ho]; rfl
    have HR := Lib.hid hr
    have hO := fun w h => Own_any t A n c ss e w h hn
    rw [ho] at hO
    have HO := Lib.hid hO
    clear hr ho hO
    go_enter Try.func17, Try.ntmps17
    go_wp2_with (go_at_call 6; refine (HO.out _ hI.out).mono ?_; rintro r w1 ⟨rfl, hb1⟩)
    go_ret
    rw [HR.out]
    exact ⟨by simp, bel_trans ((Below.refl _ _).alloc (Nat.le_refl _) _) hb1⟩
  | false =>
    have hr : delB t ss e = !allB e.kind := by unfold delB; rw [ho]; rfl
    have HR := Lib.hid hr
    have hO := fun w h => Own_any t A n c ss e w h hn
    rw [ho] at hO
    have HO := Lib.hid hO
    clear hr ho hO
    go_enter Try.func17, Try.ntmps17
    go_wp2_with (first
      | (go_at_call 6; refine (HO.out _ hI.out).mono ?_; rintro r w1 ⟨rfl, hb1⟩; obtain ⟨c0, c1, c2, c3, c4, c5, c6, c7⟩ := at_after hb1)
      | (go_at_call 8; refine (All_any e _).mono ?_; rintro r w2 ⟨rfl, hb2⟩))
    go_ret
    rw [HR.out]
    exact ⟨by simp, bel_trans (bel_trans ((Below.refl _ _).alloc (Nat.le_refl _) _) hb1) hb2⟩

abbrev Evs (w : World) (A : Option Addr) (n : Nat) (l : List Ev) : Prop := Rows 8 evCells w A n l
theorem Evs.ev {w : World} {A : Option Addr} {n : Nat} {l : List Ev} (h : Evs w A n l) {j : Nat} (hj : j < n) : ∃ b o e, A = some ⟨b, o, none⟩ ∧ l[j]? = some e ∧ EvAt w b (o + j * 8) e := by
  obtain ⟨b, o, e, hA, he, hc⟩ := h.at_ hj
  exact ⟨b, o, e, hA, he, EvAt.of fun i u hu => by rw [Nat.add_assoc]; exact hc i u hu⟩

abbrev delF (Bt Bs : Nat) : Value := .func (.func 17) #[] #[.pointer (some ⟨Bt, 0, none⟩), .pointer (some ⟨Bs, 0, none⟩)]

set_option maxRecDepth 100000 in
theorem IndexFunc_none (A : Option Addr) (n c : Nat) (l : List Ev) (Bt Bs : Nat) (t : ByteArray) (A2 : Option Addr) (n2 c2 : Nat) (ss : List Int) (w : World) (hl : Evs w A n l) (h : Cap w Bt Bs t A2 n2 c2 ss) (hn2 : n2 ≤ 100000000000) (hn : n ≤ 100000000000)
    (hall : ∀ e ∈ l, delB t ss e = false) :
    Calls Try.prog 21 #[.slice A n c, delF Bt Bs] w fun r w' => r = .returned (.int .i64 (-1)) ∧ Below w.heap.size w w' := by
  have HA := Lib.hid hall
  clear hall
  go_enter Try.func21, Try.ntmps21
  go_wp2
  go_loopw [8] (fun i wr => ∃ k : Nat, k ≤ n ∧ i = .int .i64 k ∧ Below w.heap.size w wr) (fun i _ => n - (intOf i).toNat)
  case atStart => exact ⟨0, by omega, rfl, bel_rfl⟩
  case round =>
    obtain ⟨k, hk, rfl, hb⟩ := hrel
    by_cases hlt : k < n
    · obtain ⟨b, o, e, rfl, he, hc0, hc1, hc2, hc3, hc4, hc5, hc6, hc7⟩ := Evs.ev (Rows.below hl hb) hlt
      have hd := HA.out e (List.mem_of_getElem? he)
      have hD := fun w h => del_any Bt Bs t A2 n2 c2 ss e w h hn2
      rw [hd] at hD
      have HD := Lib.hid hD
      have HE := Lib.hid he
      have HL := Lib.hid hl
      have HC := Lib.hid (h.below hb)
      have HH := Lib.hid h
      clear hd hD he hl h
      go_wp2_with (go_at_call 17; refine (HD.out _ HC.out).mono ?_; rintro r w1 ⟨rfl, hb1⟩)
      exact ⟨⟨k + 1, by omega, by go_num, bel_trans hb hb1⟩, by simp [intOf]; omega⟩
    · go_wp2
      go_ret
      exact ⟨by simp, hb⟩

set_option maxRecDepth 100000 in
theorem IndexFunc_some (A : Option Addr) (n c : Nat) (l : List Ev) (Bt Bs : Nat) (t : ByteArray) (A2 : Option Addr) (n2 c2 : Nat) (ss : List Int) (w : World) (hl : Evs w A n l) (h : Cap w Bt Bs t A2 n2 c2 ss) (hn2 : n2 ≤ 100000000000) (hn : n ≤ 100000000000)
    (k0 : Nat) (hk0 : k0 < n) (hyes : ∀ e, l[k0]? = some e → delB t ss e = true) (hall : ∀ j e, j < k0 → l[j]? = some e → delB t ss e = false) :
    Calls Try.prog 21 #[.slice A n c, delF Bt Bs] w fun r w' => r = .returned (.int .i64 (k0 : Int)) ∧ Below w.heap.size w w' := by
  have HA := Lib.hid hall
  have HY := Lib.hid hyes
  clear hall hyes
  go_enter Try.func21, Try.ntmps21
  go_wp2
  go_loopw [8] (fun i wr => ∃ k : Nat, k ≤ k0 ∧ i = .int .i64 k ∧ Below w.heap.size w wr) (fun i _ => n - (intOf i).toNat)
  case atStart => exact ⟨0, by omega, rfl, bel_rfl⟩
  case round =>
    obtain ⟨k, hk, rfl, hb⟩ := hrel
    have hlt : k < n := by omega
    obtain ⟨b, o, e, rfl, he, hc0, hc1, hc2, hc3, hc4, hc5, hc6, hc7⟩ := Evs.ev (Rows.below hl hb) hlt
    have hD := fun w h => del_any Bt Bs t A2 n2 c2 ss e w h hn2
    have HE := Lib.hid he
    have HL := Lib.hid hl
    have HC := Lib.hid (h.below hb)
    have HH := Lib.hid h
    clear he hl h
    by_cases hkk : k < k0
    · rw [HA.out k e hkk HE.out] at hD
      have HD := Lib.hid hD
      clear hD
      go_wp2_with (go_at_call 17; refine (HD.out _ HC.out).mono ?_; rintro r w1 ⟨rfl, hb1⟩)
      exact ⟨⟨k + 1, by omega, by go_num, bel_trans hb hb1⟩, by simp [intOf]; omega⟩
    · obtain rfl : k = k0 := by omega
      rw [HY.out e HE.out] at hD
      have HD := Lib.hid hD
      clear hD
      go_wp2_with (go_at_call 17; refine (HD.out _ HC.out).mono ?_; rintro r w1 ⟨rfl, hb1⟩)
      go_ret
      exact ⟨by simp, bel_trans hb hb1⟩

theorem take_splice {α : Type} (X Y ys Z : List α) (a : Nat) (h : X.length = a) : ((X ++ Y).take a ++ ys ++ Z).take a = X := by
  subst h
  simp [List.append_assoc]

def keepB (t : ByteArray) (ss : List Int) (e : Ev) : Bool := !delB t ss e
def DelR (g n c : Nat) (l : List Ev) (t : ByteArray) (ss : List Int) (w : World) (r : Ending) (w' : World) : Prop :=
  ∃ m, m = (l.filter (keepB t ss)).length ∧ r = .returned (.slice (some ⟨g, 0, none⟩) m c) ∧ w'.ownsRow 0 30 8 (.slice (some ⟨g, 0, none⟩) m c) m ((l.filter (keepB t ss)).flatMap evCells) ∧ w.grownBy w' (some g)

set_option maxRecDepth 100000 in
theorem DeleteFunc_some (g n c : Nat) (l : List Ev) (Bt Bs : Nat) (t : ByteArray) (A2 : Option Addr) (n2 c2 : Nat) (ss : List Int) (w : World) (hl : l.length = n) (ho : w.ownsRow 0 30 8 (.slice (some ⟨g, 0, none⟩) n c) n (l.flatMap evCells)) (h : Cap w Bt Bs t A2 n2 c2 ss) (hn2 : n2 ≤ 100000000000) (hn : n ≤ 100000000000)
    (hgt : Bt ≠ g) (hgs : Bs ≠ g) (hgi : 0 < n2 → ∀ a, A2 = some a → a.block ≠ g)
    (k0 : Nat) (hk0 : k0 < n) (hyes : ∀ e, l[k0]? = some e → delB t ss e = true) (hall : ∀ j e, j < k0 → l[j]? = some e → delB t ss e = false) :
    Calls Try.prog 15 #[.slice (some ⟨g, 0, none⟩) n c, delF Bt Bs] w (DelR g n c l t ss w) := by
  have hE : Evs w (some ⟨g, 0, none⟩) n l := Rows.of_rd evCells_length hl (own_rd ho)
  have hI := IndexFunc_some _ n c l Bt Bs t A2 n2 c2 ss w hE h hn2 hn k0 hk0 hyes hall
  have HI := Lib.hid hI
  have HO := Lib.hid ho
  have HL := Lib.hid hl
  have HA := Lib.hid hall
  have HY := Lib.hid hyes
  have HE := Lib.hid hE
  have HC := Lib.hid h
  clear hI ho hl hall hyes hE h
  have hne : ((k0 : Int) == -1) = false := by simp
  go_enter Try.func15, Try.ntmps15
  go_wp2_with (go_at_call 21; refine (HI.out).mono ?_; rintro r w1 ⟨rfl, hb1⟩)
  have hfr0 : Fr (· = g) w w1 := Fr.of_below hb1
  have ho1 := bel_own hb1 HO.out
  go_loopw [5, 6] (fun i jv wr => ∃ k j : Nat, i = .int .i64 k ∧ jv = .int .i64 j ∧ k < j ∧ j ≤ n ∧ k = ((l.take j).filter (keepB t ss)).length ∧
      wr.ownsRow 0 30 8 (.slice (some ⟨g, 0, none⟩) n c) n (((l.take j).filter (keepB t ss) ++ l.drop k).flatMap evCells) ∧ Fr (· = g) w wr) (fun _ j _ => n - (intOf j).toNat)
  case atStart =>
    have hlt0 : k0 < l.length := by rw [HL.out]; exact hk0
    have hy := HY.out l[k0] (List.getElem?_eq_getElem hlt0)
    have hf : (l.take k0).filter (keepB t ss) = l.take k0 := by
      rw [List.filter_eq_self]
      intro a ha
      obtain ⟨i, hi, rfl⟩ := List.mem_iff_getElem.1 ha
      have hi' : i < k0 := by rw [List.length_take] at hi; omega
      have := HA.out i _ hi' (List.getElem?_eq_getElem (by omega))
      simp only [List.getElem_take]
      simp [keepB, this]
    have hf2 : (l.take (k0 + 1)).filter (keepB t ss) = l.take k0 := by
      rw [filter_take_succ _ _ _ _ (List.getElem?_eq_getElem hlt0), hf]
      simp [keepB, hy]
    refine ⟨k0, k0 + 1, rfl, by go_num, by omega, by omega, ?_, ?_, hfr0⟩
    · rw [hf2, List.length_take]; omega
    · rw [hf2, List.take_append_drop]; exact ho1
  case round =>
    obtain ⟨k, j, rfl, rfl, hkj, hjn, hk, hrow, hfr⟩ := hrel
    by_cases hlt : j < n
    · have hcl : ((l.take j).filter (keepB t ss) ++ l.drop k).length = n := by rw [List.length_append, ← hk, List.length_drop, HL.out]; omega
      obtain ⟨b, o, e, hA, he, hc0, hc1, hc2, hc3, hc4, hc5, hc6, hc7⟩ := Evs.ev (Rows.of_rd (enc := evCells) evCells_length hcl (own_rd hrow)) hlt
      cases hA
      have hej : l[j]? = some e := by
        rw [List.getElem?_append_right (by omega), ← hk, List.getElem?_drop] at he
        rw [← he]; congr 1; omega
      have hD := fun w h => del_any Bt Bs t A2 n2 c2 ss e w h hn2
      have hcap : Cap wr Bt Bs t A2 n2 c2 ss := HC.out.fr hfr hgt hgs hgi
      have hcap2 := Lib.hid (hcap.below ((Below.refl _ _).alloc (Nat.le_refl _) (.cells (evCells e).toArray 30)))
      have hsn := filter_take_succ (keepB t ss) l j e hej
      have HSN := Lib.hid hsn
      have HEJ := Lib.hid hej
      have HK := Lib.hid hk
      have HCL := Lib.hid hcl
      have HROW := Lib.hid hrow
      have HE2 := Lib.hid he
      clear hsn hej hk hcl hrow he hcap
      simp only [Nat.zero_add] at hc0 hc1 hc2 hc3 hc4 hc5 hc6 hc7
      cases hd : delB t ss e with
      | true =>
        rw [hd] at hD
        have HD := Lib.hid hD
        have HDD := Lib.hid hd
        clear hD hd
        go_wp2_with (go_at_call 17; refine (HD.out _ hcap2.out).mono ?_; rintro r w2 ⟨rfl, hb2⟩; obtain ⟨d0, d1, d2, d3, d4, d5, d6, d7⟩ := at_after hb2)
        have hkeep : keepB t ss e = false := by unfold keepB; rw [HDD.out]; rfl
        have e1 : (l.take (j + 1)).filter (keepB t ss) = (l.take j).filter (keepB t ss) := by rw [HSN.out, hkeep]; simp
        refine ⟨⟨k, j + 1, rfl, by go_num, by omega, by omega, by rw [e1]; exact HK.out, by rw [e1]; exact bel_own hb2 (HROW.out.alloc _), (hfr.trans (Fr.alloc _)).trans (Fr.of_below hb2)⟩, by simp [intOf]; omega⟩
      | false =>
        rw [hd] at hD
        have HD := Lib.hid hD
        have HDD := Lib.hid hd
        clear hD hd
        go_wp2_with (first
          | (go_at_call 17; refine (HD.out _ hcap2.out).mono ?_; rintro r w2 ⟨rfl, hb2⟩; obtain ⟨d0, d1, d2, d3, d4, d5, d6, d7⟩ := at_after hb2; have HOW := Lib.hid (bel_own hb2 (HROW.out.alloc _)))
          | (refine wpList_splice rfl 30 _ _ rfl 0 8 g n c _ (k * 8) (evCells e) rfl rfl HOW.out size_ev (by simp only [List.length_cons, List.length_nil]; omega) (evCells_one e) ?_; intro w3 hrow3 hgrow3))
        have hkeep : keepB t ss e = true := by unfold keepB; rw [HDD.out]; rfl
        have e1 : (l.take (j + 1)).filter (keepB t ss) = (l.take j).filter (keepB t ss) ++ [e] := by rw [HSN.out, hkeep]; simp
        have e2 : ((l.take j).filter (keepB t ss) ++ l.drop k).set k e = (l.take (j + 1)).filter (keepB t ss) ++ l.drop (k + 1) := by
          rw [e1, List.set_append_right _ _ (by rw [HK.out]; exact Nat.le_refl _), ← HK.out, Nat.sub_self, List.append_assoc]
          congr 1
          rw [List.drop_eq_getElem_cons (show k < l.length by rw [HL.out]; omega)]
          rfl
        rw [flat_set evCells_length _ k e (by rw [HCL.out]; omega), e2] at hrow3
        refine ⟨⟨k + 1, j + 1, by go_num, by go_num, by omega, by omega, by rw [e1, List.length_append, ← HK.out]; rfl, hrow3, ((hfr.trans (Fr.alloc _)).trans (Fr.of_below hb2)).trans (Fr.of_grown hgrow3 (fun g' hg' => by cases hg'; rfl))⟩, by simp [intOf]; omega⟩
    · obtain rfl : j = n := by omega
      have hcn : ¬ c = k := by
        obtain ⟨A', c', he, h1, _⟩ := own_slice hrow
        injection he with _ _ h3
        omega
      have hkc : k ≤ c := by
        obtain ⟨A', c', he, h1, _⟩ := own_slice hrow
        injection he with _ _ h3
        omega
      have hkj2 : k ≤ j := by omega
      have HK := Lib.hid hk
      have HROW := Lib.hid hrow
      clear hk hrow
      go_wp2_with (refine wpList_clear_own rfl _ 23 rfl 30 Try.underlying23 evZero zero_ev 8 rfl evZero_one 0 g j c (k * 8) (j - k) _ _ rfl HROW.out (by omega) (by omega) ?_; intro w3 ys hys hrow3 hgrow3)
      go_goals
      go_ret
      have e0 : l.take j = l := List.take_of_length_le (by rw [HL.out]; exact Nat.le_refl _)
      have hK := HK.out
      rw [e0] at hK hrow3
      have hcut := own_cut hrow3 k (by omega)
      have e3 : (((l.filter (keepB t ss) ++ l.drop k).flatMap evCells).take (k * 8) ++ ys ++ ((l.filter (keepB t ss) ++ l.drop k).flatMap evCells).drop (k * 8 + (j - k) * 8)).take (k * 8) = (l.filter (keepB t ss)).flatMap evCells := by
        have hl1 : ((l.filter (keepB t ss)).flatMap evCells).length = k * 8 := by rw [flat_length evCells_length, ← hK]
        rw [List.flatMap_append]
        exact take_splice _ _ _ _ _ hl1
      rw [e3] at hcut
      refine ⟨k, hK, by simp, hcut, ?_⟩
      have hfr2 := hfr.trans (Fr.of_grown hgrow3 (S := (· = g)) (fun g' hg' => by cases hg'; rfl))
      exact ⟨hfr2.os, hfr2.tape, hfr2.output, hfr2.size, fun i hi hne => hfr2.block i hi (fun e => hne (by rw [e]))⟩
end Go.Proofs.Ytfdafkjoienpmaa
