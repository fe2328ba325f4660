/- Words for memory (slices that read as lists, owned rows, strings and bytes) that the walks share; no law is proved here. -/
import Derived.WalkKit
import Derived.WalkSpells
import Derived.WalkLawsBesides
import Derived.Lib.Hide
import Derived.Deep.AppendLies
import Derived.Deep.Draws
import Derived.Maps.AppendAt
import Derived.Laws.Rows
import Derived.Lib.OthersKept
import Derived.Lib.Strings
import Derived.WalkSmall
namespace Go.Proofs.Ytfdafkjoienpmaa
open Go.RowKit

/-- a byte as a value -/
def bv (b : UInt8) : Value := .int .u8 (b.toNat : Int)

/-- The slice value '.slice A n c' reads as the cells xs (elements of `size` cells). -/
def Rd (w : World) (size : Nat) (A : Option Addr) (n : Nat) (xs : List Value) : Prop :=
  xs.length = n * size ∧ (0 < n → ∃ b o, A = some ⟨b, o, none⟩ ∧ ∀ j u, xs[j]? = some u → w.cell? ⟨b, o + j, none⟩ = some u)

/-- bytes -/
def By (w : World) (A : Option Addr) (n : Nat) (l : List UInt8) : Prop := Rd w 1 A n (l.map bv)

section
variable {w w' : World} {size n : Nat} {A : Option Addr} {xs : List Value}

theorem Rd.nil : Rd w size none 0 [] := ⟨by simp, fun h => absurd h (by omega)⟩
theorem Rd.zero : Rd w size A 0 [] := ⟨by simp, fun h => absurd h (by omega)⟩

theorem cell_lt {p : Addr} {v : Value} (h : w.cell? p = some v) : p.block < w.heap.size := World.block_lt_of_cell? w p h

theorem Rd.keep (h : Rd w size A n xs) (hk : ∀ p u, w.cell? p = some u → w'.cell? p = some u) : Rd w' size A n xs :=
  ⟨h.1, fun hn => by
    obtain ⟨b, o, e, hc⟩ := h.2 hn
    exact ⟨b, o, e, fun j u hu => hk _ _ (hc j u hu)⟩⟩
theorem Rd.below (h : Rd w size A n xs) (hb : Below w.heap.size w w') : Rd w' size A n xs :=
  h.keep fun p u hu => (hb.cell (cell_lt hu)).trans hu

theorem By.at_ {l : List UInt8} (h : By w A n l) {k : Nat} (hk : k < n) :
    ∃ b o, A = some ⟨b, o, none⟩ ∧ ∃ x, l[k]? = some x ∧ w.cell? ⟨b, o + k, none⟩ = some (.int .u8 (x.toNat : Int)) := by
  obtain ⟨hl, h2⟩ := h
  obtain ⟨b, o, e, hc⟩ := h2 (by omega)
  have hlt : k < l.length := by simpa using (show k < (l.map bv).length by omega)
  exact ⟨b, o, e, l[k], List.getElem?_eq_getElem hlt, hc k _ (by simp [List.getElem?_eq_getElem hlt, bv])⟩
end

/-! ### strings and bytes -/
theorem foldl_push_bytes (l : List UInt8) : ∀ r : ByteArray, (l.map fun b => (b.toNat : Int)).foldl (fun r n => r.push (UInt8.ofNat n.toNat)) r = ⟨(r.data.toList ++ l).toArray⟩ := by
  induction l with
  | nil => intro r; cases r; simp
  | cons x l ih =>
    intro r
    rw [List.map_cons, List.foldl_cons, ih]
    cases r with
    | mk d => simp [ByteArray.push]

theorem rd_loadCells {P : Program} {w : World} {A : Addr} {n : Nat} {xs : List Value} (hl : xs.length = n) (hc : ∀ j u, xs[j]? = some u → w.cell? (A.add j) = some u) :
    (loadCells A n).run P w = .ok xs.toArray w := by
  have := run_firstCells_some (P := P) w 1 n A n 0 xs (by omega) hc
  simpa [Builtin.firstCells] using this

theorem addr_add (b o j : Nat) : (⟨b, o, none⟩ : Addr).add j = ⟨b, o + j, none⟩ := by
  unfold Addr.add; split <;> simp_all

/-- string(bytes) -/
theorem run_b2s {P : Program} {w : World} {A : Option Addr} {n c : Nat} {l : List UInt8} (h : By w A n l) :
    (Conv.bytesToString (.slice A n c)).run P w = .ok (.string ⟨l.toArray⟩) w := by
  obtain ⟨hl, h2⟩ := h
  have hl' : l.length = n := by simpa using hl
  rcases Nat.eq_zero_or_pos n with h0 | h0
  · subst h0
    have : l = [] := List.eq_nil_of_length_eq_zero hl'
    subst this
    cases A with
    | none => rfl
    | some a =>
      have := run_bytesToString (P := P) w a 0 c [] (by simpa using rd_loadCells (P := P) (w := w) (A := a) (n := 0) (xs := []) rfl (by simp))
      exact this
  · obtain ⟨b, o, rfl, hc⟩ := h2 h0
    have hrun := rd_loadCells (P := P) (w := w) (A := ⟨b, o, none⟩) (n := n) (xs := l.map bv) (by simpa using hl') (by intro j u hu; rw [addr_add]; exact hc j u hu)
    have := run_bytesToString (P := P) w ⟨b, o, none⟩ n c (l.map fun b => (b.toNat : Int)) (by rw [hrun]; simp [bv, Function.comp_def])
    rw [this, foldl_push_bytes]
    simp

theorem own_by {w : World} {base : Nat} {e : TypeId} {A : Option Addr} {n c : Nat} {l : List UInt8} (h : w.ownsRow base e 1 (.slice A n c) n (l.map bv)) : By w A n l := by
  refine ⟨h.1, fun hn => ?_⟩
  obtain ⟨g, cap, hv, _, hlt⟩ := h.form hn
  have hA : A = some ⟨g, 0, none⟩ := by injection hv
  subst hA
  exact ⟨g, 0, rfl, fun j u hu => by rw [← addr_add]; exact h.cells (g := g) rfl j u hu⟩

/-- an owned row's value is a slice -/
theorem own_slice {w : World} {base : Nat} {e : TypeId} {size : Nat} {v : Value} {n : Nat} {xs : List Value} (h : w.ownsRow base e size v n xs) : ∃ A c, v = .slice A n c ∧ n ≤ c ∧ c ≤ maxLen := by
  rcases h.2 with ⟨rfl, rfl⟩ | ⟨g, cap, cur, rfl, _, _, h1, h2, _⟩
  · exact ⟨none, 0, rfl, Nat.le_refl _, by unfold maxLen; omega⟩
  · exact ⟨_, _, rfl, h1, h2⟩

/-! ### append onto an owned row, the source any slice that reads -/
section
variable {P : Program} (w : World)

theorem run_append_nil (base : Nat) (t ty e : TypeId) (i : TypeInfo) (size : Nat) (ht : P.underlying t = some (.slice e)) (hi : P.info? e = some i)
    (v : Value) (n : Nat) (xs : List Value) (hown : w.ownsRow base e size v n xs) (c : Nat) : (Builtin.append_ #[t, t] ty #[v, .slice none 0 c]).run P w = .ok v w := by
  rcases hown.2 with ⟨rfl, rfl⟩ | ⟨g, cap, cur, rfl, _, _, hnc, _⟩
  · simp [Builtin.append_, run_underlying ht, sizeOf, typeInfo, hi, Builtin.lenOf, Builtin.firstCells]
  · simp [Builtin.append_, run_underlying ht, sizeOf, typeInfo, hi, Builtin.lenOf, Builtin.firstCells, hnc, storeCells]

theorem run_append_rd (base : Nat) (t ty e : TypeId) (i : TypeInfo) (z : Value) (size bytes : Nat) (ht : P.underlying t = some (.slice e)) (hi : P.info? e = some i) (hz : i.zero = some z)
    (hsize : i.size = size) (hby : i.bytes = bytes) (hzs : z.cells.size = size) (hsz : 0 < size)
    (v : Value) (n : Nat) (xs : List Value) (hown : w.ownsRow base e size v n xs)
    (A : Option Addr) (m c : Nat) (news : List Value) (hr : Rd w size A m news) (h1 : ∀ u ∈ news, u.oneCell' = true)
    (h63 : n + m ≤ maxLen) (hbytes : (n + m) * bytes ≤ 140737488355328) (hbase : base ≤ w.heap.size) :
    ∃ v' w', (Builtin.append_ #[t, t] ty #[v, .slice A m c]).run P w = .ok v' w' ∧ w'.ownsRow base e size v' (n + m) (xs ++ news) ∧ w.grownBy w' v.ownBlock ∧
      (v'.ownBlock = v.ownBlock ∨ v'.ownBlock = some w.heap.size) ∧ (v' = .slice none 0 0 → n + m = 0) := by
  have hlast : ∀ {v' : Value} {w' : World}, w'.ownsRow base e size v' (n + m) (xs ++ news) → v' = .slice none 0 0 → n + m = 0 := by
    intro v' w' h hv
    subst hv
    rcases h.2 with ⟨_, h0⟩ | ⟨g, cap, cur, hv, _⟩
    · exact h0
    · cases hv
  rcases A with _ | ad
  · have hm : m = 0 := by
      rcases Nat.eq_zero_or_pos m with h0 | h0
      · exact h0
      · obtain ⟨b, o, h, _⟩ := hr.2 h0
        cases h
    subst hm
    have hn : news = [] := List.eq_nil_of_length_eq_zero (by simpa using hr.1)
    subst hn
    exact ⟨v, w, run_append_nil w base t ty e i size ht hi v n xs hown c, by simpa using hown, World.grownBy.refl w _, .inl rfl, fun h => hlast (w' := w) (by simpa using hown) h⟩
  · have hcells : ∀ j u, news[j]? = some u → w.cell? (ad.add j) = some u := by
      intro j u hu
      rcases Nat.eq_zero_or_pos m with h0 | h0
      · subst h0
        have hn : news = [] := List.eq_nil_of_length_eq_zero (by simpa using hr.1)
        subst hn
        simp at hu
      · obtain ⟨b, o, h, hc⟩ := hr.2 h0
        injection h with h
        subst h
        rw [addr_add]
        exact hc j u hu
    obtain ⟨v', w', hrun, h2, h3, _, h5⟩ := run_append_own_at (P := P) w base t ty e i z size bytes ht hi hz hsize hby hzs hsz v n xs hown ad m c news hr.1 hcells h1 h63 hbytes hbase
    exact ⟨v', w', hrun, h2, h3, h5, hlast h2⟩

theorem wpList_append_rd {ops : Array Oper} {rest : List Oper} {o : Oper} {a : Act} {Q : Exit → Act → World → Prop} (hgd : o.guard = none) (s x : Operand) (t : TypeId)
    (ho : o.op = .call { callee := .builtin .append, args := #[s, x], argTypes := #[t, t] })
    (base : Nat) (e : TypeId) (i : TypeInfo) (z : Value) (size bytes : Nat) (ht : P.underlying t = some (.slice e)) (hi : P.info? e = some i) (hz : i.zero = some z)
    (hsize : i.size = size) (hby : i.bytes = bytes) (hzs : z.cells.size = size) (hsz : 0 < size)
    (v : Value) (n : Nat) (xs : List Value) (hs : a.eval s = v) (hown : w.ownsRow base e size v n xs)
    (A : Option Addr) (m c : Nat) (news : List Value) (hx : a.eval x = .slice A m c) (hr : Rd w size A m news) (h1 : ∀ u ∈ news, u.oneCell' = true)
    (h63 : n + m ≤ maxLen) (hbytes : (n + m) * bytes ≤ 140737488355328) (hbase : base ≤ w.heap.size)
    (h : ∀ A' c' w', w'.ownsRow base e size (.slice A' (n + m) c') (n + m) (xs ++ news) → w.grownBy w' v.ownBlock → ((Value.slice A' (n + m) c').ownBlock = v.ownBlock ∨ (Value.slice A' (n + m) c').ownBlock = some w.heap.size) →
      wpList P ops Q rest (a.put o.dst (.slice A' (n + m) c')) w') : wpList P ops Q (o :: rest) a w := by
  obtain ⟨v', w', hrun, h2, h3, h4, _⟩ := run_append_rd (P := P) w base t o.type e i z size bytes ht hi hz hsize hby hzs hsz v n xs hown A m c news hr h1 h63 hbytes hbase
  obtain ⟨A', c', rfl, _, _⟩ := own_slice h2
  refine wpList_plain hgd fun K hK => ?_
  unfold Oper.wp execOp
  simp only [ho, resolve, invoke, builtin, Sem.run_bind, Sem.run_pure, Result.andThen_ok, List.map_toArray, List.map_cons, List.map_nil, hs, hx, hrun]
  exact hK _ _ (h A' c' w' h2 h3 h4)
end

theorem Rd.lit (w : World) (size n : Nat) (cs : Array Value) (e : TypeId) (h : cs.size = n * size) : Rd (w.alloc (.cells cs e)) size (some ⟨w.heap.size, 0, none⟩) n cs.toList := by
  refine ⟨by simpa using h, fun _ => ⟨_, _, rfl, fun j u hu => ?_⟩⟩
  rw [Nat.zero_add, cell_of_row (w.alloc (.cells cs e)) w.heap.size j cs e (0, 0) (heap_alloc_new w _)]
  simpa using hu

theorem bv_oneCell (l : List UInt8) : ∀ u ∈ l.map bv, u.oneCell' = true := by
  intro u hu
  obtain ⟨x, _, rfl⟩ := List.mem_map.1 hu
  rfl

/-! ### runes -/
theorem decode_high (s : ByteArray) (pos : Nat) (h : pos < s.size) (ha : ¬ (s[pos]'h).toNat < 128) : 128 ≤ (Utf8.decode s pos).1 ∧ (Utf8.decode s pos).1 ≤ 1114111 ∧ 1 ≤ (Utf8.decode s pos).2 := by
  have e : s.get! (pos + 0) = s[pos]'h := by
    show s.get! pos = _
    simp [ByteArray.get!, getElem!_pos, h]
    rfl
  unfold Utf8.decode
  simp only [e, ha, if_false]
  have h0 := (s[pos]'h).toNat_lt
  have h1 := (s.get! (pos + 1)).toNat_lt
  have h2 := (s.get! (pos + 2)).toNat_lt
  have h3 := (s.get! (pos + 3)).toNat_lt
  generalize (s[pos]'h).toNat = b0 at *
  generalize (s.get! (pos + 1)).toNat = b1 at *
  generalize (s.get! (pos + 2)).toNat = b2 at *
  generalize (s.get! (pos + 3)).toNat = b3 at *
  repeat' split
  all_goals (simp [Utf8.valid, Utf8.runeError] at *; try omega)

theorem getElem_bs (s : ByteArray) (i : Nat) (h : i < s.size) : s[i]'h = s.data.toList[i]'(by simpa using h) := by
  show s.data[i] = _
  simp

/-- 'next' at a letter of one byte. -/
theorem next_ascii {P : Program} {w : World} {k : Nat} {s : ByteArray} {pos : Nat} {x : UInt8} (hk : w.heap[k]? = some (.stringIter s pos)) (hx : s.data.toList[pos]? = some x) (ha : x.toNat < 128) (ty : TypeId) :
    (Instr.next (.pointer (some ⟨k, 0, none⟩)) true ty).run P w = .ok (.tuple #[.bool true, .int .i64 pos, .int .i32 (x.toNat : Int)]) (w.iterAt k s (pos + 1)) := by
  have hlt : pos < s.size := by have := (List.getElem?_eq_some_iff.1 hx).1; simpa using this
  have he : s[pos]'hlt = x := by rw [getElem_bs]; exact (List.getElem?_eq_some_iff.1 hx).2
  rw [Lib.run_next_ascii_at w k s pos ty hk hlt (by rw [he]; exact ha), he]

/-- 'next' at another one: some rune of 128 or more. -/
theorem next_high {P : Program} {w : World} {k : Nat} {s : ByteArray} {pos : Nat} {x : UInt8} (hk : w.heap[k]? = some (.stringIter s pos)) (hx : s.data.toList[pos]? = some x) (ha : ¬ x.toNat < 128) (ty : TypeId) :
    ∃ (r q : Nat), 128 ≤ r ∧ r ≤ 1114111 ∧ 1 ≤ q ∧ (Instr.next (.pointer (some ⟨k, 0, none⟩)) true ty).run P w = .ok (.tuple #[.bool true, .int .i64 pos, .int .i32 (r : Int)]) (w.iterAt k s (pos + q)) := by
  have hlt : pos < s.size := by have := (List.getElem?_eq_some_iff.1 hx).1; simpa using this
  have he : s[pos]'hlt = x := by rw [getElem_bs]; exact (List.getElem?_eq_some_iff.1 hx).2
  obtain ⟨h1, h2, h3⟩ := decode_high s pos hlt (by rw [he]; exact ha)
  exact ⟨_, _, h1, h2, h3, Lib.run_next_any_at w k s pos ty hk hlt⟩

theorem next_end {P : Program} {w : World} {k : Nat} {s : ByteArray} {pos : Nat} (hk : w.heap[k]? = some (.stringIter s pos)) (hx : s.data.toList.length ≤ pos) (ty : TypeId) :
    (Instr.next (.pointer (some ⟨k, 0, none⟩)) true ty).run P w = .ok (.tuple #[.bool false]) w :=
  Lib.run_next_end_at w k s pos ty hk (by have : s.size = s.data.toList.length := by simp
                                          omega)

theorem ownsRow_iterAt' {w : World} {base : Nat} {e : TypeId} {size : Nat} {v : Value} {n : Nat} {xs : List Value} (h : w.ownsRow base e size v n xs) {k : Nat} (hk : v.ownBlock ≠ some k) (s : ByteArray) (p : Nat) : (w.iterAt k s p).ownsRow base e size v n xs := by
  refine ⟨h.1, ?_⟩
  rcases h.2 with hn | ⟨g, cap, cur, rfl, hb, hg, rest⟩
  · exact .inl hn
  · refine .inr ⟨g, cap, cur, rfl, hb, ?_, rest⟩
    rw [Lib.iterAt_other _ _ _ _ _ (by simpa [Value.ownBlock] using hk)]
    exact hg

theorem bel_trans {a b c : World} (h : Below a.heap.size a b) (k : Below b.heap.size b c) : Below a.heap.size a c := h.trans (k.mono h.size)
theorem bel_rfl {a : World} : Below a.heap.size a a := Below.refl _ _

theorem ret_bool {a b : Bool} (h : a = b) : Ending.returned (.bool a) = Ending.returned (.bool b) := by rw [h]

/-! ### rows of things of k cells -/
def Rows {α : Type} (k : Nat) (enc : α → List Value) (w : World) (A : Option Addr) (n : Nat) (l : List α) : Prop :=
  l.length = n ∧ (∀ a, (enc a).length = k) ∧ (0 < n → ∃ b o, A = some ⟨b, o, none⟩ ∧ ∀ j a, l[j]? = some a → ∀ i u, (enc a)[i]? = some u → w.cell? ⟨b, o + (j * k + i), none⟩ = some u)

section
variable {α : Type} {k : Nat} {enc : α → List Value} {w w' : World} {A : Option Addr} {n : Nat} {l : List α}

theorem flat_length (hk : ∀ a, (enc a).length = k) (l : List α) : (l.flatMap enc).length = l.length * k := by
  induction l with
  | nil => simp
  | cons x l ih => rw [List.flatMap_cons, List.length_append, ih, hk, List.length_cons, Nat.add_mul]; omega
theorem flat_get (hk : ∀ a, (enc a).length = k) (l : List α) : ∀ (j i : Nat) (a : α), l[j]? = some a → i < k → (l.flatMap enc)[j * k + i]? = (enc a)[i]? := by
  induction l with
  | nil => intro j i a h; simp at h
  | cons x l ih =>
    intro j i a h hi
    rw [List.flatMap_cons]
    cases j with
    | zero =>
      simp at h
      subst h
      rw [Nat.zero_mul, Nat.zero_add, List.getElem?_append_left (by rw [hk]; exact hi)]
    | succ j =>
      have e : (j + 1) * k + i = k + (j * k + i) := by rw [Nat.add_mul]; omega
      rw [e, List.getElem?_append_right (by rw [hk]; omega), hk, Nat.add_sub_cancel_left]
      exact ih j i a (by simpa using h) hi
theorem Rows.rd (h : Rows k enc w A n l) : Rd w k A n (l.flatMap enc) := by
  refine ⟨by rw [flat_length h.2.1, h.1], fun hn => ?_⟩
  obtain ⟨b, o, e, hc⟩ := h.2.2 hn
  refine ⟨b, o, e, fun q u hu => ?_⟩
  have hlt := (List.getElem?_eq_some_iff.1 hu).1
  rw [flat_length h.2.1] at hlt
  have hk0 : 0 < k := by
    rcases Nat.eq_zero_or_pos k with h0 | h0
    · rw [h0] at hlt; omega
    · exact h0
  have hq : q / k < l.length := Nat.div_lt_of_lt_mul (by rw [Nat.mul_comm]; exact hlt)
  have e1 : q = q / k * k + q % k := by rw [Nat.mul_comm]; exact (Nat.div_add_mod q k).symm
  rw [e1, flat_get h.2.1 l (q / k) (q % k) l[q / k] (List.getElem?_eq_getElem hq) (Nat.mod_lt _ hk0)] at hu
  rw [e1]
  exact hc _ _ (List.getElem?_eq_getElem hq) _ _ hu
theorem Rows.of_rd (hk : ∀ a, (enc a).length = k) (hl : l.length = n) (h : Rd w k A n (l.flatMap enc)) : Rows k enc w A n l := by
  refine ⟨hl, hk, fun hn => ?_⟩
  obtain ⟨b, o, e, hc⟩ := h.2 hn
  refine ⟨b, o, e, fun j a ha i u hu => hc _ _ ?_⟩
  have hi := (List.getElem?_eq_some_iff.1 hu).1
  rw [hk] at hi
  rw [flat_get hk l j i a ha hi, hu]
theorem Rows.keep (h : Rows k enc w A n l) (hk : ∀ p u, w.cell? p = some u → w'.cell? p = some u) : Rows k enc w' A n l :=
  ⟨h.1, h.2.1, fun hn => by
    obtain ⟨b, o, e, hc⟩ := h.2.2 hn
    exact ⟨b, o, e, fun j a ha i u hu => hk _ _ (hc j a ha i u hu)⟩⟩
theorem Rows.below (h : Rows k enc w A n l) (hb : Below w.heap.size w w') : Rows k enc w' A n l :=
  h.keep fun _ _ hu => (hb.cell (cell_lt hu)).trans hu
theorem Rows.at_ (h : Rows k enc w A n l) {j : Nat} (hj : j < n) : ∃ b o a, A = some ⟨b, o, none⟩ ∧ l[j]? = some a ∧ ∀ i u, (enc a)[i]? = some u → w.cell? ⟨b, o + (j * k + i), none⟩ = some u := by
  obtain ⟨b, o, e, hc⟩ := h.2.2 (by omega)
  have hjl : j < l.length := by rw [h.1]; exact hj
  exact ⟨b, o, l[j], e, List.getElem?_eq_getElem hjl, hc j _ (List.getElem?_eq_getElem hjl)⟩
end

/-- a whole struct is loaded -/
theorem run_load_agg {P : Program} {w : World} (t : TypeId) (d : TypeDesc) (hu : P.underlying t = some d) (hd : (match d with | .struct _ | .array _ _ => true | _ => false) = true) {b o : Nat} (cs : List Value)
    (hi : (P.info? t).map (·.size) = some cs.length) (hc : ∀ i u, cs[i]? = some u → w.cell? ⟨b, o + i, none⟩ = some u) :
    (Instr.loadAt t (.pointer (some ⟨b, o, none⟩))).run P w = .ok (.agg cs.toArray) w := by
  have hl : (loadCells ⟨b, o, none⟩ cs.length).run P w = .ok cs.toArray w := rd_loadCells rfl (by intro j u hu; rw [addr_add]; exact hc j u hu)
  cases hq : P.info? t with
  | none => simp [hq] at hi
  | some i =>
    have hs : i.size = cs.length := by simpa [hq] using hi
    have hagg : (isAgg t).run P w = .ok true w := by
      unfold isAgg
      rw [Sem.run_bind, run_underlying hu w]
      cases d <;> simp_all
    simp [Instr.loadAt, Instr.sureAddr, loadVar, Sem.run_bind, hagg, sizeOf, typeInfo, hq, hs, hl]

/-- integers of Go's int -/
def Ints (w : World) (A : Option Addr) (n : Nat) (l : List Int) : Prop := Rd w 1 A n (l.map (Value.int .i64))
theorem Ints.at_ {w : World} {A : Option Addr} {n : Nat} {l : List Int} (h : Ints w A n l) {k : Nat} (hk : k < n) :
    ∃ b o x, A = some ⟨b, o, none⟩ ∧ l[k]? = some x ∧ w.cell? ⟨b, o + k, none⟩ = some (.int .i64 x) := by
  obtain ⟨hl, h2⟩ := h
  obtain ⟨b, o, e, hc⟩ := h2 (by omega)
  have hlt : k < l.length := by simpa using (show k < (l.map (Value.int .i64)).length by omega)
  exact ⟨b, o, l[k], e, List.getElem?_eq_getElem hlt, hc k _ (by simp [List.getElem?_eq_getElem hlt])⟩

/-! ### what may have turned: the blocks in S, and what is new -/
structure Fr (S : Nat → Prop) (w w' : World) : Prop where
  os : w'.os = w.os
  tape : w'.tape = w.tape
  output : w'.output = w.output
  size : w.heap.size ≤ w'.heap.size
  block : ∀ k, k < w.heap.size → ¬ S k → w'.heap[k]? = w.heap[k]?

section
variable {S S' : Nat → Prop} {w w' w1 w2 w3 : World}
theorem Fr.refl (S : Nat → Prop) (w : World) : Fr S w w := ⟨rfl, rfl, rfl, Nat.le_refl _, fun _ _ _ => rfl⟩
theorem Fr.trans (h : Fr S w1 w2) (k : Fr S w2 w3) : Fr S w1 w3 :=
  ⟨k.os.trans h.os, k.tape.trans h.tape, k.output.trans h.output, Nat.le_trans h.size k.size, fun i hi hS => (k.block i (Nat.lt_of_lt_of_le hi h.size) hS).trans (h.block i hi hS)⟩
theorem Fr.mono (h : Fr S w w') (hS : ∀ k, k < w.heap.size → S k → S' k) : Fr S' w w' := ⟨h.os, h.tape, h.output, h.size, fun k hk hn => h.block k hk fun hs => hn (hS k hk hs)⟩
theorem Fr.of_below (h : Below w.heap.size w w') : Fr S w w' := ⟨h.os, h.tape, h.output, h.size, fun k hk _ => h.block k hk⟩
theorem Fr.below (h : Fr S w w') (hS : ∀ k, k < w.heap.size → ¬ S k) : Below w.heap.size w w' := ⟨h.os, h.tape, h.output, h.size, fun k hk => h.block k hk (hS k hk)⟩
theorem Fr.below_of {B : Nat} (h : Fr S w w') (hB : B ≤ w.heap.size) (hS : ∀ k, k < B → ¬ S k) : Below B w w' := ⟨h.os, h.tape, h.output, h.size, fun k hk => h.block k (Nat.lt_of_lt_of_le hk hB) (hS k hk)⟩
theorem Fr.of_grown {row : Option Nat} (h : w.grownBy w' row) (hS : ∀ g, row = some g → S g) : Fr S w w' := ⟨h.os, h.tape, h.output, h.size, fun k hk hn => h.block k hk fun e => hn (hS k e.symm)⟩
theorem Fr.alloc (o : Obj) : Fr S w (w.alloc o) := Fr.of_below ((Below.refl _ _).alloc (Nat.le_refl _) o)
theorem Fr.drewN (n : Nat) : Fr S w (w.drewN n) := Fr.of_below (below_drewN (Below.refl _ _) n)
theorem Fr.setCell {p : Addr} (hp : S p.block ∨ w.heap.size ≤ p.block) (u : Value) : Fr S w (w.setCell p u) :=
  ⟨rfl, rfl, rfl, by simp, fun k hk hn => Below.heap_setCell w p u k (fun e => by subst e; rcases hp with h | h; exact hn h; omega)⟩
theorem Fr.cell (h : Fr S w w') {p : Addr} {v : Value} (hc : w.cell? p = some v) (hn : ¬ S p.block) : w'.cell? p = some v :=
  (World.cell?_of_block (h.block p.block (cell_lt hc) hn)).trans hc
theorem Fr.rd {size n : Nat} {A : Option Addr} {xs : List Value} (h : Fr S w w') (hr : Rd w size A n xs) (hn : 0 < n → ∀ a, A = some a → ¬ S a.block) : Rd w' size A n xs :=
  ⟨hr.1, fun hp => by
    obtain ⟨b, o, e, hc⟩ := hr.2 hp
    exact ⟨b, o, e, fun j u hu => h.cell (hc j u hu) (by have := hn hp _ e; exact this)⟩⟩
theorem Fr.own {base : Nat} {e : TypeId} {size : Nat} {v : Value} {n : Nat} {xs : List Value} (h : Fr S w w') (ho : w.ownsRow base e size v n xs) (hn : ∀ g, v.ownBlock = some g → ¬ S g) : w'.ownsRow base e size v n xs := by
  refine ⟨ho.1, ?_⟩
  rcases ho.2 with h0 | ⟨g, cap, cur, rfl, hb, hg, rest⟩
  · exact .inl h0
  · refine .inr ⟨g, cap, cur, rfl, hb, ?_, rest⟩
    rw [h.block g (Array.getElem?_eq_some_iff.1 hg).1 (hn g rfl)]
    exact hg
end

/-- an owned row read -/
theorem own_rd {w : World} {base : Nat} {e : TypeId} {size : Nat} {A : Option Addr} {n c : Nat} {xs : List Value} (h : w.ownsRow base e size (.slice A n c) n xs) : Rd w size A n xs := by
  refine ⟨h.1, fun hn => ?_⟩
  obtain ⟨g, cap, hv, _, hlt⟩ := h.form hn
  have hA : A = some ⟨g, 0, none⟩ := by injection hv
  subst hA
  exact ⟨g, 0, rfl, fun j u hu => by rw [← addr_add]; exact h.cells (g := g) rfl j u hu⟩
theorem own_base {w : World} {base base' : Nat} {e : TypeId} {size : Nat} {v : Value} {n : Nat} {xs : List Value} (h : w.ownsRow base e size v n xs) (hb : base' ≤ base) : w.ownsRow base' e size v n xs := by
  refine ⟨h.1, ?_⟩
  rcases h.2 with h0 | ⟨g, cap, cur, rfl, hg, rest⟩
  · exact .inl h0
  · exact .inr ⟨g, cap, cur, rfl, by omega, rest⟩
theorem flat_oneCell {α : Type} {enc : α → List Value} (h : ∀ a, ∀ u ∈ enc a, u.oneCell' = true) (l : List α) : ∀ u ∈ l.flatMap enc, u.oneCell' = true := by
  intro u hu
  obtain ⟨a, _, hm⟩ := List.mem_flatMap.1 hu
  exact h a u hm

/-- a whole struct is stored into an owned row -/
theorem run_store_agg {P : Program} {w : World} (t : TypeId) {g o : Nat} {cur : Array Value} {t' : TypeId} (hg : w.heap[g]? = some (.cells cur t' (0, 0))) (cs : List Value) (hi : (P.info? t).map (·.size) = some cs.length)
    (hfit : o + cs.length ≤ cur.size) (h1 : ∀ v ∈ cs, v.oneCell' = true) :
    (Instr.storeAt t (.pointer (some ⟨g, o, none⟩)) (.agg cs.toArray)).run P w = .ok () (w.setRow g (cur.toList.take o ++ cs ++ cur.toList.drop (o + cs.length)).toArray) := by
  have hst := run_storeCells_at P g o t' cs 0 cur w hg (by simpa using hfit) h1
  simp only [Nat.add_zero] at hst
  cases hq : P.info? t with
  | none => simp [hq] at hi
  | some i =>
    have hs : i.size = cs.length := by simpa [hq] using hi
    simp [Instr.storeAt, Instr.sureAddr, storeVar, sizeOf, typeInfo, hq, hs, Value.cells, hst]

theorem heap_setRow {w : World} {g : Nat} {cur cs : Array Value} {t : TypeId} {fr : Nat × Nat} (hg : w.heap[g]? = some (.cells cur t fr)) : (w.setRow g cs).heap[g]? = some (.cells cs t fr) := by
  simp [World.setRow, Array.getElem?_modify, hg]
theorem heap_setRow_other {w : World} {g k : Nat} {cs : Array Value} (h : k ≠ g) : (w.setRow g cs).heap[k]? = w.heap[k]? := by
  simp only [World.setRow, Array.getElem?_modify]
  rw [if_neg (by omega)]
theorem grown_setRow (w : World) (g : Nat) (cs : Array Value) : w.grownBy (w.setRow g cs) (some g) :=
  ⟨rfl, rfl, rfl, by simp, fun k _ hk => heap_setRow_other (fun e => hk (by rw [e]))⟩

/-- element i of an owned row is replaced by other cells -/
theorem own_splice {P : Program} {w : World} {base : Nat} {e : TypeId} {size g n c : Nat} {xs : List Value} (h : w.ownsRow base e size (.slice (some ⟨g, 0, none⟩) n c) n xs) (cs : List Value) (o : Nat) (hi : (P.info? e).map (·.size) = some cs.length)
    (hfit : o + cs.length ≤ n * size) (h1 : ∀ v ∈ cs, v.oneCell' = true) :
    ∃ w', (Instr.storeAt e (.pointer (some ⟨g, o, none⟩)) (.agg cs.toArray)).run P w = .ok () w' ∧ w'.ownsRow base e size (.slice (some ⟨g, 0, none⟩) n c) n (xs.take o ++ cs ++ xs.drop (o + cs.length)) ∧ w.grownBy w' (some g) := by
  rcases h.2 with ⟨h', _⟩ | ⟨g', cap', cur, h', hb, hg, hnc, hcm, hcs, htake⟩
  · simp at h'
  · simp only [Value.slice.injEq, Option.some.injEq, Addr.mk.injEq, and_true, true_and] at h'
    obtain ⟨rfl, rfl⟩ := h'
    have hle : n * size ≤ c * size := Nat.mul_le_mul_right _ hnc
    have hcl : cur.toList.length = c * size := by simpa using hcs
    refine ⟨_, run_store_agg e hg cs hi (by omega) h1, ⟨?_, .inr ⟨g, c, _, rfl, hb, heap_setRow hg, hnc, hcm, ?_, ?_⟩⟩, grown_setRow _ _ _⟩
    · simp [h.1]; omega
    · simp [hcs]; omega
    · rw [← htake]
      apply List.ext_getElem?
      intro j
      simp only [List.getElem?_take, List.getElem?_append, List.getElem?_drop, List.length_append, List.length_take, hcl]
      repeat' split
      all_goals first
        | rfl
        | omega
        | (congr 1; omega)
        | (simp; omega)
        | (rw [List.getElem?_eq_none] <;> omega)

/-- a whole struct stored into an owned row, as an arm of the walk -/
theorem wpList_splice {P : Program} {ops : Array Oper} {rest : List Oper} {o : Oper} {a : Act} {Q : Exit → Act → World → Prop} {w : World} (hgd : o.guard = none) (t : TypeId) (p v : Operand) (ho : o.op = .store t p v)
    (base : Nat) (size g n c : Nat) (xs : List Value) (off : Nat) (cs : List Value) (hp : a.eval p = .pointer (some ⟨g, off, none⟩)) (hv : a.eval v = .agg cs.toArray) (h : w.ownsRow base t size (.slice (some ⟨g, 0, none⟩) n c) n xs)
    (hi : (P.info? t).map (·.size) = some cs.length) (hfit : off + cs.length ≤ n * size) (h1 : ∀ v ∈ cs, v.oneCell' = true)
    (hK : ∀ w', w'.ownsRow base t size (.slice (some ⟨g, 0, none⟩) n c) n (xs.take off ++ cs ++ xs.drop (off + cs.length)) → w.grownBy w' (some g) → wpList P ops Q rest (a.put o.dst undef) w') : wpList P ops Q (o :: rest) a w := by
  obtain ⟨w', hrun, h2, h3⟩ := own_splice (P := P) h cs off hi hfit h1
  refine wpList_plain hgd fun K hK' => ?_
  unfold Oper.wp execOp
  simp only [ho, hp, hv, Sem.run_bind, Sem.run_pure, Result.andThen_ok, hrun]
  exact hK' _ _ (hK w' h2 h3)

theorem flat_set {α : Type} {k : Nat} {enc : α → List Value} (hk : ∀ a, (enc a).length = k) (l : List α) (i : Nat) (a : α) (hi : i < l.length) :
    (l.flatMap enc).take (i * k) ++ enc a ++ (l.flatMap enc).drop (i * k + (enc a).length) = (l.set i a).flatMap enc := by
  induction l generalizing i with
  | nil => simp at hi
  | cons x l ih =>
    cases i with
    | zero => simp [hk, List.drop_append, hk x]
    | succ i =>
      have e : (i + 1) * k = k + i * k := by rw [Nat.add_mul]; omega
      have h2 := ih i (by simpa using hi)
      rw [hk] at h2
      simp only [List.flatMap_cons, List.set_cons_succ, e, hk]
      rw [← h2, List.take_append, List.drop_append, hk, List.take_of_length_le (by rw [hk]; omega), List.drop_eq_nil_of_le (by rw [hk]; omega)]
      simp only [List.nil_append, List.append_assoc]
      congr 2
      · congr 1; omega
      · congr 2; omega

theorem bel_own {w w' : World} {base : Nat} {e : TypeId} {size : Nat} {v : Value} {n : Nat} {xs : List Value} (hb : Below w.heap.size w w') (ho : w.ownsRow base e size v n xs) : w'.ownsRow base e size v n xs :=
  Fr.own (S := fun _ => False) (Fr.of_below hb) ho (fun _ _ h => h)
theorem filter_take_succ {α : Type} (p : α → Bool) (l : List α) (j : Nat) (e : α) (he : l[j]? = some e) : (l.take (j + 1)).filter p = (l.take j).filter p ++ if p e then [e] else [] := by
  rw [List.take_add_one, he, List.filter_append]
  simp [List.filter_cons]

/-- cells stored into an owned row -/
theorem own_cells {P : Program} {w : World} {base : Nat} {e : TypeId} {size g n c : Nat} {xs : List Value} (h : w.ownsRow base e size (.slice (some ⟨g, 0, none⟩) n c) n xs) (cs : List Value) (o : Nat)
    (hfit : o + cs.length ≤ n * size) (h1 : ∀ v ∈ cs, v.oneCell' = true) :
    ∃ w', (storeCells ⟨g, o, none⟩ cs).run P w = .ok () w' ∧ w'.ownsRow base e size (.slice (some ⟨g, 0, none⟩) n c) n (xs.take o ++ cs ++ xs.drop (o + cs.length)) ∧ w.grownBy w' (some g) := by
  rcases h.2 with ⟨h', _⟩ | ⟨g', cap', cur, h', hb, hg, hnc, hcm, hcs, htake⟩
  · simp at h'
  · simp only [Value.slice.injEq, Option.some.injEq, Addr.mk.injEq, and_true, true_and] at h'
    obtain ⟨rfl, rfl⟩ := h'
    have hle : n * size ≤ c * size := Nat.mul_le_mul_right _ hnc
    have hcl : cur.toList.length = c * size := by simpa using hcs
    refine ⟨_, (by have := run_storeCells_at P g o e cs 0 cur w hg (by simp; omega) h1; simpa using this), ⟨?_, .inr ⟨g, c, _, rfl, hb, heap_setRow hg, hnc, hcm, ?_, ?_⟩⟩, grown_setRow _ _ _⟩
    · simp [h.1]; omega
    · simp [hcs]; omega
    · rw [← htake]
      apply List.ext_getElem?
      intro j
      simp only [List.getElem?_take, List.getElem?_append, List.getElem?_drop, List.length_append, List.length_take, hcl]
      repeat' split
      all_goals first
        | rfl
        | omega
        | (congr 1; omega)
        | (simp; omega)
        | (rw [List.getElem?_eq_none] <;> omega)

theorem wpList_clear_own {P : Program} {ops : Array Oper} {rest : List Oper} {o : Oper} {a : Act} {Q : Exit → Act → World → Prop} {w : World} (hgd : o.guard = none) (x : Operand) (t : TypeId) (ho : o.op = .call { callee := .builtin .clear, args := #[x], argTypes := #[t] })
    (e : TypeId) (ht : P.underlying t = some (.slice e)) (z : Value) (hz : ∀ w, (zeroValue e).run P w = .ok z w) (size : Nat) (hzs : z.cells.size = size) (hz1 : ∀ u ∈ z.cells.toList, u.oneCell' = true)
    (base g n c off m c' : Nat) (xs : List Value) (hx : a.eval x = .slice (some ⟨g, off, none⟩) m c') (h : w.ownsRow base e size (.slice (some ⟨g, 0, none⟩) n c) n xs) (hm : 0 < m) (hfit : off + m * size ≤ n * size)
    (hK : ∀ w' ys, ys.length = m * size → w'.ownsRow base e size (.slice (some ⟨g, 0, none⟩) n c) n (xs.take off ++ ys ++ xs.drop (off + m * size)) → w.grownBy w' (some g) → wpList P ops Q rest (a.put o.dst (.tuple #[])) w') : wpList P ops Q (o :: rest) a w := by
  have hlen : (Builtin.zeroCells z.cells m).toList.length = m * size := by rw [Array.length_toList, size_zeroCells, hzs]
  have h1 : ∀ v ∈ (Builtin.zeroCells z.cells m).toList, v.oneCell' = true := by
    intro v hv
    simp only [Builtin.zeroCells, Array.toList_map, List.mem_map] at hv
    obtain ⟨i, hi, rfl⟩ := hv
    have hi2 : i < m * z.cells.size := by simpa using hi
    have hpos : 0 < z.cells.size := by
      rcases Nat.eq_zero_or_pos z.cells.size with h0 | h0
      · rw [h0] at hi2; omega
      · exact h0
    have hlt : i % z.cells.size < z.cells.size := Nat.mod_lt _ hpos
    rw [getElem!_pos z.cells _ hlt]
    exact hz1 _ (Array.getElem_mem_toList hlt)
  obtain ⟨w', hrun, h2, h3⟩ := own_cells (P := P) h _ off (by rw [hlen]; exact hfit) h1
  obtain ⟨m', rfl⟩ : ∃ m', m = m' + 1 := ⟨m - 1, by omega⟩
  refine wpList_plain hgd fun K hK' => ?_
  unfold Oper.wp execOp
  have hcl : (Builtin.clear_ #[t] o.type #[.slice (some ⟨g, off, none⟩) (m' + 1) c']).run P w = .ok (.tuple #[]) w' := by
    simp [Builtin.clear_, run_underlying ht, hz, hrun]
  simp only [ho, resolve, invoke, builtin, Sem.run_bind, Sem.run_pure, Result.andThen_ok, List.map_toArray, List.map_cons, List.map_nil, hx, hcl]
  exact hK' _ _ (hK w' _ hlen (by rw [hlen] at h2; exact h2) h3)

/-- the head of an owned row -/
theorem own_cut {w : World} {base : Nat} {e : TypeId} {size g n c : Nat} {xs : List Value} (h : w.ownsRow base e size (.slice (some ⟨g, 0, none⟩) n c) n xs) (m : Nat) (hm : m ≤ n) :
    w.ownsRow base e size (.slice (some ⟨g, 0, none⟩) m c) m (xs.take (m * size)) := by
  have hle : m * size ≤ n * size := Nat.mul_le_mul_right _ hm
  refine ⟨by rw [List.length_take, h.1]; omega, ?_⟩
  rcases h.2 with ⟨h', _⟩ | ⟨g', cap', cur, h', hb, hg, hnc, hcm, hcs, htake⟩
  · simp at h'
  · simp only [Value.slice.injEq, Option.some.injEq, Addr.mk.injEq, and_true, true_and] at h'
    obtain ⟨rfl, rfl⟩ := h'
    exact .inr ⟨g, c, cur, rfl, hb, hg, by omega, hcm, hcs, by rw [← htake, List.take_take, Nat.min_eq_left hle]⟩

/-- one cell of one thing in a row is set -/
theorem flat_set_cell {α : Type} {k : Nat} {enc : α → List Value} (hk : ∀ a, (enc a).length = k) (l : List α) (i q : Nat) (a a' : α) (u : Value) (hi : l[i]? = some a) (hq : q < k) (ha : enc a' = (enc a).set q u) :
    (l.flatMap enc).set (i * k + q) u = (l.set i a').flatMap enc := by
  induction l generalizing i with
  | nil => simp at hi
  | cons x l ih =>
    cases i with
    | zero =>
      simp at hi
      subst hi
      simp only [List.flatMap_cons, List.set_cons_zero, ha]
      rw [Nat.zero_mul, Nat.zero_add, List.set_append_left _ _ (by rw [hk]; exact hq)]
    | succ i =>
      have h2 := ih i (by simpa using hi)
      simp only [List.flatMap_cons, List.set_cons_succ]
      rw [← h2, List.set_append_right _ _ (by rw [hk, Nat.add_mul]; omega), hk]
      congr 2
      rw [Nat.add_mul]; omega

/-- bytes stay where a cell that is no byte is written -/
theorem By.setCell {w : World} {A : Option Addr} {n : Nat} {l : List UInt8} (h : By w A n l) {p : Addr} {v : Value} (hc : w.cell? p = some v) (hv : ∀ x, v ≠ bv x) (u : Value) : By (w.setCell p u) A n l :=
  ⟨h.1, fun hn => by
    obtain ⟨b, o, e, hb⟩ := h.2 hn
    refine ⟨b, o, e, fun j y hy => ?_⟩
    have h1 := hb j y hy
    rw [World.cell?_setCell_other _ _ _ _ ?_]
    · exact h1
    · intro e2
      rw [← e2, hc] at h1
      obtain ⟨x, hx, hxy⟩ := List.mem_map.1 (List.mem_of_getElem? hy)
      injection h1 with h1
      exact hv x (h1.trans hxy.symm)⟩
end Go.Proofs.Ytfdafkjoienpmaa
