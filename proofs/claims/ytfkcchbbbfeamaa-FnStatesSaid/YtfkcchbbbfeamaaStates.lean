/- Small words for the law of states: rows of words as they read, one element of a row of states, of finds. -/
import Derived.Test.YtfkcchbbbfeamaaCurW
import Derived.Test.YtfkcchbbbfeamaaSame
import Derived.Test.YtfkcchbbbfeamaaAuto7
import Derived.Test.YtfkcchbbbfeamaaAuto9
import Derived.Test.YtfkcchbbbfeamaaHFoundS
import Derived.Test.YtfkcchbbbfeamaaHStateS
namespace Go.Proofs.Ytfkcchbbbfeamaa
set_option linter.unusedVariables false
open Go.ChangeShapes Go.WideShapes Go.ChangeAt Go.RowKit
set_option maxRecDepth 100000

theorem strs_rdl {B : Nat} {w : World} : ∀ (ss : List ByteArray), (∀ s ∈ ss, s.size ≤ maxLen) → ∃ vss : List (List Value), vss.flatten = strs ss ∧ RdL kStr B w vss ss
  | [], _ => ⟨[], rfl, trivial⟩
  | s :: ss, h => by
    obtain ⟨vss, h1, h2⟩ := strs_rdl (B := B) (w := w) ss (fun t ht => h t (by simp [ht]))
    exact ⟨[.string s] :: vss, by rw [List.flatten_cons, h1]; rfl, ⟨rfl, h s (by simp)⟩, h2⟩
theorem strs_rd {w : World} {base cap : Nat} {a : Option Addr} {ss : List ByteArray} (ho : w.ownsRow base 9 1 (.slice a ss.length cap) ss.length (strs ss)) (h : ∀ s ∈ ss, s.size ≤ 21) : kStringS.rd w.heap.size w [.slice a ss.length cap] ss := by
  obtain ⟨vss, h1, h2⟩ := strs_rdl (B := w.heap.size) (w := w) ss (fun s hs => by have := h s hs; unfold maxLen; omega)
  exact ⟨a, cap, vss, rfl, own_caps ho, by rw [h1]; exact own_rw ho, h2⟩
theorem wt_small {ss : List ByteArray} (hn : ss.length ≤ 9) (h : ∀ s ∈ ss, s.size ≤ 21) : kStringS.wt ss ≤ 1048576 := by
  have key : ∀ ss : List ByteArray, (∀ s ∈ ss, s.size ≤ 21) → sumL kStr.wt ss ≤ 21 * ss.length := by
    intro ss
    induction ss with
    | nil => intro _; exact Nat.le_refl _
    | cons x r ih => intro h; rw [sumL, List.length_cons]; have := ih (fun t ht => h t (by simp [ht])); have h2 : kStr.wt x ≤ 21 := h x (by simp); omega
  have := key ss h
  show ss.length + sumL kStr.wt ss ≤ _
  omega
/-- one find of a row of finds -/
theorem found_cell {B : Nat} {w : World} {a : Option Addr} {m cap k : Nat} {xs : List (Int × Int)} (h : kFoundS.rd B w [.slice a m cap] xs) (hk : k < xs.length) :
    ∃ b off, a = some ⟨b, off, none⟩ ∧ b < B ∧ w.cell? ⟨b, off + k * 2, none⟩ = some (.int .i64 (xs.getD k (0, 0)).1) ∧ w.cell? ⟨b, off + k * 2 + 1, none⟩ = some (.int .i64 (xs.getD k (0, 0)).2) := by
  have hx : xs[k]? = some (xs.getD k (0, 0)) := by rw [List.getD, List.getElem?_eq_getElem hk]; rfl
  obtain ⟨v, b, off, hr, ha, hb, hc⟩ := sl_at kFound_ok (n := 2) rfl (by decide) h hx
  obtain ⟨rfl, _, _⟩ := Found_rd hr
  exact ⟨b, off, ha, hb, by have := hc 0 _ rfl; simpa using this, by have := hc 1 _ rfl; simpa [Nat.add_assoc] using this⟩
/-- one state of a row of states -/
theorem state_cell {B : Nat} {w : World} {a : Option Addr} {m cap k : Nat} {xs : List (Int × UInt8 × Int × List Int)} (h : kStateS.rd B w [.slice a m cap] xs) {x : Int × UInt8 × Int × List Int} (hx : xs[k]? = some x) :
    ∃ b off q c, a = some ⟨b, off, none⟩ ∧ b < B ∧ w.cell? ⟨b, off + k * 4, none⟩ = some (.int .i64 x.1) ∧ w.cell? ⟨b, off + k * 4 + 1, none⟩ = some (.int .u8 (x.2.1.toNat : Int)) ∧ w.cell? ⟨b, off + k * 4 + 2, none⟩ = some (.int .i64 x.2.2.1) ∧ w.cell? ⟨b, off + k * 4 + 3, none⟩ = some (.slice q x.2.2.2.length c) ∧ kIntS.rd B w [.slice q x.2.2.2.length c] x.2.2.2 := by
  obtain ⟨v, b, off, hr, ha, hb, hc⟩ := sl_at kState_ok (n := 4) rfl (by decide) h hx
  obtain ⟨q, c, rfl, _, _, h3⟩ := State_rd hr
  exact ⟨b, off, q, c, ha, hb, by have := hc 0 _ rfl; simpa using this, by have := hc 1 _ rfl; simpa [Nat.add_assoc] using this, by have := hc 2 _ rfl; simpa [Nat.add_assoc] using this, by have := hc 3 _ rfl; simpa [Nat.add_assoc] using this, h3⟩
theorem ints_rowOf {B : Nat} {w : World} {a : Option Addr} {m cap : Nat} {xs : List Int} (h : kIntS.rd B w [.slice a m cap] xs) (hB : B ≤ w.heap.size) : Rw w a (ints xs) ∧ xs.length ≤ 9223372036854775807 := by
  have hl := sl_len h
  obtain ⟨a', cap', vss, hc, hcap, hrow, hrd⟩ := h
  simp only [List.cons.injEq, Value.slice.injEq, and_true] at hc
  obtain ⟨rfl, _, _⟩ := hc
  have key : ∀ (vss : List (List Value)) (xs : List Int), RdL kInt B w vss xs → vss.flatten = ints xs := by
    intro vss
    induction vss with
    | nil => intro ws h; match ws, h with | [], _ => rfl
    | cons v vs ih =>
      intro ws h
      match ws, h with
      | x :: xs, h =>
        obtain ⟨⟨rfl, _⟩, h2⟩ := h
        rw [List.flatten_cons, ih xs h2]; rfl
  rw [key vss xs hrd] at hrow
  exact ⟨hrow.rw hB, by omega⟩
theorem word_cell {B : Nat} {w : World} {a : Option Addr} {m cap k : Nat} {ss : List ByteArray} (h : kStringS.rd B w [.slice a m cap] ss) (hk : k < ss.length) : ∃ b off, a = some ⟨b, off, none⟩ ∧ b < B ∧ w.cell? ⟨b, off + k, none⟩ = some (.string (ss.getD k ByteArray.empty)) := by
  have hx : ss[k]? = some (ss.getD k ByteArray.empty) := by rw [List.getD, List.getElem?_eq_getElem hk]; rfl
  obtain ⟨u, b, off, hr, ha, hb, hc⟩ := sl_one kStr_ok rfl h hx
  obtain ⟨hu, _⟩ := hr
  simp only [List.cons.injEq, and_true] at hu
  subst hu
  exact ⟨b, off, ha, hb, hc⟩
theorem dig_one (s : ByteArray) (i : Nat) (h : i < s.size) : dig1 ((s[i].toNat : Nat) : Int) = one1 (atS s i) := by
  rw [atS_eq s i h]; show one1 (UInt8.ofNat (((atS s i).toNat : Int)).toNat) = _; rw [Int.toNat_natCast, UInt8.ofNat_toNat]
/-- the states, one after the other -/
theorem st_at {ws : List ByteArray} {k : Nat} (h : k < (textsR ws).length) : ((textsR ws).map (stR ws))[k]? = some (stR ws (tx ws k)) := by
  rw [List.getElem?_map, tx_at h]; rfl
theorem byte_iff (a b : UInt8) : ((a.toNat : Int) == (b.toNat : Int)) = decide (a = b) := by
  rw [Bool.eq_iff_iff, beq_iff_eq, decide_eq_true_eq]
  exact ⟨fun h => UInt8.toNat_inj.1 (by omega), fun h => by rw [h]⟩
end Go.Proofs.Ytfkcchbbbfeamaa
