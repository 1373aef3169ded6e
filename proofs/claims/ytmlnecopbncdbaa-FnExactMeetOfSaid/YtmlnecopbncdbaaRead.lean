/- How an argument that came in reads: from the form's own reading of it to plain facts on its cells. No function of the program is named here. -/
import Derived.Test.YtmlnecopbncdbaaBase
import Derived.Deep.Slices
namespace Go.Proofs.Ytmlnecopbncdbaa
set_option linter.unusedVariables false
set_option linter.unusedSimpArgs false
open Go.ChangeShapes Go.WideShapes Go.ChangeAt Go.RowKit

/-- A way in which cells read as something, in blocks below B. -/
abbrev CR (α : Type) := Nat → World → List Value → α → Prop
def rInt (k : IntKind) : CR Int := fun _ _ cs n => cs = [.int k n] ∧ (Lit.int k n).wf = true
def rStr : CR ByteArray := fun _ _ cs s => cs = [.string s] ∧ s.size ≤ maxLen
def rBool : CR Bool := fun _ _ cs b => cs = [.bool b]
def rSl {α : Type} (k : Nat) (R : CR α) : CR (List α) := fun B w cs xs =>
  ∃ (a : Option Addr) (cap : Nat) (vss : List (List Value)), cs = [.slice a xs.length cap] ∧ (xs.length ≤ cap ∧ cap ≤ maxLen) ∧ Rb B w a vss.flatten ∧ vss.length = xs.length ∧ ∀ (i : Nat) (v : List Value) (x : α), vss[i]? = some v → xs[i]? = some x → v.length = k ∧ R B w v x
def rApp {α β : Type} (j : Nat) (R : CR α) (S : CR β) : CR (α × β) := fun B w cs x => R B w (cs.take j) x.1 ∧ S B w (cs.drop j) x.2

/-- What is read so is read so in every later world that keeps what lay below B. -/
def Firm {α : Type} (R : CR α) : Prop := ∀ B w w' cs x, R B w cs x → Below B w w' → R B w' cs x
theorem firm_int (k : IntKind) : Firm (rInt k) := fun _ _ _ _ _ h _ => h
theorem firm_str : Firm rStr := fun _ _ _ _ _ h _ => h
theorem firm_bool : Firm rBool := fun _ _ _ _ _ h _ => h
theorem firm_sl {α : Type} {k : Nat} {R : CR α} (hR : Firm R) : Firm (rSl k R) := by
  intro B w w' cs xs ⟨a, cap, vss, h1, h2, h3, h4, h5⟩ hb
  exact ⟨a, cap, vss, h1, h2, h3.below hb, h4, fun i v x hv hx => ⟨(h5 i v x hv hx).1, hR _ _ _ _ _ (h5 i v x hv hx).2 hb⟩⟩
theorem firm_app {α β : Type} {j : Nat} {R : CR α} {S : CR β} (hR : Firm R) (hS : Firm S) : Firm (rApp j R S) :=
  fun _ _ _ _ _ h hb => ⟨hR _ _ _ _ _ h.1 hb, hS _ _ _ _ _ h.2 hb⟩

/-- A type whose values read so. -/
structure Reads {α : Type} (P : Program) (t : TypeId) (k : Nat) (R : CR α) : Prop where
  cells : P.cellsOf t = k
  read : ∀ {H : Type} {enc : TypeId × Value → H} {w : World} {fuel : Nat} {cs : List Value} {d : DataW H × List MemPlace}, DataW.trod enc P w 0 (fun _ => true) true fuel t cs = some d → ∃ x, R w.heap.size w cs x

section
variable {P : Program} {t e : TypeId}
theorem reads_int {k : IntKind} (ht : P.underlying t = some (.int k)) (hc : P.cellsOf t = 1) : Reads P t 1 (rInt k) :=
  ⟨hc, fun h => by obtain ⟨n, rfl, _, hw⟩ := DataW.trod_int ht h; exact ⟨n, rfl, hw⟩⟩
theorem reads_str (ht : P.underlying t = some .string) (hc : P.cellsOf t = 1) : Reads P t 1 rStr :=
  ⟨hc, fun h => by obtain ⟨n, rfl, _, hw⟩ := DataW.trod_string ht h; exact ⟨n, rfl, hw⟩⟩
theorem reads_bool (ht : P.underlying t = some .bool) (hc : P.cellsOf t = 1) : Reads P t 1 rBool :=
  ⟨hc, fun h => by obtain ⟨n, rfl, _⟩ := DataW.trod_bool ht h; exact ⟨n, rfl⟩⟩

theorem choose_list {α β : Type} (l : List α) (p : Nat → α → β → Prop) (h : ∀ (i : Nat) (a : α), l[i]? = some a → ∃ b, p i a b) : ∃ m : List β, m.length = l.length ∧ ∀ (i : Nat) (a : α) (b : β), l[i]? = some a → m[i]? = some b → p i a b := by
  induction l generalizing p with
  | nil => exact ⟨[], rfl, fun i a b h1 => by simp at h1⟩
  | cons a l ih =>
    obtain ⟨b, hb⟩ := h 0 a rfl
    obtain ⟨m, hm, hp⟩ := ih (fun i => p (i + 1)) (fun i a h1 => h (i + 1) a h1)
    refine ⟨b :: m, by simp [hm], fun i a' b' h1 h2 => ?_⟩
    cases i with
    | zero => simp at h1 h2; subst h1 h2; exact hb
    | succ i => exact hp i a' b' (by simpa using h1) (by simpa using h2)

theorem flatten_getElem? {α : Type} (k : Nat) : ∀ (l : List (List α)) (_ : ∀ v ∈ l, v.length = k) (i : Nat) (u : α), l.flatten[i]? = some u → ∃ (q r : Nat) (v : List α), i = q * k + r ∧ r < k ∧ l[q]? = some v ∧ v[r]? = some u
  | [], _, i, u, h => by simp at h
  | v :: l, hl, i, u, h => by
    have hv : v.length = k := hl v (by simp)
    rw [List.flatten_cons] at h
    by_cases hi : i < k
    · rw [List.getElem?_append_left (by omega)] at h
      exact ⟨0, i, v, by simp, hi, rfl, h⟩
    · rw [List.getElem?_append_right (by omega), hv] at h
      obtain ⟨q, r, v', h1, h2, h3, h4⟩ := flatten_getElem? k l (fun v hv => hl v (by simp [hv])) (i - k) u h
      exact ⟨q + 1, r, v', by rw [Nat.add_mul]; omega, h2, by simpa using h3, h4⟩

theorem reads_slice {α : Type} {k : Nat} {R : CR α} (ht : P.underlying t = some (.slice e)) (hc : P.cellsOf t = 1) (hk : 0 < k) (hR : Reads P e k R) : Reads P t 1 (rSl k R) := by
  refine ⟨hc, fun {H enc w fuel cs d} h => ?_⟩
  rcases DataW.trod_slice ht h with ⟨rfl, _⟩ | ⟨a, len, cap, elems, rest, n, _, rfl, rfl, _, hl, hm, hlen, hel, _, _⟩
  · exact ⟨[], none, 0, [], rfl, ⟨Nat.le_refl _, Nat.zero_le _⟩, .inl rfl, rfl, fun i v x hv => by simp at hv⟩
  rw [hR.cells] at hel
  obtain ⟨vss, hvl, hv⟩ := choose_list elems (fun i y v => w.cells? 0 (a.add (i * k)) k = some v ∧ DataW.trod enc P w 0 (fun _ => true) true n e v = some y) (fun i y hy => by
    have hi : i < len := by rw [← hlen]; exact (List.getElem?_eq_some_iff.1 hy).1
    have := hel i hi
    rw [hy, Option.bind_eq_some_iff] at this
    exact this)
  obtain ⟨xs, hxl, hx⟩ := choose_list vss (fun _ v x => R w.heap.size w v x) (fun i v hvi => by
    have hi : i < elems.length := by rw [← hvl]; exact (List.getElem?_eq_some_iff.1 hvi).1
    exact hR.read (hv i _ v (List.getElem?_eq_getElem hi) hvi).2)
  have hvk : ∀ v ∈ vss, v.length = k := by
    intro v hv'
    obtain ⟨i, hi⟩ := List.getElem?_of_mem hv'
    have hil : i < elems.length := by rw [← hvl]; exact (List.getElem?_eq_some_iff.1 hi).1
    exact (World.cells?_some (hv i _ v (List.getElem?_eq_getElem hil) hi).1).2.1
  refine ⟨xs, some a, cap, vss, by rw [hxl, hvl, hlen], by rw [hxl, hvl, hlen]; exact ⟨hl, hm⟩, ?_, hxl.symm, fun i v x h1 h2 => ⟨hvk v (List.mem_of_getElem? h1), hx i v x h1 h2⟩⟩
  by_cases hnil : vss.flatten = []
  · exact .inl hnil
  have key : ∀ i u, vss.flatten[i]? = some u → w.cell? (a.add i) = some u := by
    intro i u hu
    obtain ⟨q, r, v, rfl, hr, hq, hvr⟩ := flatten_getElem? k vss hvk i u hu
    have hil : q < elems.length := by rw [← hvl]; exact (List.getElem?_eq_some_iff.1 hq).1
    have := (World.cells?_some (hv q _ v (List.getElem?_eq_getElem hil) hq).1).2.2 r hr
    rw [Deep.add_add] at this
    rw [this, hvr]
  obtain ⟨b, off, spot⟩ := a
  have h0 : ∃ u, vss.flatten[0]? = some u := by
    cases hf : vss.flatten with
    | nil => exact absurd hf hnil
    | cons u r => exact ⟨u, rfl⟩
  obtain ⟨u0, hu0⟩ := h0
  have hc0 := key 0 u0 hu0
  have hspot : spot = none := by simpa [Addr.add] using World.cell?_spot hc0
  subst hspot
  refine .inr ⟨b, off, rfl, World.block_lt_of_cell? w _ hc0, fun i u hu => ?_⟩
  have := key i u hu
  have hadd : (⟨b, off, none⟩ : Addr).add i = ⟨b, off + i, none⟩ := by unfold Addr.add; split <;> simp_all
  rwa [hadd] at this

theorem reads_struct1 {α : Type} {k0 : Nat} {R0 : CR α} {f0 : Field} (ht : P.underlying t = some (.struct #[f0])) (hc : P.cellsOf t = k0) (ho : f0.offset = 0) (h0 : Reads P f0.type k0 R0) : Reads P t k0 R0 := by
  refine ⟨hc, fun {H enc w fuel cs d} h => ?_⟩
  obtain ⟨y0, n, _, hl, hy⟩ := trod_struct1 ht h
  rw [ho, List.drop_zero, h0.cells, List.take_of_length_le (by omega)] at hy
  exact h0.read hy
theorem reads_struct2 {α β : Type} {k0 k1 : Nat} {R0 : CR α} {R1 : CR β} {f0 f1 : Field} (ht : P.underlying t = some (.struct #[f0, f1])) (hc : P.cellsOf t = k0 + k1) (ho : f0.offset = 0) (ho1 : f1.offset = k0) (h0 : Reads P f0.type k0 R0) (h1 : Reads P f1.type k1 R1) : Reads P t (k0 + k1) (rApp k0 R0 R1) := by
  refine ⟨hc, fun {H enc w fuel cs d} h => ?_⟩
  obtain ⟨y0, y1, n, _, hl, hy, hz⟩ := trod_struct2 ht h
  rw [ho, List.drop_zero, h0.cells] at hy
  rw [ho1, h1.cells, List.take_of_length_le (by rw [List.length_drop]; omega)] at hz
  obtain ⟨x0, hx0⟩ := h0.read hy
  obtain ⟨x1, hx1⟩ := h1.read hz
  exact ⟨(x0, x1), hx0, hx1⟩

/-! ### an argument's own form -/
theorem arg_slice {W : World} {r : Reach} {b0 : Nat} {v : Value} {a : Option Addr} {n c : Nat} (ht : P.underlying t = some (.slice e)) (hval : Value.okWide P W r b0 t v) (h : v.cells.toList = [.slice a n c]) : v = .slice a n c := by
  obtain ⟨a', n', c', rfl⟩ := okWide_slice ht hval
  simpa [Value.cells] using h
theorem arg_struct {W : World} {r : Reach} {b0 : Nat} {v : Value} {fs : Array Field} (ht : P.underlying t = some (.struct fs)) (hval : Value.okWide P W r b0 t v) : v = .agg v.cells.toList.toArray := by
  unfold Value.okWide at hval
  rw [ht] at hval
  obtain ⟨cs, rfl, _⟩ := hval
  simp [Value.cells]
end

/-! ### what a reading is good for -/
theorem rSl_one {α : Type} {B : Nat} {w : World} {cs : List Value} {xs : List α} {R : CR α} {V : α → Value} (hV : ∀ v x, R B w v x → v = [V x]) (h : rSl 1 R B w cs xs) : ∃ a cap, cs = [.slice a xs.length cap] ∧ Rb B w a (xs.map V) ∧ xs.length ≤ cap ∧ cap ≤ maxLen ∧ ∀ x ∈ xs, R B w [V x] x := by
  obtain ⟨a, cap, vss, h1, h2, h3, h4, h5⟩ := h
  have e : vss = xs.map fun x => [V x] := by
    apply List.ext_getElem?
    intro i
    by_cases hi : i < xs.length
    · have hv : vss[i]? = some (vss[i]'(by omega)) := List.getElem?_eq_getElem (by omega)
      have hx : xs[i]? = some xs[i] := List.getElem?_eq_getElem hi
      have := hV _ _ (h5 i _ _ hv hx).2
      rw [List.getElem?_map, hx, hv, this]; rfl
    · rw [List.getElem?_eq_none (by omega), List.getElem?_eq_none (by simp; omega)]
  have e2 : ∀ l : List α, (l.map fun x => [V x]).flatten = l.map V := by
    intro l
    induction l with
    | nil => rfl
    | cons s r ih => rw [List.map_cons, List.flatten_cons, ih]; rfl
  rw [e, e2] at h3
  refine ⟨a, cap, h1, h3, h2.1, h2.2, fun s hs => ?_⟩
  obtain ⟨i, hi⟩ := List.getElem?_of_mem hs
  have hil := (List.getElem?_eq_some_iff.1 hi).1
  have hv : vss[i]? = some (vss[i]'(by omega)) := List.getElem?_eq_getElem (by omega)
  have := (h5 i _ _ hv hi).2
  rwa [hV _ _ this] at this

theorem rSl_str {B : Nat} {w : World} {cs : List Value} {ss : List ByteArray} (h : rSl 1 rStr B w cs ss) : ∃ a cap, cs = [.slice a ss.length cap] ∧ Rb B w a (strs ss) ∧ ss.length ≤ cap ∧ cap ≤ maxLen ∧ ∀ s ∈ ss, s.size ≤ maxLen := by
  obtain ⟨a, cap, h1, h2, h3, h3', h4⟩ := rSl_one (V := Value.string) (fun _ _ h => h.1) h
  exact ⟨a, cap, h1, h2, h3, h3', fun s hs => (h4 s hs).2⟩
theorem rSl_int {B : Nat} {w : World} {cs : List Value} {xs : List Int} (h : rSl 1 (rInt .i64) B w cs xs) : ∃ a cap, cs = [.slice a xs.length cap] ∧ Rb B w a (ints xs) ∧ xs.length ≤ cap ∧ cap ≤ maxLen ∧ ∀ n ∈ xs, (Lit.int .i64 n).wf = true := by
  obtain ⟨a, cap, h1, h2, h3, h3', h4⟩ := rSl_one (V := Value.int .i64) (fun _ _ h => h.1) h
  exact ⟨a, cap, h1, h2, h3, h3', fun s hs => (h4 s hs).2⟩
theorem rSl_bool {B : Nat} {w : World} {cs : List Value} {xs : List Bool} (h : rSl 1 rBool B w cs xs) : ∃ a cap, cs = [.slice a xs.length cap] ∧ Rb B w a (bools xs) ∧ xs.length ≤ cap ∧ cap ≤ maxLen := by
  obtain ⟨a, cap, h1, h2, h3, h3', _⟩ := rSl_one (V := Value.bool) (fun _ _ h => h) h
  exact ⟨a, cap, h1, h2, h3, h3'⟩

def rByte : CR UInt8 := fun _ _ cs c => cs = [.int .u8 (c.toNat : Int)]
theorem reads_byte {P : Program} {t : TypeId} (ht : P.underlying t = some (.int .u8)) (hc : P.cellsOf t = 1) : Reads P t 1 rByte :=
  ⟨hc, fun h => by
    obtain ⟨n, rfl, _, hw⟩ := DataW.trod_int ht h
    have hb := bounds_u8 hw
    refine ⟨UInt8.ofNat n.toNat, ?_⟩
    have : ((UInt8.ofNat n.toNat).toNat : Int) = n := by
      rw [UInt8.toNat_ofNat']
      omega
    rw [rByte, this]⟩
theorem firm_byte : Firm rByte := fun _ _ _ _ _ h _ => h
theorem rSl_byte {B : Nat} {w : World} {cs : List Value} {xs : List UInt8} (h : rSl 1 rByte B w cs xs) : ∃ a cap, cs = [.slice a xs.length cap] ∧ Rb B w a (byts xs) ∧ xs.length ≤ cap ∧ cap ≤ maxLen := by
  obtain ⟨a, cap, h1, h2, h3, h3', _⟩ := rSl_one (V := fun c : UInt8 => Value.int .u8 (c.toNat : Int)) (fun _ _ h => h) h
  exact ⟨a, cap, h1, h2, h3, h3'⟩

theorem wf_bd {n : Int} (h : (Lit.int .i64 n).wf = true) : -9223372036854775808 ≤ n ∧ n ≤ 9223372036854775807 := by
  exact bounds_i64 h

end Go.Proofs.Ytmlnecopbncdbaa
