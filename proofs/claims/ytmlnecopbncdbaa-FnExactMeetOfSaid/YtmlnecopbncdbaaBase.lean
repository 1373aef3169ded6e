/- Small words that all the other texts use: how a row of cells reads, what a call leaves as it was. No function of the program is named here. -/
import Derived.Test.YtmlnecopbncdbaaRows
import Derived.WalkKit
import Derived.ProofKit
import Derived.OpenShut
import Derived.ShutString
import Derived.ChangeOld
import Derived.Below
import Derived.WalkLawsBesides
import Derived.WalkSpells
import Derived.SliceStrings
import Derived.Lib.Hide
import Derived.Outline
import Derived.Deep.QuietTactic
import Derived.BigQuiet
import Derived.Deep.LoopGhost
import Derived.Deep.DeepFit
import Derived.Deep.DeepMust
import Derived.Deep.DeepCutAuto
namespace Go.Proofs.Ytmlnecopbncdbaa
set_option linter.unusedVariables false
set_option linter.unusedSimpArgs false
open Go.ChangeShapes Go.WideShapes Go.ChangeAt Go.RowKit

theorem ret_int {k : IntKind} {a b : Int} (h : a = b) : Ending.returned (.int k a) = .returned (.int k b) := by rw [h]
theorem ret_bool {a b : Bool} (h : a = b) : Ending.returned (.bool a) = .returned (.bool b) := by rw [h]
theorem byte_le (c : UInt8) : (c.toNat : Int) ≤ 255 := by have := c.toNat_lt; omega

theorem take_snoc (s : ByteArray) (k : Nat) (h : k < s.size) : s.data.toList.take (k + 1) = s.data.toList.take k ++ [s[k]] := by
  rw [List.take_succ_eq_append_getElem (by simpa using h)]; rfl

/-! ### How a row of cells reads -/

/-- From the address `a` on lie the cells `vs`; of no cell nothing is said of `a`. -/
def Rw (w : World) (a : Option Addr) (vs : List Value) : Prop :=
  vs = [] ∨ ∃ b off, a = some ⟨b, off, none⟩ ∧ b < w.heap.size ∧ ∀ i u, vs[i]? = some u → w.cell? ⟨b, off + i, none⟩ = some u

/-- What holds of all blocks below B. -/
def Rb (B : Nat) (w : World) (a : Option Addr) (vs : List Value) : Prop :=
  vs = [] ∨ ∃ b off, a = some ⟨b, off, none⟩ ∧ b < B ∧ ∀ i u, vs[i]? = some u → w.cell? ⟨b, off + i, none⟩ = some u

theorem Rb.rw {B : Nat} {w : World} {a : Option Addr} {vs : List Value} (h : Rb B w a vs) (hB : B ≤ w.heap.size) : Rw w a vs := by
  rcases h with h | ⟨b, off, ha, hb, hc⟩
  · exact .inl h
  · exact .inr ⟨b, off, ha, by omega, hc⟩

theorem Rw.below {w w' : World} {a : Option Addr} {vs : List Value} (h : Rw w a vs) (hb : Below w.heap.size w w') : Rw w' a vs := by
  rcases h with h | ⟨b, off, ha, hl, hc⟩
  · exact .inl h
  · exact .inr ⟨b, off, ha, Nat.lt_of_lt_of_le hl hb.size, fun i u hi => (hb.cell (p := ⟨b, off + i, none⟩) hl).trans (hc i u hi)⟩

theorem Rb.below {B : Nat} {w w' : World} {a : Option Addr} {vs : List Value} (h : Rb B w a vs) (hb : Below B w w') : Rb B w' a vs := by
  rcases h with h | ⟨b, off, ha, hl, hc⟩
  · exact .inl h
  · exact .inr ⟨b, off, ha, hl, fun i u hi => (hb.cell (p := ⟨b, off + i, none⟩) hl).trans (hc i u hi)⟩

theorem Rb.mono {B B' : Nat} {w : World} {a : Option Addr} {vs : List Value} (h : Rb B w a vs) (hB : B ≤ B') : Rb B' w a vs := by
  rcases h with h | ⟨b, off, ha, hl, hc⟩
  · exact .inl h
  · exact .inr ⟨b, off, ha, by omega, hc⟩

theorem Rw.rb {w : World} {a : Option Addr} {vs : List Value} (h : Rw w a vs) : Rb w.heap.size w a vs := h

/-- One cell of it. -/
theorem Rw.at {w : World} {a : Option Addr} {vs : List Value} (h : Rw w a vs) (hne : vs ≠ []) :
    ∃ b off, a = some ⟨b, off, none⟩ ∧ b < w.heap.size ∧ ∀ i u, vs[i]? = some u → w.cell? ⟨b, off + i, none⟩ = some u := by
  rcases h with h | h
  · exact absurd h hne
  · exact h

def ints (xs : List Int) : List Value := xs.map (Value.int .i64)
def strs (xs : List ByteArray) : List Value := xs.map Value.string
def bools (xs : List Bool) : List Value := xs.map Value.bool
def byts (xs : List UInt8) : List Value := xs.map fun c => Value.int .u8 (c.toNat : Int)

@[simp] theorem ints_length (xs : List Int) : (ints xs).length = xs.length := by simp [ints]
@[simp] theorem strs_length (xs : List ByteArray) : (strs xs).length = xs.length := by simp [strs]
@[simp] theorem bools_length (xs : List Bool) : (bools xs).length = xs.length := by simp [bools]
@[simp] theorem byts_length (xs : List UInt8) : (byts xs).length = xs.length := by simp [byts]

theorem ints_at (xs : List Int) (i : Nat) (h : i < xs.length) : (ints xs)[i]? = some (.int .i64 (xs.getD i 0)) := by
  simp [ints, h]
theorem strs_at (xs : List ByteArray) (i : Nat) (h : i < xs.length) : (strs xs)[i]? = some (.string (xs.getD i ByteArray.empty)) := by
  simp [strs, h]
theorem bools_at (xs : List Bool) (i : Nat) (h : i < xs.length) : (bools xs)[i]? = some (.bool (xs.getD i false)) := by
  simp [bools, h]
theorem byts_at (xs : List UInt8) (i : Nat) (h : i < xs.length) : (byts xs)[i]? = some (.int .u8 ((xs.getD i 0).toNat : Int)) := by
  simp [byts, h]

/-- The row that a call owns reads. -/
theorem own_rw {w : World} {base : Nat} {e : TypeId} {size : Nat} {a : Option Addr} {n cap : Nat} {xs : List Value} (h : w.ownsRow base e size (.slice a n cap) n xs) : Rw w a xs := by
  rcases h.2 with ⟨h0, hn⟩ | ⟨g, cap', cur, hv, hb, hg, hnc, hcm, hcs, htake⟩
  · left
    have := h.1
    subst hn
    simpa using this
  · right
    cases hv
    refine ⟨g, 0, rfl, (Array.getElem?_eq_some_iff.1 hg).1, fun i u hi => ?_⟩
    have := h.cells (g := g) rfl i u hi
    have hadd : (⟨g, 0, none⟩ : Addr).add i = ⟨g, 0 + i, none⟩ := by unfold Addr.add; split <;> simp_all
    rwa [hadd] at this

/-- Above `base` alone: the row lies in blocks from `base` on. -/
theorem own_base {w : World} {base : Nat} {e : TypeId} {size : Nat} {a : Option Addr} {n cap : Nat} {xs : List Value} (h : w.ownsRow base e size (.slice a n cap) n xs) {b o : Nat} (ha : a = some ⟨b, o, none⟩) : base ≤ b ∧ b < w.heap.size := by
  subst ha; exact h.lt b rfl

theorem own_below {w w' : World} {base B : Nat} {e : TypeId} {size : Nat} {v : Value} {n : Nat} {xs : List Value} (h : w.ownsRow base e size v n xs) (hb : Below B w w') (hv : ∀ k, v.ownBlock = some k → k < B) : w'.ownsRow base e size v n xs := by
  refine ⟨h.1, ?_⟩
  rcases h.2 with h0 | ⟨g, cap', cur, rfl, hb', hg, r⟩
  · exact .inl h0
  · exact .inr ⟨g, cap', cur, rfl, hb', by rw [hb.block g (hv g rfl)]; exact hg, r⟩

theorem own_later {w w' : World} {base : Nat} {e : TypeId} {size : Nat} {v : Value} {n : Nat} {xs : List Value} (h : w.ownsRow base e size v n xs) (hb : Below w.heap.size w w') : w'.ownsRow base e size v n xs :=
  own_below h hb fun k hk => (h.lt k hk).2

theorem own_mono {w : World} {base base' : Nat} {e : TypeId} {size : Nat} {v : Value} {n : Nat} {xs : List Value} (h : w.ownsRow base e size v n xs) (hb : base' ≤ base) : w.ownsRow base' e size v n xs := by
  refine ⟨h.1, ?_⟩
  rcases h.2 with h0 | ⟨g, cap', cur, rfl, hb', r⟩
  · exact .inl h0
  · exact .inr ⟨g, cap', cur, rfl, by omega, r⟩

theorem bcell {W w1 : World} (hb : Below W.heap.size W w1) : (∀ b o, b < W.heap.size → w1.cell? ⟨b, o, none⟩ = W.cell? ⟨b, o, none⟩) ∧ (∀ b o, b < W.heap.size → w1.frozen? ⟨b, o, none⟩ = W.frozen? ⟨b, o, none⟩) :=
  ⟨fun b o h => hb.cell (p := ⟨b, o, none⟩) h, fun b o h => hb.frozen (p := ⟨b, o, none⟩) h⟩

/-- A world that is another one but for draws. -/
def Drawn (w w' : World) : Prop := ∃ n, w' = w.drewN n
theorem Drawn.refl (w : World) : Drawn w w := ⟨0, rfl⟩
theorem drawn_more (w : World) (n m : Nat) : Drawn w ((w.drewN n).drewN m) := ⟨n + m, by simp [World.drewN, Nat.add_assoc]⟩
theorem Drawn.trans {a b c : World} (h : Drawn a b) (k : Drawn b c) : Drawn a c := by
  obtain ⟨n, rfl⟩ := h; obtain ⟨m, rfl⟩ := k; exact drawn_more _ _ _
theorem Drawn.below {w w' : World} (h : Drawn w w') (B : Nat) : Below B w w' := by
  obtain ⟨n, rfl⟩ := h
  exact below_drewN (Below.refl _ _) n

/-! ### A row that is filled from its head on -/
def fill (L : List Value) (z : Value) (k : Nat) : List Value := L.take k ++ List.replicate (L.length - k) z
theorem fill_zero (L : List Value) (z : Value) : fill L z 0 = List.replicate L.length z := by simp [fill]
theorem fill_full (L : List Value) (z : Value) : fill L z L.length = L := by simp [fill]
theorem fill_set (L : List Value) (z u : Value) (k : Nat) (h : L[k]? = some u) : (fill L z k).set k u = fill L z (k + 1) := by
  obtain ⟨hk, rfl⟩ := List.getElem?_eq_some_iff.1 h
  unfold fill
  rw [List.set_append_right _ _ (by simp; omega), List.take_succ_eq_append_getElem hk, List.length_take, Nat.min_eq_left (by omega), Nat.sub_self]
  have : L.length - k = (L.length - (k + 1)) + 1 := by omega
  rw [this, List.replicate_succ, List.set_cons_zero]
  simp only [List.append_assoc, List.singleton_append]
theorem fill_at (L : List Value) (z : Value) (k j : Nat) (h : k ≤ j) (hj : j < L.length) : (fill L z k)[j]? = some z := by
  unfold fill
  rw [List.getElem?_append_right (by simp; omega), List.getElem?_replicate, if_pos (by simp; omega)]

/-! ### What a call wrote -/
/-- Of the blocks that lay there those alone may have turned of which S speaks; new ones may lie behind. -/
structure Wrote (S : Nat → Prop) (w w' : World) : Prop where
  os : w'.os = w.os
  tape : w'.tape = w.tape
  output : w'.output = w.output
  size : w.heap.size ≤ w'.heap.size
  block : ∀ k, k < w.heap.size → ¬ S k → w'.heap[k]? = w.heap[k]?
theorem Wrote.refl (S : Nat → Prop) (w : World) : Wrote S w w := ⟨rfl, rfl, rfl, Nat.le_refl _, fun _ _ _ => rfl⟩
theorem Wrote.trans {S : Nat → Prop} {a b c : World} (h : Wrote S a b) (k : Wrote S b c) : Wrote S a c :=
  ⟨k.os.trans h.os, k.tape.trans h.tape, k.output.trans h.output, Nat.le_trans h.size k.size, fun i hi hs => (k.block i (Nat.lt_of_lt_of_le hi h.size) hs).trans (h.block i hi hs)⟩
theorem Wrote.mono {S T : Nat → Prop} {a b : World} (h : Wrote S a b) (hST : ∀ k, k < a.heap.size → S k → T k) : Wrote T a b :=
  ⟨h.os, h.tape, h.output, h.size, fun i hi hs => h.block i hi fun hc => hs (hST i hi hc)⟩
theorem Wrote.setCell {S : Nat → Prop} {a b : World} (h : Wrote S a b) {p : Addr} (hp : S p.block) (u : Value) : Wrote S a (b.setCell p u) :=
  h.trans ⟨rfl, rfl, rfl, by simp [World.setCell], fun k _ hk => Below.heap_setCell _ _ _ _ (fun e => hk (e ▸ hp))⟩
theorem wrote_cell (w : World) (R i : Nat) (u : Value) : Wrote (fun k => k = R) w (w.setCell ⟨R, i, none⟩ u) := (Wrote.refl (fun k => k = R) w).setCell (p := ⟨R, i, none⟩) rfl u
theorem Wrote.drewN {S : Nat → Prop} {a b : World} (h : Wrote S a b) (n : Nat) : Wrote S a (b.drewN n) := h.trans ⟨rfl, rfl, rfl, Nat.le_refl _, fun _ _ _ => rfl⟩
theorem Wrote.of_below {S : Nat → Prop} {a b : World} (h : Below a.heap.size a b) : Wrote S a b := ⟨h.os, h.tape, h.output, h.size, fun k hk _ => h.block k hk⟩
theorem Wrote.of_grown {a b : World} {row : Option Nat} (h : a.grownBy b row) : Wrote (fun k => row = some k) a b := ⟨h.os, h.tape, h.output, h.size, fun k hk hs => h.block k hk (fun e => hs e.symm)⟩
/-- What was written lay from B on: below B all is as it was. -/
theorem Wrote.below {S : Nat → Prop} {a b : World} {B : Nat} (h : Wrote S a b) (hB : B ≤ a.heap.size) (hS : ∀ k, S k → B ≤ k) : Below B a b :=
  ⟨h.os, h.tape, h.output, h.size, fun k hk => h.block k (by omega) fun hc => by have := hS k hc; omega⟩
/-- A row of another block reads as it did. -/
theorem Wrote.own {S : Nat → Prop} {w w' : World} (h : Wrote S w w') {base : Nat} {e : TypeId} {size : Nat} {v : Value} {n : Nat} {xs : List Value} (ho : w.ownsRow base e size v n xs) (hv : ∀ k, v.ownBlock = some k → ¬ S k) : w'.ownsRow base e size v n xs := by
  refine ⟨ho.1, ?_⟩
  rcases ho.2 with h0 | ⟨g, cap', cur, rfl, hb', hg, r⟩
  · exact .inl h0
  · exact .inr ⟨g, cap', cur, rfl, hb', by rw [h.block g (Array.getElem?_eq_some_iff.1 hg).1 (hv g rfl)]; exact hg, r⟩
theorem Wrote.rw {S : Nat → Prop} {w w' : World} (h : Wrote S w w') {a : Option Addr} {vs : List Value} (hr : Rw w a vs) (hv : ∀ b off, a = some ⟨b, off, none⟩ → ¬ S b) : Rw w' a vs := by
  rcases hr with h0 | ⟨b, off, ha, hl, hc⟩
  · exact .inl h0
  · exact .inr ⟨b, off, ha, Nat.lt_of_lt_of_le hl h.size, fun i u hi => (World.cell?_of_block (w := w) (a := ⟨b, off + i, none⟩) (h.block b hl (hv b off ha))).trans (hc i u hi)⟩

/-! ### The first place in a list at which something holds -/
def fidx {α : Type} (p : α → Bool) (xs : List α) : Int := match xs.findIdx? p with | some i => (i : Int) | none => -1
theorem fidx_any {α : Type} (p : α → Bool) (xs : List α) : 0 ≤ fidx p xs ↔ xs.any p = true := by
  unfold fidx
  cases h : xs.findIdx? p with
  | none => simp [List.findIdx?_eq_none_iff] at h; simp; exact h
  | some i =>
    obtain ⟨hi, hp, _⟩ := List.findIdx?_eq_some_iff_getElem.1 h
    refine ⟨fun _ => List.any_eq_true.2 ⟨xs[i], List.getElem_mem hi, hp⟩, fun _ => ?_⟩
    show (0 : Int) ≤ (i : Int)
    omega
theorem fidx_none {α : Type} (p : α → Bool) (xs : List α) (h : xs.any p = false) : fidx p xs = -1 := by
  unfold fidx
  have : xs.findIdx? p = none := by rw [List.findIdx?_eq_none_iff]; simpa using h
  rw [this]
theorem fidx_next {α : Type} (p : α → Bool) (xs : List α) (d : α) (k : Nat) (hk : k < xs.length) (h : (xs.take k).any p = false) (hp : p (xs.getD k d) = false) : (xs.take (k + 1)).any p = false := by
  rw [List.take_succ_eq_append_getElem hk, List.any_append, h]
  have : xs.getD k d = xs[k] := by simp [List.getD, hk]
  rw [this] at hp
  simp [hp]
theorem fidx_here {α : Type} (p : α → Bool) (xs : List α) (d : α) (k : Nat) (hk : k < xs.length) (h : (xs.take k).any p = false) (hp : p (xs.getD k d) = true) : fidx p xs = k := by
  have e : xs.getD k d = xs[k] := by simp [List.getD, hk]
  rw [e] at hp
  unfold fidx
  have : xs.findIdx? p = some k := by
    rw [List.findIdx?_eq_some_iff_getElem]
    refine ⟨hk, hp, fun j hj => ?_⟩
    have hm : xs[j] ∈ xs.take k := by rw [List.mem_take_iff_getElem]; exact ⟨j, by omega, rfl⟩
    rw [List.any_eq_false] at h
    exact h _ hm
  rw [this]

/-! ### Callees that only draw, in a region that draws its order -/
theorem quiet_drawn {P : Program} {f : FuncId} {args : Array Value} {w : World} {n : Nat} {v : Value}
    (h : Calls P f args (w.drewN n) fun e w' => e = .returned v ∧ Drawn (w.drewN n) w') : Calls P f args (w.drewN n) fun e w'' => e = .returned v ∧ ∃ m, w'' = w.drewN m :=
  h.mono fun _ _ ⟨he, m, hm⟩ => ⟨he, n + m, by rw [hm, World.drewN_drewN]⟩
theorem quiet_same {P : Program} {f : FuncId} {args : Array Value} {w : World} {n : Nat} {v : Value}
    (h : Calls P f args (w.drewN n) fun e w' => e = .returned v ∧ w.drewN n = w') : Calls P f args (w.drewN n) fun e w'' => e = .returned v ∧ ∃ m, w'' = w.drewN m :=
  h.mono fun _ _ ⟨he, hm⟩ => ⟨he, n, hm.symm⟩
theorem quiet_drawn_add {P : Program} {f : FuncId} {args : Array Value} {w : World} {a n : Nat} {v : Value}
    (h : Calls P f args (w.drewN (a + n)) fun e w' => e = .returned v ∧ Drawn (w.drewN (a + n)) w') : Calls P f args (w.drewN (a + n)) fun e w'' => e = .returned v ∧ ∃ m, w'' = w.drewN (a + m) :=
  h.mono fun _ _ ⟨he, m, hm⟩ => ⟨he, n + m, by rw [hm, World.drewN_drewN, Nat.add_assoc]⟩
theorem quiet_same_add {P : Program} {f : FuncId} {args : Array Value} {w : World} {a n : Nat} {v : Value}
    (h : Calls P f args (w.drewN (a + n)) fun e w' => e = .returned v ∧ w.drewN (a + n) = w') : Calls P f args (w.drewN (a + n)) fun e w'' => e = .returned v ∧ ∃ m, w'' = w.drewN (a + m) :=
  h.mono fun _ _ ⟨he, hm⟩ => ⟨he, n, hm.symm⟩

/-! ### Parts of a row -/
theorem Rw.take {w : World} {a : Option Addr} {vs : List Value} (h : Rw w a vs) (k : Nat) : Rw w a (vs.take k) := by
  rcases h with h | ⟨b, off, ha, hl, hc⟩
  · exact .inl (by rw [h]; simp)
  · exact .inr ⟨b, off, ha, hl, fun i u hi => hc i u (by rw [List.getElem?_take] at hi; split at hi <;> simp_all)⟩
theorem Rw.drop {w : World} {b off : Nat} {vs : List Value} (h : Rw w (some ⟨b, off, none⟩) vs) (k : Nat) : Rw w (some ⟨b, off + k, none⟩) (vs.drop k) := by
  rcases h with h | ⟨b', off', ha, hl, hc⟩
  · exact .inl (by rw [h]; simp)
  · cases ha
    exact .inr ⟨b, off + k, rfl, hl, fun i u hi => by rw [List.getElem?_drop] at hi; rw [Nat.add_assoc]; exact hc _ _ hi⟩
theorem Rb.drop {B : Nat} {w : World} {b off : Nat} {vs : List Value} (h : Rb B w (some ⟨b, off, none⟩) vs) (k : Nat) : Rb B w (some ⟨b, off + k, none⟩) (vs.drop k) := by
  rcases h with h | ⟨b', off', ha, hl, hc⟩
  · exact .inl (by rw [h]; simp)
  · cases ha
    exact .inr ⟨b, off + k, rfl, hl, fun i u hi => by rw [List.getElem?_drop] at hi; rw [Nat.add_assoc]; exact hc _ _ hi⟩
theorem Rb.setCell {B : Nat} {w : World} {a : Option Addr} {vs : List Value} (h : Rb B w a vs) (R i : Nat) (u : Value) (hR : B ≤ R) : Rb B (w.setCell ⟨R, i, none⟩ u) a vs := by
  rcases h with h | ⟨b, off, ha, hl, hc⟩
  · exact .inl h
  · exact .inr ⟨b, off, ha, hl, fun j u' hi => (World.cell?_of_block (w := w) (a := ⟨b, off + j, none⟩) (Below.heap_setCell w ⟨R, i, none⟩ u b (by show b ≠ R; omega))).trans (hc j u' hi)⟩
theorem Rb.at {B : Nat} {w : World} {a : Option Addr} {vs : List Value} (h : Rb B w a vs) (hne : vs ≠ []) :
    ∃ b off, a = some ⟨b, off, none⟩ ∧ b < B ∧ ∀ i u, vs[i]? = some u → w.cell? ⟨b, off + i, none⟩ = some u := by
  rcases h with h | h
  · exact absurd h hne
  · exact h
theorem Rw.drew {w : World} {a : Option Addr} {vs : List Value} (h : Rw w a vs) : Rw w.drew a vs := h
theorem Rw.drewN {w : World} {a : Option Addr} {vs : List Value} (h : Rw w a vs) (n : Nat) : Rw (w.drewN n) a vs := h
theorem Rw.alloc {w : World} {a : Option Addr} {vs : List Value} (h : Rw w a vs) (o : Obj) : Rw (w.alloc o) a vs := h.below ((Below.refl _ _).alloc (Nat.le_refl _) o)

/-! ### An argument that was laid in a new block, and stays there -/
theorem box_start (w : World) (o : Obj) : Below (w.heap.size + 1) (w.alloc o) (w.alloc o) := Below.refl _ _
theorem box_step {w wx wy : World} {o : Obj} (h : Below (w.heap.size + 1) (w.alloc o) wx) (hb : Below wx.heap.size wx wy) : Below (w.heap.size + 1) (w.alloc o) wy :=
  h.trans (hb.mono (by have := h.size; simp at this; omega))
theorem box_below {w wx : World} {o : Obj} (h : Below (w.heap.size + 1) (w.alloc o) wx) : Below w.heap.size w wx :=
  ((Below.refl _ _).alloc (Nat.le_refl _) _).trans (h.mono (Nat.le_succ _))
theorem box_cell {w wx : World} {C : Array Value} {T : TypeId} (h : Below (w.heap.size + 1) (w.alloc (.cells C T)) wx) (i : Nat) : wx.cell? ⟨w.heap.size, i, none⟩ = C[i]? := by
  rw [h.cell (p := ⟨w.heap.size, i, none⟩) (Nat.lt_succ_self _)]
  simp
theorem box_lt {w wx : World} {o : Obj} (h : Below (w.heap.size + 1) (w.alloc o) wx) : w.heap.size < wx.heap.size := by have := h.size; simp at this; omega

theorem Wrote.cell {S : Nat → Prop} {w w' : World} (h : Wrote S w w') {b i : Nat} {v : Value} (hc : w.cell? ⟨b, i, none⟩ = some v) (hS : ¬ S b) : w'.cell? ⟨b, i, none⟩ = some v :=
  (World.cell?_of_block (w := w) (a := ⟨b, i, none⟩) (h.block b (World.block_lt_of_cell? w _ hc) hS)).trans hc
theorem below_cellk {B : Nat} {w w' : World} (h : Below B w w') {b i : Nat} {v : Value} (hc : w.cell? ⟨b, i, none⟩ = some v) (hb : b < B) : w'.cell? ⟨b, i, none⟩ = some v := (h.cell (p := ⟨b, i, none⟩) hb).trans hc
theorem below_later {w w' : World} (h : Below w.heap.size w w') {b i : Nat} {v : Value} (hc : w.cell? ⟨b, i, none⟩ = some v) : w'.cell? ⟨b, i, none⟩ = some v := below_cellk h hc (World.block_lt_of_cell? w _ hc)

/-- What lay there when W stood is as it was: handed on over a call, over draws, over a write into later blocks. -/
theorem rstep {W wx wy : World} (h : Below W.heap.size W wx) (hb : Below wx.heap.size wx wy) : Below W.heap.size W wy := h.trans (hb.mono h.size)
theorem rwrote {S : Nat → Prop} {W wx wy : World} (h : Below W.heap.size W wx) (hb : Wrote S wx wy) (hS : ∀ k, S k → W.heap.size ≤ k) : Below W.heap.size W wy := h.trans (hb.below h.size hS)
theorem rdrew {W wx : World} (h : Below W.heap.size W wx) (n : Nat) : Below W.heap.size W (wx.drewN n) := below_drewN h n
theorem ralloc {W wx : World} (h : Below W.heap.size W wx) (o : Obj) : Below W.heap.size W (wx.alloc o) := h.alloc h.size o
theorem form_of_own {w : World} {base : Nat} {e : TypeId} {size n : Nat} {v : Value} {xs : List Value} (h : w.ownsRow base e size v n xs) : ∃ a c, v = .slice a n c := by
  rcases h.2 with ⟨h0, rfl⟩ | ⟨g, cap, _, hv, _⟩
  · exact ⟨_, _, h0⟩
  · exact ⟨_, _, hv⟩

theorem news_one (w : World) (x : Value) (T : TypeId) : ∀ j u, [x][j]? = some u → (w.alloc (.cells #[x] T)).cell? ((⟨w.heap.size, 0, none⟩ : Addr).add j) = some u := by
  intro j u hj
  cases j with
  | zero => simp at hj; subst hj; simp [Addr.add]
  | succ j => simp at hj
theorem own_drewN {w : World} {base : Nat} {e : TypeId} {size : Nat} {v : Value} {n : Nat} {xs : List Value} (h : w.ownsRow base e size v n xs) (m : Nat) : (w.drewN m).ownsRow base e size v n xs := own_later (w' := w.drewN m) h (below_drewN (Below.refl _ _) _)

theorem below_undrew {B : Nat} {w w1 : World} (h : Below B w.drew w1) : Below B w w1 := ⟨h.os, h.tape, h.output, h.size, h.block⟩
theorem below_undrewN {B n : Nat} {w w1 : World} (h : Below B (w.drewN n) w1) : Below B w w1 := ⟨h.os, h.tape, h.output, h.size, h.block⟩

theorem below_of (B : Nat) {a b c : World} (h : Below b.heap.size b c) (h0 : Below B a b) (hB : B ≤ b.heap.size) : Below B a c := h0.trans (h.mono hB)

end Go.Proofs.Ytmlnecopbncdbaa
