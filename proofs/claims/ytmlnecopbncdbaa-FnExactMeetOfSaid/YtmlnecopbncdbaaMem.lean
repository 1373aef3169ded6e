/- Rows and trees in memory, in general. -/
import Derived.Test.YtmlnecopbncdbaaBase
import Derived.Test.YtmlnecopbncdbaaSched
import Derived.Laws.AppendOwnNone
import Derived.Lib.SmallJoins
import Derived.Deep.RegionHeld3
import Derived.Deep.AppendLies
namespace Go.Proofs.Ytmlnecopbncdbaa
set_option linter.unusedVariables false
set_option linter.unusedSimpArgs false
open Go.ChangeShapes Go.WideShapes Go.ChangeAt Go.RowKit
set_option maxRecDepth 100000

def inR (n lo hi : Int) : Bool := decide (lo ≤ n) && decide (n ≤ hi)
set_option maxHeartbeats 400000 in
theorem impl_within (n lo hi : Int) (w : World) : Calls Try.prog 45 #[.int .i64 n, .int .i64 lo, .int .i64 hi] w fun e w' => e = .returned (.bool (inR n lo hi)) ∧ w = w' := by
  unfold inR
  by_cases h1 : lo ≤ n
  · go_enter Try.func45, Try.ntmps45
    go_wp2_with fail
    go_ret
    exact ⟨by simp [h1]; try omega, rfl⟩
  · go_enter Try.func45, Try.ntmps45
    go_wp2_with fail
    go_ret
    exact ⟨by simp [h1]; try omega, rfl⟩
set_option maxHeartbeats 400000 in
theorem spec_in (n lo hi : Int) (w : World) : Calls Try.prog 56 #[.int .i64 n, .int .i64 lo, .int .i64 hi] w fun e w' => e = .returned (.bool (inR n lo hi)) ∧ w = w' := by
  unfold inR
  by_cases h1 : lo ≤ n
  · go_enter Try.func56, Try.ntmps56
    go_wp2_with fail
    go_ret
    exact ⟨by simp [h1]; try omega, rfl⟩
  · go_enter Try.func56, Try.ntmps56
    go_wp2_with fail
    go_ret
    exact ⟨by simp [h1]; try omega, rfl⟩
end Go.Proofs.Ytmlnecopbncdbaa
namespace Go.Proofs.Ytmlnecopbncdbaa
open Go.ChangeShapes Go.WideShapes Go.ChangeAt Go.RowKit
set_option maxRecDepth 100000
/-! ### memory -/
/-- a row in a block that S allows -/
def RS (S : Nat → Prop) (w : World) (a : Option Addr) (vs : List Value) : Prop := vs = [] ∨ ∃ b off, a = some ⟨b, off, none⟩ ∧ S b ∧ b < w.heap.size ∧ ∀ i u, vs[i]? = some u → w.cell? ⟨b, off + i, none⟩ = some u
def Kept (S : Nat → Prop) (w w' : World) : Prop := w.heap.size ≤ w'.heap.size ∧ ∀ b, S b → b < w.heap.size → w'.heap[b]? = w.heap[b]?
theorem RS.keep {S T : Nat → Prop} {w w' : World} {a : Option Addr} {vs : List Value} (h : RS S w a vs) (hk : Kept S w w') (hT : ∀ b, S b → b < w.heap.size → T b) : RS T w' a vs := by
  rcases h with h | ⟨b, off, ha, hs, hb, hc⟩
  · exact .inl h
  · exact .inr ⟨b, off, ha, hT b hs hb, Nat.lt_of_lt_of_le hb hk.1, fun i u hi => (World.cell?_of_block (w := w) (a := ⟨b, off + i, none⟩) (hk.2 b hs hb)).trans (hc i u hi)⟩
theorem RS.rw {S : Nat → Prop} {w : World} {a : Option Addr} {vs : List Value} (h : RS S w a vs) : Rw w a vs := by
  rcases h with h | ⟨b, off, ha, _, hb, hc⟩
  · exact .inl h
  · exact .inr ⟨b, off, ha, hb, hc⟩
theorem RS.own {S : Nat → Prop} {w : World} {base : Nat} {e : TypeId} {size : Nat} {a : Option Addr} {n cap : Nat} {xs : List Value} (h : w.ownsRow base e size (.slice a n cap) n xs) (hS : ∀ g, (Value.slice a n cap).ownBlock = some g → S g) : RS S w a xs := by
  rcases h.2 with ⟨h0, hn⟩ | ⟨g, cap', cur, hv, hb, hg, hnc, hcm, hcs, htake⟩
  · left
    have := h.1
    subst hn
    simpa using this
  · cases hv
    rcases own_rw h with h0 | ⟨b, off, ha, hb2, hc⟩
    · exact .inl h0
    · simp only [Option.some.injEq, Addr.mk.injEq, and_true] at ha
      obtain ⟨rfl, rfl⟩ := ha
      exact .inr ⟨_, _, rfl, hS _ rfl, hb2, hc⟩
theorem kept_below {S : Nat → Prop} {w w' : World} (h : Below w.heap.size w w') : Kept S w w' := ⟨h.size, fun b _ hb => h.block b hb⟩
theorem Kept.trans {S T : Nat → Prop} {a b c : World} (h : Kept S a b) (k : Kept T b c) (hT : ∀ x, S x → x < a.heap.size → T x) : Kept S a c :=
  ⟨Nat.le_trans h.1 k.1, fun x hs hx => (k.2 x (hT x hs hx) (Nat.lt_of_lt_of_le hx h.1)).trans (h.2 x hs hx)⟩
theorem hp_lt {wx : World} {X : Nat} {o : Obj} (h : wx.heap[X]? = some o) : X < wx.heap.size := (Array.getElem?_eq_some_iff.1 h).1
theorem hp_later {wx wy : World} (h : Below wx.heap.size wx wy) {X : Nat} {o : Obj} (hX : wx.heap[X]? = some o) : wy.heap[X]? = some o := (h.block X (hp_lt hX)).trans hX
theorem hp_alloc {wx : World} (o' : Obj) {X : Nat} {o : Obj} (hX : wx.heap[X]? = some o) : (wx.alloc o').heap[X]? = some o := hp_later ((Below.refl _ _).alloc (Nat.le_refl _) o') hX
theorem hp_grown {wx wy : World} {row : Option Nat} (h : wx.grownBy wy row) {X : Nat} {o : Obj} (hX : wx.heap[X]? = some o) (hr : row ≠ some X) : wy.heap[X]? = some o := (h.block X (hp_lt hX) (fun e => hr e.symm)).trans hX
theorem hp_set {wx : World} {Y i : Nat} {u : Value} {X : Nat} {o : Obj} (hX : wx.heap[X]? = some o) (hr : X ≠ Y) : (wx.setCell ⟨Y, i, none⟩ u).heap[X]? = some o := by
  rw [Below.heap_setCell _ _ _ _ (by exact hr)]; exact hX
theorem below_set {n : Nat} {a b : World} (h : Below n a b) {X : Nat} (hX : n ≤ X) (i : Nat) (u : Value) : Below n a (b.setCell ⟨X, i, none⟩ u) :=
  h.trans ⟨rfl, rfl, rfl, by simp [World.setCell], fun k hk => Below.heap_setCell _ _ _ _ (by intro e; simp only at e; omega)⟩
theorem kept_set {S : Nat → Prop} {a b : World} (h : Kept S a b) {X : Nat} (hX : ¬ S X) (i : Nat) (u : Value) : Kept S a (b.setCell ⟨X, i, none⟩ u) :=
  ⟨by have := h.1; simpa [World.setCell] using this, fun k hk hl => by rw [Below.heap_setCell _ _ _ _ (by rintro rfl; exact hX hk)]; exact h.2 k hk hl⟩
theorem kept_alloc {S : Nat → Prop} {a b : World} (h : Kept S a b) (o : Obj) : Kept S a (b.alloc o) :=
  ⟨Nat.le_trans h.1 (by simp), fun k hk hl => (((Below.refl b.heap.size b).alloc (Nat.le_refl _) o).block k (Nat.lt_of_lt_of_le hl h.1)).trans (h.2 k hk hl)⟩
theorem kept_grown {S : Nat → Prop} {a b c : World} {row : Option Nat} (h : Kept S a b) (hg : b.grownBy c row) (hr : ∀ k, S k → k < a.heap.size → row ≠ some k) : Kept S a c :=
  ⟨Nat.le_trans h.1 hg.size, fun k hk hl => (hg.block k (Nat.lt_of_lt_of_le hl h.1) (fun e => hr k hk hl e.symm)).trans (h.2 k hk hl)⟩
theorem isEm (x : ByteArray) : x.toList.isEmpty = decide (x.size = 0) := by
  rw [ByteArray.toList_eq]
  show x.data.toList.isEmpty = decide (x.data.size = 0)
  rw [← Array.length_toList]
  cases x.data.toList <;> simp
theorem tag_at {w : World} {base X : Nat} {e : TypeId} {size : Nat} {v : Value} {n : Nat} {xs : List Value} (h : w.ownsRow base e size v n xs) (hX : X < base) : v.ownBlock ≠ some X := fun e => by have := (h.lt X e).1; omega
theorem own_cap {w : World} {base : Nat} {e : TypeId} {size : Nat} {a : Option Addr} {n cap : Nat} {xs : List Value} (h : w.ownsRow base e size (.slice a n cap) n xs) : n ≤ cap ∧ cap ≤ 9223372036854775807 := by
  rcases h.2 with ⟨hv, h0⟩ | ⟨g, cap', cur, hv, hg, hgb, hlc, hcm, _⟩
  · simp only [Value.slice.injEq] at hv
    obtain ⟨_, h1, h2⟩ := hv
    subst h1; subst h2; exact ⟨Nat.le_refl _, by decide⟩
  · simp only [Value.slice.injEq] at hv
    obtain ⟨_, _, h2⟩ := hv
    subst h2
    unfold maxLen at hcm
    exact ⟨hlc, by omega⟩
theorem Kept.sub {S T : Nat → Prop} {a b : World} (h : Kept T a b) (hs : ∀ x, S x → T x) : Kept S a b := ⟨h.1, fun x hx hl => h.2 x (hs x hx) hl⟩
theorem Kept.refl (S : Nat → Prop) (a : World) : Kept S a a := ⟨Nat.le_refl _, fun _ _ _ => rfl⟩
theorem box6 {wx : World} {X : Nat} {a b c d e f : Value} {T : TypeId} (h : wx.heap[X]? = some (.cells #[a, b, c, d, e, f] T)) : wx.cell? ⟨X, 0, none⟩ = some a ∧ wx.cell? ⟨X, 1, none⟩ = some b ∧ wx.cell? ⟨X, 2, none⟩ = some c ∧ wx.cell? ⟨X, 3, none⟩ = some d ∧ wx.cell? ⟨X, 4, none⟩ = some e ∧ wx.cell? ⟨X, 5, none⟩ = some f := by
  simp [World.cell?, h]
theorem box6_z {wx : World} {X : Nat} {a b c d e f : Value} {T : TypeId} (h : wx.heap[X]? = some (.cells #[a, b, c, d, e, f] T)) (i : Nat) : wx.frozen? ⟨X, i, none⟩ = false := by simp [World.frozen?, h]
theorem box6_t0 {wx : World} {X : Nat} {a b c d e f : Value} {T : TypeId} (h : wx.heap[X]? = some (.cells #[a, b, c, d, e, f] T)) (p : Value) : (wx.setCell ⟨X, 0, none⟩ p).heap[X]? = some (.cells #[p, b, c, d, e, f] T) := by
  simp [World.setCell, Array.getElem?_modify, h]
theorem box6_t1 {wx : World} {X : Nat} {a b c d e f : Value} {T : TypeId} (h : wx.heap[X]? = some (.cells #[a, b, c, d, e, f] T)) (p : Value) : (wx.setCell ⟨X, 1, none⟩ p).heap[X]? = some (.cells #[a, p, c, d, e, f] T) := by
  simp [World.setCell, Array.getElem?_modify, h]
theorem box6_t2 {wx : World} {X : Nat} {a b c d e f : Value} {T : TypeId} (h : wx.heap[X]? = some (.cells #[a, b, c, d, e, f] T)) (p : Value) : (wx.setCell ⟨X, 2, none⟩ p).heap[X]? = some (.cells #[a, b, p, d, e, f] T) := by
  simp [World.setCell, Array.getElem?_modify, h]
theorem box6_t3 {wx : World} {X : Nat} {a b c d e f : Value} {T : TypeId} (h : wx.heap[X]? = some (.cells #[a, b, c, d, e, f] T)) (p : Value) : (wx.setCell ⟨X, 3, none⟩ p).heap[X]? = some (.cells #[a, b, c, p, e, f] T) := by
  simp [World.setCell, Array.getElem?_modify, h]
theorem box6_t4 {wx : World} {X : Nat} {a b c d e f : Value} {T : TypeId} (h : wx.heap[X]? = some (.cells #[a, b, c, d, e, f] T)) (p : Value) : (wx.setCell ⟨X, 4, none⟩ p).heap[X]? = some (.cells #[a, b, c, d, p, f] T) := by
  simp [World.setCell, Array.getElem?_modify, h]
theorem box6_t5 {wx : World} {X : Nat} {a b c d e f : Value} {T : TypeId} (h : wx.heap[X]? = some (.cells #[a, b, c, d, e, f] T)) (p : Value) : (wx.setCell ⟨X, 5, none⟩ p).heap[X]? = some (.cells #[a, b, c, d, e, p] T) := by
  simp [World.setCell, Array.getElem?_modify, h]
end Go.Proofs.Ytmlnecopbncdbaa
