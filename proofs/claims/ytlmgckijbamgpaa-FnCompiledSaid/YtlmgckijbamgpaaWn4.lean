/- Whether a filter is good: the program's walk. -/
import Derived.Test.YtlmgckijbamgpaaWn3
import Derived.Test.YtlmgckijbamgpaaInts
import Derived.Lib.SmallJoins
import Derived.OwnWalk
namespace Go.Proofs.Ytlmgckijbamgpaa
set_option linter.unusedVariables false
set_option linter.unusedSimpArgs false
open Go.ChangeShapes Go.WideShapes Go.ChangeAt Go.RowKit
set_option maxRecDepth 100000

theorem row6 {w wr : World} {a : Option Addr} {l : List Wn} {k : Nat} {f : Wn} (hrow : Rw w a (wnsV l)) (hB : Below w.heap.size w wr) (hf : l[k]? = some f) :
    ∃ b off, a = some ⟨b, off, none⟩ ∧ b < wr.heap.size ∧ b < w.heap.size ∧ wr.cell? ⟨b, off + k * 6, none⟩ = some (.int .i64 f.kind) ∧ wr.cell? ⟨b, off + k * 6 + 1, none⟩ = some (.int .i64 f.no) ∧ wr.cell? ⟨b, off + k * 6 + 2, none⟩ = some (.int .i64 f.num) ∧ wr.cell? ⟨b, off + k * 6 + 3, none⟩ = some (.string f.text) ∧ wr.cell? ⟨b, off + k * 6 + 4, none⟩ = some (.int .i64 f.a) ∧ wr.cell? ⟨b, off + k * 6 + 5, none⟩ = some (.int .i64 f.b) := by
  have hk : k < l.length := (List.getElem?_eq_some_iff.1 hf).1
  obtain ⟨b, off, rfl, hbl, hc⟩ := hrow.at (wnsV_ne hk)
  obtain ⟨e0, e1, e2, e3, e4, e5⟩ := wnsV_at l k f hf
  exact ⟨b, off, rfl, Nat.lt_of_lt_of_le hbl hB.size, hbl, (hB.cell (p := ⟨b, _, none⟩) hbl).trans (hc _ _ e0), (hB.cell (p := ⟨b, _, none⟩) hbl).trans (hc _ _ e1), (hB.cell (p := ⟨b, _, none⟩) hbl).trans (hc _ _ e2), (hB.cell (p := ⟨b, _, none⟩) hbl).trans (hc _ _ e3), (hB.cell (p := ⟨b, _, none⟩) hbl).trans (hc _ _ e4), (hB.cell (p := ⟨b, _, none⟩) hbl).trans (hc _ _ e5)⟩
theorem box6 {wx : World} {X : Nat} {a b c d e f : Value} {T : TypeId} (h : wx.heap[X]? = some (.cells #[a, b, c, d, e, f] T)) : wx.cell? ⟨X, 0, none⟩ = some a ∧ wx.cell? ⟨X, 1, none⟩ = some b ∧ wx.cell? ⟨X, 2, none⟩ = some c ∧ wx.cell? ⟨X, 3, none⟩ = some d ∧ wx.cell? ⟨X, 4, none⟩ = some e ∧ wx.cell? ⟨X, 5, none⟩ = some f := by
  simp [World.cell?, h]
theorem heap_keep {wx wy : World} (h : Below wx.heap.size wx wy) {X : Nat} {o : Obj} (hX : wx.heap[X]? = some o) : wy.heap[X]? = some o := (h.block X (Array.getElem?_eq_some_iff.1 hX).1).trans hX
theorem ints_set1 (xs : List Int) (i : Nat) (v : Int) : (ints xs).set i (.int .i64 v) = ints (xs.set i v) := by simp [ints, List.map_set]
theorem ints_rep1 (n : Nat) : ints (List.replicate n 0) = List.replicate n (.int .i64 0) := by simp [ints]
/-- a row of counts of one's own, under way -/
structure UsS (w0 : World) (g n : Nat) (u : List Int) (w : World) : Prop where
  own : w.ownsRow w0.heap.size 3 1 (.slice (some ⟨g, 0, none⟩) n n) n (ints u)
  bel : Below w0.heap.size w0 w
theorem UsS.len {w0 : World} {g n : Nat} {u : List Int} {w : World} (h : UsS w0 g n u w) : u.length = n := by
  have := h.own.1; rw [ints_length] at this; omega
theorem UsS.step {w0 : World} {g n : Nat} {u : List Int} {w w' : World} (h : UsS w0 g n u w) (hb : Below w.heap.size w w') : UsS w0 g n u w' := ⟨own_later h.own hb, h.bel.trans (hb.mono h.bel.size)⟩
theorem UsS.lt {w0 : World} {g n : Nat} {u : List Int} {w : World} (h : UsS w0 g n u w) : g < w.heap.size := (h.own.lt g rfl).2
theorem UsS.at {w0 : World} {g n : Nat} {u : List Int} {w : World} (h : UsS w0 g n u w) {k : Nat} (hk : k < n) : w.cell? ⟨g, k, none⟩ = some (.int .i64 (u.getD k 0)) ∧ w.frozen? ⟨g, k, none⟩ = false := by
  have := h.len
  refine ⟨?_, h.own.frozenAt _⟩
  rw [h.own.cellAt _ (by omega)]; exact ints_at u k (by omega)
theorem UsS.put {w0 : World} {g n : Nat} {u : List Int} {w : World} (h : UsS w0 g n u w) (k : Nat) (x : Int) : ∃ wA, w.setCell ⟨g, k, none⟩ (.int .i64 x) = wA ∧ UsS w0 g n (u.set k x) wA := by
  have a0 := h.own.stored k (.int .i64 x)
  refine ⟨_, rfl, by rw [← ints_set1]; exact a0.1, h.bel.trans (Wrote.below (B := w0.heap.size) (wrote_cell w g k _) h.bel.size (fun b hb => by have := (h.own.lt g rfl).1; omega))⟩
theorem bump_at (u : List Int) (k : Nat) : bump u (k : Int) = u.set k (u.getD k 0 + 1) := rfl
def PartO (w0 : Wn) (w : World) (e : Ending) (w' : World) : Prop := ∃ v, e = .returned v ∧ w'.ownsRow w.heap.size 3 1 v (partsW w0).length (ints (partsW w0)) ∧ Below w.heap.size w w'
set_option maxHeartbeats 1000000 in
theorem impl_parts (kd no nm : Int) (tx : ByteArray) (a b : Int) (w : World) : Calls Try.prog 106 #[.agg #[.int .i64 kd, .int .i64 no, .int .i64 nm, .string tx, .int .i64 a, .int .i64 b]] w (PartO ⟨kd, no, nm, tx, a, b⟩ w) := by
  have HB := Lib.hid ((Below.refl w.heap.size w).alloc (Nat.le_refl _) (.cells #[.int .i64 kd, .int .i64 no, .int .i64 nm, .string tx, .int .i64 a, .int .i64 b] 134))
  obtain ⟨w1, hw1⟩ : ∃ w1, w.alloc (.cells #[.int .i64 kd, .int .i64 no, .int .i64 nm, .string tx, .int .i64 a, .int .i64 b] 134) = w1 := ⟨_, rfl⟩
  have hz : w1.heap.size = w.heap.size + 1 := by rw [← hw1]; simp
  have HB1 := Lib.hid (show Below w.heap.size w w1 from hw1 ▸ HB.out)
  have HX := Lib.hid (show w1.heap[w.heap.size]? = some (.cells #[.int .i64 kd, .int .i64 no, .int .i64 nm, .string tx, .int .i64 a, .int .i64 b] 134) from hw1 ▸ heap_alloc_new w _)
  unfold PartO
  obtain ⟨b0, b1, b2, b3, b4, b5⟩ := box6 HX.out
  by_cases h67 : kd = 6 ∨ kd = 7
  · have HP : Hid (partsW ⟨kd, no, nm, tx, a, b⟩ = [a, b]) := Lib.hid (if_pos h67)
    have HO := Lib.hid (World.ownsRow_lit (base := w.heap.size) (e := 3) (size := 1) w1 #[.int .i64 a, .int .i64 b] 2 (by omega) (by decide) rfl)
    rw [hz] at HO
    have HB2 := Lib.hid (HB1.out.alloc HB1.out.size (.cells #[.int .i64 a, .int .i64 b] 3))
    rcases h67 with rfl | rfl
    all_goals
      go_enter Try.func106, Try.ntmps106
      go_wp2_with fail
      go_ret
      refine ⟨_, rfl, ?_, HB2.out⟩
      rw [HP.out]; exact HO.out
  · have k6 := kind_eq (show ¬ kd = 6 by omega)
    have k7 := kind_eq (show ¬ kd = 7 by omega)
    by_cases h8 : kd = 8
    · have HP : Hid (partsW ⟨kd, no, nm, tx, a, b⟩ = [a]) := Lib.hid ((if_neg h67).trans (if_pos h8))
      have HO := Lib.hid (World.ownsRow_lit (base := w.heap.size) (e := 3) (size := 1) w1 #[.int .i64 a] 1 (by omega) (by decide) rfl)
      rw [hz] at HO
      have HB2 := Lib.hid (HB1.out.alloc HB1.out.size (.cells #[.int .i64 a] 3))
      subst h8
      go_enter Try.func106, Try.ntmps106
      go_wp2_with fail
      go_ret
      refine ⟨_, rfl, ?_, HB2.out⟩
      rw [HP.out]; exact HO.out
    · have HP : Hid (partsW ⟨kd, no, nm, tx, a, b⟩ = []) := Lib.hid ((if_neg h67).trans (if_neg h8))
      have k8 := kind_eq h8
      go_enter Try.func106, Try.ntmps106
      go_wp2_with fail
      go_ret
      refine ⟨_, rfl, ?_, HB1.out⟩
      rw [HP.out]; exact World.ownsRow_nil _ _ _ _
/-! ### whether any count is other than one -/
theorem clo_use (x : Int) (w : World) : Calls Try.prog 108 #[.int .i64 x] w fun e w' => e = .returned (.bool (!(x == 1))) ∧ w = w' := by
  go_enter Try.func108, Try.ntmps108
  go_wp2_with fail
  go_ret
  exact ⟨ret_bool (by first | rfl | simp), rfl⟩
set_option maxHeartbeats 1000000 in
theorem idx_use {w : World} (a : Option Addr) (cap : Nat) (l : List Int) (hrow : Rw w a (ints l)) (hn : l.length ≤ 1048576) :
    Calls Try.prog 136 #[.slice a l.length cap, .func (.func 108) #[] #[]] w fun e w' => e = .returned (.int .i64 (fidx (fun x => !(x == 1)) l)) ∧ w = w' := by
  have HROW := Lib.hid hrow
  clear hrow
  generalize hp : (fun x : Int => !(x == 1)) = p
  have HCLO : Hid (∀ (x : Int) (w : World), Calls Try.prog 108 #[.int .i64 x] w fun e w' => e = .returned (.bool (p x)) ∧ w = w') := Lib.hid (by rw [← hp]; exact clo_use)
  clear hp
  go_enter Try.func136, Try.ntmps136
  go_wp2_with fail
  go_loopw [8] (fun i wr => ∃ k : Nat, k ≤ l.length ∧ i = .int .i64 k ∧ Hid ((l.take k).any p = false) ∧ w = wr) (fun i _ => l.length - (intOf i).toNat)
  case atStart => exact ⟨0, Nat.zero_le _, rfl, rfl, rfl⟩
  case round =>
    obtain ⟨k, hk, rfl, HA, rfl⟩ := hrel
    by_cases hlk : k < l.length
    case neg =>
      go_wp2_with fail
      go_ret
      obtain rfl : k = l.length := by omega
      have h1 := HA.out
      rw [List.take_length] at h1
      exact ⟨ret_int (fidx_none p l h1).symm, rfl⟩
    have hyes := fun h => fidx_here p l 0 k hlk HA.out h
    have hno := fun h => fidx_next p l 0 k hlk HA.out h
    obtain ⟨b, off, rfl, hbl, hc⟩ := HROW.out.at (ints_ne hlk)
    have hd := hc k _ (ints_at l k hlk)
    have HC := Lib.hid (HCLO.out (l.getD k 0) w)
    have HY := Lib.hid hyes; have HN := Lib.hid hno
    clear hc hyes hno
    generalize l.getD k 0 = x at *
    cases hp : p x with
    | true =>
      rw [hp] at HC
      have HP := Lib.hid hp; clear hp
      go_wp2_with (go_at_call 108; refine HC.out.mono ?_; rintro e w2 ⟨rfl, rfl⟩)
      go_ret
      exact ⟨ret_int (HY.out HP.out).symm, rfl⟩
    | false =>
      rw [hp] at HC
      have HP := Lib.hid hp; clear hp
      go_wp2_with (go_at_call 108; refine HC.out.mono ?_; rintro e w2 ⟨rfl, rfl⟩)
      go_roundw
      case rel => exact ⟨k + 1, by omega, by go_num, HN.out HP.out, (by first | trivial | rfl)⟩
      case measure => simp [intOf]; omega
set_option maxHeartbeats 1000000 in
theorem has_use {w : World} (a : Option Addr) (cap : Nat) (l : List Int) (hrow : Rw w a (ints l)) (hn : l.length ≤ 1048576) :
    Calls Try.prog 107 #[.slice a l.length cap, .func (.func 108) #[] #[]] w fun e w' => e = .returned (.bool (l.any fun x => !(x == 1))) ∧ w = w' := by
  have HI := Lib.hid (idx_use a cap l hrow hn)
  clear hrow
  by_cases h : 0 ≤ fidx (fun x => !(x == 1)) l
  · have H := Lib.hid ((fidx_any (fun x => !(x == 1)) l).1 h)
    generalize fidx (fun x => !(x == 1)) l = r at *
    go_enter Try.func107, Try.ntmps107
    go_wp2_with (go_at_call 136; refine HI.out.mono ?_; rintro e w' ⟨rfl, rfl⟩)
    go_ret
    exact ⟨ret_bool (by rw [H.out]; try (simp; try omega)), rfl⟩
  · have H := Lib.hid (Bool.eq_false_iff.2 fun hc => h ((fidx_any (fun x => !(x == 1)) l).2 hc))
    generalize fidx (fun x => !(x == 1)) l = r at *
    go_enter Try.func107, Try.ntmps107
    go_wp2_with (go_at_call 136; refine HI.out.mono ?_; rintro e w' ⟨rfl, rfl⟩)
    go_ret
    exact ⟨ret_bool (by rw [H.out]; try (simp; try omega)), rfl⟩
end Go.Proofs.Ytlmgckijbamgpaa
