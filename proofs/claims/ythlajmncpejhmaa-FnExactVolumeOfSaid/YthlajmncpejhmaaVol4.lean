/- The reference's cut of a box: the walk. -/
import Derived.Test.YthlajmncpejhmaaVol3
import Derived.Test.YthlajmncpejhmaaMeetB
namespace Go.Proofs.Ythlajmncpejhmaa
set_option linter.unusedVariables false
open Go.ChangeShapes Go.WideShapes Go.ChangeAt Go.RowKit
set_option maxRecDepth 100000

/-! ### plain -/
def mQ (s o : Int × Int) : Int × Int := (max s.1 o.1, min s.2 o.2)
def leftR (a b : Bx) (i : Nat) : Bx := zipF mQ a b i ++ a.drop i
def pc1 (a b : Bx) (i : Nat) : List Bx := if (a.getD i (0, 0)).1 < (b.getD i (0, 0)).1 then [(leftR a b i).set i ((a.getD i (0, 0)).1, (b.getD i (0, 0)).1 - 1)] else []
def pc2 (a b : Bx) (i : Nat) : List Bx := if (b.getD i (0, 0)).2 < (a.getD i (0, 0)).2 then [(leftR a b i).set i ((b.getD i (0, 0)).2 + 1, (a.getD i (0, 0)).2)] else []
def outR (a b : Bx) : Nat → List Bx
  | 0 => []
  | i + 1 => outR a b i ++ (pc1 a b i ++ pc2 a b i)
theorem list3 {α : Type} {l : List α} (h : l.length = 3) : ∃ x y z, l = [x, y, z] := by
  match l, h with
  | [x, y, z], _ => exact ⟨x, y, z, rfl⟩
theorem cutF_out {a b : Bx} (ha : a.length = 3) (hb : b.length = 3) : cutF [] a b = outR a b 3 := by
  obtain ⟨a0, a1, a2, rfl⟩ := list3 ha
  obtain ⟨b0, b1, b2, rfl⟩ := list3 hb
  simp [cutF, outR, pc1, pc2, leftR, zipF, mQ, List.range_succ]
theorem meetB_MR {a b : Bx} (ha : a.length = 3) (hb : b.length = 3) : (MR a b).2 = meetB a b := by
  obtain ⟨a0, a1, a2, rfl⟩ := list3 ha
  obtain ⟨b0, b1, b2, rfl⟩ := list3 hb
  have key : (zipF meetP [a0, a1, a2] [b0, b1, b2] 3).all (fun p => decide (p.1 ≤ p.2)) = meetB [a0, a1, a2] [b0, b1, b2] := by
    simp only [zipF, List.range_succ, meetB, meetP, List.zip_cons_cons, List.all_cons]
    simp
    rw [Bool.eq_iff_iff]
    simp only [Bool.and_eq_true, decide_eq_true_eq]
    refine and_congr ?_ (and_congr ?_ ?_) <;> (constructor <;> intro h <;> (repeat' split at h) <;> (repeat' split) <;> omega)
  unfold MR
  rw [← key]
  split
  · rename_i h; rw [h]
  · rename_i h; simp only [Bool.not_eq_true] at h; rw [h]
theorem leftR_len {a b : Bx} (ha : a.length = 3) {i : Nat} (hi : i ≤ 3) : (leftR a b i).length = 3 := by
  unfold leftR; rw [List.length_append, zipF_length, List.length_drop]; omega
theorem leftR_at {a b : Bx} {i : Nat} (hi : i < a.length) : (leftR a b i).getD i (0, 0) = a.getD i (0, 0) := by
  unfold leftR
  rw [List.getD_eq_getElem?_getD, List.getElem?_append_right (by simp), zipF_length, Nat.sub_self, List.getElem?_drop, Nat.add_zero, List.getD_eq_getElem?_getD]
theorem leftR_next {a b : Bx} {i : Nat} (hi : i < a.length) : (leftR a b i).set i (mQ (a.getD i (0, 0)) (b.getD i (0, 0))) = leftR a b (i + 1) := by
  unfold leftR
  rw [List.set_append_right _ _ (by simp), zipF_length, Nat.sub_self, zipF_snoc, List.append_assoc, List.drop_eq_getElem_cons hi, List.set_cons_zero]; rfl
theorem sds_setlo : ∀ (xs : Bx) (i : Nat) (u : Int), i < xs.length → (sds xs).set (i * 2) (.int .i64 u) = sds (xs.set i (u, (xs.getD i (0, 0)).2))
  | [], i, u, h => by simp at h
  | x :: r, 0, u, h => rfl
  | x :: r, i + 1, u, h => by
    rw [sds_cons, show (i + 1) * 2 = i * 2 + 1 + 1 by omega, List.set_cons_succ, List.set_cons_succ, sds_setlo r i u (by simpa using h), List.set_cons_succ, sds_cons]; rfl
theorem sds_sethi : ∀ (xs : Bx) (i : Nat) (u : Int), i < xs.length → (sds xs).set (i * 2 + 1) (.int .i64 u) = sds (xs.set i ((xs.getD i (0, 0)).1, u))
  | [], i, u, h => by simp at h
  | x :: r, 0, u, h => rfl
  | x :: r, i + 1, u, h => by
    rw [sds_cons, show (i + 1) * 2 + 1 = i * 2 + 1 + 1 + 1 by omega, List.set_cons_succ, List.set_cons_succ, sds_sethi r i u (by simpa using h), List.set_cons_succ, sds_cons]; rfl

/-! ### boxes that lie somewhere -/
def BxAt (w : World) (v : Value) (p : Bx) (N : Nat → Prop) : Prop :=
  ∃ b off cap, v = .slice (some ⟨b, off, none⟩) 3 cap ∧ (3 ≤ cap ∧ cap ≤ maxLen) ∧ b < w.heap.size ∧ N b ∧ p.length = 3 ∧ ∀ i u, (sds p)[i]? = some u → w.cell? ⟨b, off + i, none⟩ = some u
def Pts (w : World) (N : Nat → Prop) : List Value → List Bx → Prop
  | [], [] => True
  | v :: vs, p :: ps => BxAt w v p N ∧ Pts w N vs ps
  | _, _ => False
theorem BxAt.frame {w w' : World} {v : Value} {p : Bx} {N M : Nat → Prop} (h : BxAt w v p N) (hs : w.heap.size ≤ w'.heap.size) (hb : ∀ b, b < w.heap.size → N b → w'.heap[b]? = w.heap[b]? ∧ M b) : BxAt w' v p M := by
  obtain ⟨b, off, cap, rfl, hc, hl, hn, hp, hcl⟩ := h
  exact ⟨b, off, cap, rfl, hc, by omega, (hb b hl hn).2, hp, fun i u hu => (World.cell?_of_block (w := w) (hb b hl hn).1).trans (hcl i u hu)⟩
theorem Pts.frame {w w' : World} {N M : Nat → Prop} (hs : w.heap.size ≤ w'.heap.size) (hb : ∀ b, b < w.heap.size → N b → w'.heap[b]? = w.heap[b]? ∧ M b) : ∀ {vs : List Value} {ps : List Bx}, Pts w N vs ps → Pts w' M vs ps
  | [], [], _ => trivial
  | _ :: _, _ :: _, h => ⟨h.1.frame hs hb, h.2.frame hs hb⟩
theorem Pts.app {w : World} {N : Nat → Prop} : ∀ {vs us : List Value} {ps qs : List Bx}, Pts w N vs ps → Pts w N us qs → Pts w N (vs ++ us) (ps ++ qs)
  | [], _, [], _, _, h => h
  | _ :: _, _, _ :: _, _, h, h' => ⟨h.1, h.2.app h'⟩
theorem Pts.at {w : World} {N : Nat → Prop} : ∀ {vs : List Value} {ps : List Bx}, Pts w N vs ps → ∀ (i : Nat) (p : Bx), ps[i]? = some p → ∃ v, vs[i]? = some v ∧ BxAt w v p N
  | [], [], _, i, p, hp => by simp at hp
  | v :: _, q :: _, h, 0, p, hp => by simp at hp; subst hp; exact ⟨v, rfl, h.1⟩
  | _ :: _, _ :: _, h, i + 1, p, hp => by
    obtain ⟨v, h1, h2⟩ := h.2.at i p (by simpa using hp)
    exact ⟨v, by simpa using h1, h2⟩
theorem Pts.len {w : World} {N : Nat → Prop} : ∀ {vs : List Value} {ps : List Bx}, Pts w N vs ps → vs.length = ps.length
  | [], [], _ => rfl
  | _ :: _, _ :: _, h => by rw [List.length_cons, List.length_cons, h.2.len]
theorem Pts.one {w : World} {N : Nat → Prop} : ∀ {vs : List Value} {ps : List Bx}, Pts w N vs ps → ∀ u ∈ vs, u.oneCell' = true
  | [], [], _, u, hu => by simp at hu
  | _ :: _, _ :: _, h, u, hu => by
    rcases List.mem_cons.1 hu with rfl | hu
    · obtain ⟨b, off, cap, rfl, _⟩ := h.1; rfl
    · exact h.2.one u hu
/-- more of them, behind a row that grew -/
theorem Pts.grown {w w' : World} {N : Nat → Prop} {v : Value} {g : Nat} {vs us : List Value} {ps qs : List Bx} (h : Pts w (fun k => v.ownBlock ≠ some k ∧ N k) vs ps) (h' : Pts w (fun k => v.ownBlock ≠ some k ∧ N k) us qs) (hg : w.grownBy w' v.ownBlock) (hat : v.ownBlock = some g ∨ g = w.heap.size) :
    Pts w' (fun k => some g ≠ some k ∧ N k) (vs ++ us) (ps ++ qs) :=
  (h.app h').frame hg.size fun b hb hn => ⟨hg.block b hb fun e => hn.1 e.symm, fun e => by
    rcases hat with h1 | h1
    · exact hn.1 (h1.trans e)
    · simp only [Option.some.injEq] at e; omega, hn.2⟩
theorem own_set {w : World} {base g cap n size : Nat} {e : TypeId} {xs : List Value} (h : w.ownsRow base e size (.slice (some ⟨g, 0, none⟩) n cap) n xs) (k : Nat) (u : Value) : (w.setCell ⟨g, k, none⟩ u).ownsRow base e size (.slice (some ⟨g, 0, none⟩) n cap) n (xs.set k u) := by
  rcases h.2 with ⟨h0, _⟩ | ⟨g', cap', cur, hv, hb, hh, h1, h2, h3, h4⟩
  · cases h0
  cases hv
  refine ⟨by rw [List.length_set]; exact h.1, .inr ⟨g, cap, cur.setIfInBounds k u, rfl, hb, by simp [World.setCell, Array.getElem?_modify, hh], h1, h2, by simpa using h3, ?_⟩⟩
  rw [Array.toList_setIfInBounds, ← h4, List.take_set]
theorem own_frozen {w : World} {base g cap n size : Nat} {e : TypeId} {xs : List Value} (h : w.ownsRow base e size (.slice (some ⟨g, 0, none⟩) n cap) n xs) (k : Nat) : w.frozen? ⟨g, k, none⟩ = false := by
  rcases h.2 with ⟨h0, _⟩ | ⟨g', cap', cur, hv, hb, hh, h1, h2, h3, h4⟩
  · cases h0
  cases hv
  simp [World.frozen?, hh]
theorem own_cellk {w : World} {base g cap n size : Nat} {e : TypeId} {xs : List Value} (h : w.ownsRow base e size (.slice (some ⟨g, 0, none⟩) n cap) n xs) {k : Nat} {u : Value} (hu : xs[k]? = some u) : w.cell? ⟨g, k, none⟩ = some u := by
  rcases own_rw h with h0 | ⟨b, off, hv, hl, hc⟩
  · rw [h0] at hu; cases hu
  · simp only [Option.some.injEq, Addr.mk.injEq, and_true] at hv
    obtain ⟨rfl, rfl⟩ := hv
    have := hc k u hu
    rwa [Nat.zero_add] at this
theorem own_bxat {w : World} {base g cap : Nat} {xs : Bx} {N : Nat → Prop} (h : w.ownsRow base 64 2 (.slice (some ⟨g, 0, none⟩) 3 cap) 3 (sds xs)) (hx : xs.length = 3) (hn : N g) : BxAt w (.slice (some ⟨g, 0, none⟩) 3 cap) xs N :=
  ⟨g, 0, cap, rfl, own_caps h, (h.lt g rfl).2, hn, hx, fun i u hu => by rw [Nat.zero_add]; exact own_cellk h hu⟩
def CutOf (ps : List Bx) (w : World) (e : Ending) (w' : World) : Prop :=
  ∃ v vs, e = .returned v ∧ w'.ownsRow w.heap.size 28 1 v ps.length vs ∧ Pts w' (fun k => v.ownBlock ≠ some k ∧ w.heap.size ≤ k) vs ps ∧ Below w.heap.size w w' ∧ (ps.length = 0 → v = .slice none 0 0)
end Go.Proofs.Ythlajmncpejhmaa
