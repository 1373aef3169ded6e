/- slices.Insert of one number into a slice of the call's own, by the shelf's four contracts; a number put to its place by BinarySearch and Insert. -/
import Derived.Test.YteknmjebokimjaaDoorPut
import Derived.Test.YteknmjebokimjaaDoorShelf
import Derived.Shelf.Spec.SlicesInsertGrow
namespace Go.Proofs.YteknmjebokimjaaDoor
set_option linter.unusedVariables false
open Go.ChangeShapes Go.WideShapes Go.ChangeAt Go.RowKit
set_option maxRecDepth 100000

theorem sets_at (L : List Value) (o : Nat) (vs : List Value) (h : o + vs.length ≤ L.length) : sets L o vs = L.take o ++ (vs ++ L.drop (o + vs.length)) := by
  have e : L = L.take o ++ ((L.drop o).take vs.length ++ L.drop (o + vs.length)) := by
    rw [← List.drop_drop, List.take_append_drop, List.take_append_drop]
  have hl : (L.take o).length = o := by rw [List.length_take]; omega
  have hz : vs.length = ((L.drop o).take vs.length).length := by rw [List.length_take, List.length_drop]; omega
  have h1 := sets_mid vs ((L.drop o).take vs.length) (L.take o) (L.drop (o + vs.length)) hz
  rw [hl, ← e] at h1
  exact h1
theorem heap_setCells (g : Nat) (e : TypeId) (fr : Nat × Nat) : ∀ (vs : List Value) (o : Nat) (w : World) (cur : Array Value), w.heap[g]? = some (.cells cur e fr) → ∃ cur', (w.setCells g o vs).heap[g]? = some (.cells cur' e fr) ∧ cur'.toList = sets cur.toList o vs
  | [], o, w, cur, h => ⟨cur, h, rfl⟩
  | v :: r, o, w, cur, h => by
    have h1 : (w.setCell ⟨g, o, none⟩ v).heap[g]? = some (.cells (cur.setIfInBounds o v) e fr) := by
      simp [World.setCell, Array.getElem?_modify, h]
    obtain ⟨cur', h2, h3⟩ := heap_setCells g e fr r (o + 1) _ _ h1
    refine ⟨cur', h2, ?_⟩
    rw [h3]; simp [sets]
theorem below_setCells {B : Nat} {w : World} (g : Nat) (hg : B ≤ g) : ∀ (vs : List Value) (o : Nat) (w' : World), Below B w w' → Below B w (w'.setCells g o vs)
  | [], _, _, h => h
  | v :: r, o, w', h => below_setCells g hg r (o + 1) _ (h.setCell (p := ⟨g, o, none⟩) hg v)
theorem own_cells {w : World} {base g cap n : Nat} {e : TypeId} {cur : Array Value} {xs : List Value} (hh : w.heap[g]? = some (.cells cur e (0, 0))) (hg : base ≤ g) (hn : n ≤ cap) (hm : cap ≤ maxLen) (hs : cur.toList.length = cap) (ht : cur.toList.take n = xs) (hx : xs.length = n) : w.ownsRow base e 1 (.slice (some ⟨g, 0, none⟩) n cap) n xs :=
  ⟨by omega, .inr ⟨g, cap, cur, rfl, hg, hh, hn, hm, by simpa using hs, by rw [Nat.mul_one]; exact ht⟩⟩
theorem ins_room (L : List Value) (i n : Nat) (xs : List Value) (a : Value) (hx : xs.length = n) (ht : L.take n = xs) (hi : i ≤ n) (hl : n + 1 ≤ L.length) :
    (sets (sets L (i + 1) (xs.drop i)) i [a]).take (n + 1) = xs.take i ++ a :: xs.drop i ∧ (sets (sets L (i + 1) (xs.drop i)) i [a]).length = L.length := by
  have hd : (xs.drop i).length = n - i := by rw [List.length_drop]; omega
  have h1 := sets_at L (i + 1) (xs.drop i) (by omega)
  have hlen : (sets L (i + 1) (xs.drop i)).length = L.length := by rw [h1]; simp; omega
  have h2 := sets_at (sets L (i + 1) (xs.drop i)) i [a] (by simp; omega)
  have e1 : (sets L (i + 1) (xs.drop i)).take i = xs.take i := by
    rw [h1, List.take_append_of_le_length (by simp; omega), List.take_take, ← ht, List.take_take]
    congr 1; omega
  have e2 : (sets L (i + 1) (xs.drop i)).drop (i + 1) = xs.drop i ++ L.drop (i + 1 + (xs.drop i).length) := by
    have hl1 : (L.take (i + 1)).length = i + 1 := by rw [List.length_take]; omega
    rw [h1]; exact List.drop_left' hl1
  rw [h2, e1, show i + [a].length = i + 1 from rfl, e2]
  constructor
  · rw [show xs.take i ++ ([a] ++ (xs.drop i ++ L.drop (i + 1 + (xs.drop i).length))) = (xs.take i ++ a :: xs.drop i) ++ L.drop (i + 1 + (xs.drop i).length) by simp]
    exact List.take_left' (by simp only [List.length_append, List.length_cons, List.length_take, hd]; omega)
  · simp only [List.length_append, List.length_cons, List.length_nil, List.length_take, List.length_drop]; omega
theorem ins_grow (C : List Value) (i n : Nat) (xs : List Value) (a : Value) (hx : xs.length = n) (ht : C.take i = xs.take i) (hi : i ≤ n) (hl : n + 1 ≤ C.length) :
    (sets (sets C i [a]) (i + 1) (xs.drop i)).take (n + 1) = xs.take i ++ a :: xs.drop i ∧ (sets (sets C i [a]) (i + 1) (xs.drop i)).length = C.length := by
  have hd : (xs.drop i).length = n - i := by rw [List.length_drop]; omega
  have h1 := sets_at C i [a] (by simp; omega)
  have hlen : (sets C i [a]).length = C.length := by rw [h1]; simp; omega
  have h2 := sets_at (sets C i [a]) (i + 1) (xs.drop i) (by omega)
  have e1 : (sets C i [a]).take (i + 1) = xs.take i ++ [a] := by
    rw [h1, ht, ← List.append_assoc, List.take_append_of_le_length (by simp; omega), List.take_of_length_le (by simp; omega)]
  rw [h2, e1]
  constructor
  · rw [show xs.take i ++ [a] ++ (xs.drop i ++ (sets C i [a]).drop (i + 1 + (xs.drop i).length)) = (xs.take i ++ a :: xs.drop i) ++ (sets C i [a]).drop (i + 1 + (xs.drop i).length) by simp]
    exact List.take_left' (by simp only [List.length_append, List.length_cons, List.length_take, hd]; omega)
  · simp only [List.length_append, List.length_cons, List.length_nil, List.length_take, List.length_drop]; omega

set_option maxHeartbeats 1000000 in
theorem impl_insert (base g cap i : Nat) (xs : List Int) (x : Int) (w : World) (ho : w.ownsRow base 3 1 (.slice (some ⟨g, 0, none⟩) xs.length cap) xs.length (ints xs)) (hb : base ≤ w.heap.size) (hi : i ≤ xs.length) (hl : xs.length ≤ 1048576) :
    Calls Tryd.prog 79 #[.slice (some ⟨g, 0, none⟩) xs.length cap, .int .i64 (i : Int), .slice (some ⟨w.heap.size, 0, none⟩) 1 1] (w.alloc (.cells #[.int .i64 x] 3)) fun e w' => ∃ v, e = .returned v ∧ w'.ownsRow base 3 1 v (xs.length + 1) (ints (xs.take i ++ x :: xs.drop i)) ∧ Below base w w' := by
  rcases ho.2 with ⟨hv, _⟩ | ⟨g', cap', cur, hv, hgb, hh, hn, hm, hs, ht⟩
  · cases hv
  cases hv
  rw [Nat.mul_one] at ht hs
  have hgl : g < w.heap.size := (Array.getElem?_eq_some_iff.1 hh).1
  have hh' : (w.alloc (.cells #[.int .i64 x] 3)).heap[g]? = some (.cells cur 3 (0, 0)) := by
    rw [((Below.refl w.heap.size w).alloc (Nat.le_refl _) _).block g hgl]; exact hh
  have hL : cur.toList.length = cap := by simpa using hs
  have hixs : (ints xs).length = xs.length := ints_length xs
  have eL : ints (xs.take i ++ x :: xs.drop i) = (ints xs).take i ++ .int .i64 x :: (ints xs).drop i := by simp [ints, List.map_take, List.map_drop]
  have hBW : Below base w (w.alloc (.cells #[.int .i64 x] 3)) := (Below.refl _ _).alloc hb _
  have hvs : ∀ (j : Nat) (v : Value), [Value.int .i64 x][j]? = some v → (w.alloc (.cells #[.int .i64 x] 3)).cell? ⟨w.heap.size, 0 + j, none⟩ = some v := by
    intro j v hj
    cases j with
    | zero => simp at hj; subst hj; go_simp
    | succ j => simp at hj
  have hcc : ∀ (j : Nat), j < cap → ((w.alloc (.cells #[.int .i64 x] 3)).cell? ⟨g, 0 + j, none⟩).isSome = true := by
    intro j hj
    simp only [World.cell?, hh', Nat.zero_add]
    simp [hs, hj]
  have hff : ∀ (j : Nat), (w.alloc (.cells #[.int .i64 x] 3)).frozen? ⟨g, j, none⟩ = false := by intro j; simp [World.frozen?, hh']
  have hcs : ∀ (j : Nat) (v : Value), (ints xs)[j]? = some v → (w.alloc (.cells #[.int .i64 x] 3)).cell? ⟨g, 0 + j, none⟩ = some v := by
    intro j v hj
    rw [← ht] at hj
    simp only [World.cell?, hh', Nat.zero_add]
    rw [List.getElem?_take] at hj
    split at hj
    · rw [← Array.getElem?_toList]; simpa using hj
    · cases hj
  have h1v : ∀ v ∈ [Value.int .i64 x], v.oneCell' = true := by simp [Value.oneCell']
  have hgm : ∀ W : World, grownCap W (xs.length + 1) cap 3 ≤ maxLen := fun W => grownCap_le_maxLen W _ _ _ (by unfold maxLen; omega)
  have hge : ∀ W : World, xs.length + 1 ≤ grownCap W (xs.length + 1) cap 3 := fun W => grownCap_ge W _ _ _
  have hc63 : cap ≤ 9223372036854775807 := by unfold maxLen at hm; omega
  rcases Nat.lt_or_ge i xs.length with hlt | hge2
  · by_cases hroom : xs.length + 1 ≤ cap
    · refine (Any2.slices_Insert_int_shift Tryd.laysNm221 g 0 xs.length cap i w.heap.size 0 1 1 (ints xs) [.int .i64 x] _ hlt (by omega) hroom hc63 (by omega) hixs rfl hcs (fun j hj => hcc j (by omega)) (fun j _ => hff _) hvs (ints_oc xs) h1v 3 3 1 cap (by simp only [World.shape?, heap_alloc_new]; rfl) (by simp only [World.shape?, hh', hs]) (by omega) (by simp only [World.frozen?, heap_alloc_new]; rfl) (by simp only [World.frozen?, heap_alloc_new]; rfl)).mono ?_
      rintro e w' ⟨he, hw⟩
      try rw [show Tryd.laysNm221_ren.t 3 = 3 from rfl] at he hw
      subst he; subst hw
      obtain ⟨c1, k1, k2⟩ := heap_setCells g 3 (0, 0) ((ints xs).drop i) (0 + (i + 1)) (w.alloc (.cells #[.int .i64 x] 3)).drew cur hh'
      obtain ⟨c2, k3, k4⟩ := heap_setCells g 3 (0, 0) [.int .i64 x] (0 + i) _ c1 k1
      have hr := ins_room cur.toList i xs.length (ints xs) (.int .i64 x) hixs ht hi (by omega)
      rw [Nat.zero_add] at k2 k4
      rw [← k2, ← k4] at hr
      refine ⟨_, rfl, ?_, below_setCells g hgb _ _ _ (below_setCells g hgb _ _ _ hBW.drew)⟩
      rw [eL]
      exact own_cells k3 hgb hroom hm (by rw [hr.2]; exact hL) hr.1 (by simp; omega)
    · refine (Any2.slices_Insert_int_grow Tryd.laysNm221 g 0 xs.length cap i w.heap.size 0 1 1 (ints xs) [.int .i64 x] _ hlt (by omega) hn (by omega) (by omega) hixs rfl hcs hvs (ints_oc xs) h1v).mono ?_
      rintro e w' ⟨he, hw⟩
      try rw [show Tryd.laysNm221_ren.t 3 = 3 from rfl] at he hw
      subst he; subst hw
      generalize hW : w.alloc (.cells #[.int .i64 x] 3) = W at *
      have hWs : w.heap.size ≤ W.heap.size := by rw [← hW]; simp
      have e0 := hge W; have e1 := hgm W
      generalize hq : grownCap W (xs.length + 1) cap 3 = q at *
      obtain ⟨c1, k1, k2⟩ := heap_setCells W.heap.size 3 (0, 0) [.int .i64 x] i (W.alloc (.cells (((ints xs).take i).toArray ++ Builtin.zeroCells (Value.int .i64 0).cells (xs.length + 1 - i) ++ Builtin.zeroCells (Value.int .i64 0).cells (q - (xs.length + 1))) 3)).drew _ (heap_alloc_new W _)
      obtain ⟨c2, k3, k4⟩ := heap_setCells W.heap.size 3 (0, 0) ((ints xs).drop i) (i + 1) (((W.alloc (.cells (((ints xs).take i).toArray ++ Builtin.zeroCells (Value.int .i64 0).cells (xs.length + 1 - i) ++ Builtin.zeroCells (Value.int .i64 0).cells (q - (xs.length + 1))) 3)).drew.setCells W.heap.size i [.int .i64 x]).drew) c1 k1
      have hz : ∀ k, (Builtin.zeroCells (Value.int .i64 0).cells k).toList.length = k := fun k => by have := size_zeroCells (Value.int .i64 0).cells k; rw [show (Value.int .i64 0).cells.size = 1 from rfl, Nat.mul_one] at this; simpa using this
      generalize hC : (((ints xs).take i).toArray ++ Builtin.zeroCells (Value.int .i64 0).cells (xs.length + 1 - i) ++ Builtin.zeroCells (Value.int .i64 0).cells (q - (xs.length + 1))) = C at *
      have hCt : C.toList = (ints xs).take i ++ ((Builtin.zeroCells (Value.int .i64 0).cells (xs.length + 1 - i)).toList ++ (Builtin.zeroCells (Value.int .i64 0).cells (q - (xs.length + 1))).toList) := by rw [← hC]; simp
      have hCl : C.toList.length = q := by rw [hCt]; simp only [List.length_append, hz, List.length_take, hixs]; omega
      have hr := ins_grow C.toList i xs.length (ints xs) (.int .i64 x) hixs (by rw [hCt, List.take_append_of_le_length (by simp; omega), List.take_take]; congr 1; omega) hi (by omega)
      rw [← k2, ← k4] at hr
      refine ⟨_, rfl, ?_, below_setCells _ (by omega) _ _ _ (below_setCells _ (by omega) _ _ _ ((hBW.alloc (by omega) _).drew)).drew⟩
      rw [eL]
      exact own_cells k3 (by omega) e0 e1 (by rw [hr.2]; exact hCl) hr.1 (by simp; omega)
  · obtain rfl : i = xs.length := by omega
    have eL2 : ints (xs.take xs.length ++ x :: xs.drop xs.length) = ints xs ++ [.int .i64 x] := by simp [ints]
    rw [eL2]
    by_cases hroom : xs.length + 1 ≤ cap
    · refine (Any2.slices_Insert_int_end_room Tryd.laysNm221 g 0 xs.length cap w.heap.size 0 1 1 [.int .i64 x] _ (by omega) hroom hc63 rfl (fun j hj => by have := hcc (xs.length + j) (by omega); simpa [Nat.add_assoc] using this) (fun j _ => hff _) hvs h1v).mono ?_
      rintro e w' ⟨he, hw⟩
      try rw [show Tryd.laysNm221_ren.t 3 = 3 from rfl] at he hw
      subst he; subst hw
      obtain ⟨c1, k1, k2⟩ := heap_setCells g 3 (0, 0) [.int .i64 x] (0 + xs.length) _ cur hh'
      rw [Nat.zero_add, sets_at _ _ _ (by simp; omega), ht] at k2
      refine ⟨_, rfl, ?_, below_setCells g hgb _ _ _ hBW⟩
      refine own_cells k1 hgb hroom hm (by rw [k2]; simp; omega) ?_ (by simp)
      rw [k2, ← List.append_assoc, List.take_append_of_le_length (by simp), List.take_of_length_le (by simp)]
    · refine (Any2.slices_Insert_int_end_grow Tryd.laysNm221 (some ⟨g, 0, none⟩) xs.length cap w.heap.size 0 1 1 (ints xs) [.int .i64 x] _ (by omega) hn (by omega) (by omega) hixs rfl (fun h => by cases h) (fun a ha j v hj => by cases ha; have := hcs j v hj; unfold Addr.add; split <;> simp_all) hvs h1v).mono ?_
      rintro e w' ⟨he, hw⟩
      try rw [show Tryd.laysNm221_ren.t 3 = 3 from rfl] at he hw
      subst he; subst hw
      generalize hW : w.alloc (.cells #[.int .i64 x] 3) = W at *
      have hWs : w.heap.size ≤ W.heap.size := by rw [← hW]; simp
      have e0 := hge W; have e1 := hgm W
      generalize hq : grownCap W (xs.length + 1) cap 3 = q at *
      have hz : ∀ k, (Builtin.zeroCells (Value.int .i64 0).cells k).toList.length = k := fun k => by have := size_zeroCells (Value.int .i64 0).cells k; rw [show (Value.int .i64 0).cells.size = 1 from rfl, Nat.mul_one] at this; simpa using this
      refine ⟨_, rfl, own_cells (heap_alloc_new W.drew _) (by show base ≤ W.heap.size; omega) e0 e1 ?_ ?_ (by simp), hBW.drew.alloc (by show base ≤ W.heap.size; omega) _⟩
      · simp only [Array.toList_append, List.length_append, hz, hixs, List.length_singleton]; omega
      · simp only [Array.toList_append]
        rw [List.take_append_of_le_length (by simp), List.take_of_length_le (by simp)]
end Go.Proofs.YteknmjebokimjaaDoor
