/- The state of the program's automaton while it is built: its states (rows that own rows), its texts, its map. No function of the program is named here. -/
import Derived.Test.YtfkcchbbbfeamaaAuto2
import Derived.Test.YtfkcchbbbfeamaaHState
namespace Go.Proofs.Ytfkcchbbbfeamaa
set_option linter.unusedVariables false
open Go.ChangeShapes Go.WideShapes Go.ChangeAt Go.RowKit
set_option maxRecDepth 100000

/-! ### footprints that turn -/
theorem OwL.turn2 {α : Type} {K : Kind α} {w w' : World} (hK : K.Ok) : ∀ {fs : List (List Nat)} {vs : List (List Value)} {xs : List α}, OwL K w fs vs xs → fs.flatten.Nodup → ∀ (i : Nat) (f f' : List Nat) (v' : List Value) (x' : α), fs[i]? = some f →
    (∀ b ∈ fs.flatten, b ∉ f → w'.heap[b]? = w.heap[b]?) → K.ow f' w' v' x' → OwL K w' (fs.set i f') (vs.set i v') (xs.set i x')
  | [], [], [], _, _, i, f, f', v', x', hf, _, _ => by simp at hf
  | g :: fs, v :: vs, x :: xs, h, hn, 0, f, f', v', x', hf, hb, ho => by
    simp at hf; subst hf
    rw [List.flatten_cons, List.nodup_append] at hn
    exact ⟨ho, h.2.frame hK fun b hm => hb b (by rw [List.flatten_cons]; simp only [List.mem_append]; exact .inr hm) fun hc => hn.2.2 b hc b hm rfl⟩
  | g :: fs, v :: vs, x :: xs, h, hn, i + 1, f, f', v', x', hf, hb, ho => by
    rw [List.flatten_cons, List.nodup_append] at hn
    have hf' : fs[i]? = some f := by simpa using hf
    refine ⟨hK.oframe h.1 fun b hm => hb b (by simp [hm]) fun hc => hn.2.2 b hm b ?_ rfl, h.2.turn2 hK hn.2.1 i f f' v' x' hf' (fun b hm => hb b (by rw [List.flatten_cons]; simp only [List.mem_append]; exact .inr hm)) ho⟩
    exact List.mem_flatten.2 ⟨f, List.mem_of_getElem? hf', hc⟩
theorem nodup_set : ∀ {fs : List (List Nat)} {i : Nat} {f f' : List Nat}, fs.flatten.Nodup → fs[i]? = some f → f'.Nodup → (∀ b ∈ f', b ∈ f ∨ b ∉ fs.flatten) → (fs.set i f').flatten.Nodup
  | [], i, f, f', _, h, _, _ => by simp at h
  | g :: fs, 0, f, f', hn, h, h1, h2 => by
    simp at h; subst h
    rw [List.flatten_cons, List.nodup_append] at hn
    rw [List.set_cons_zero, List.flatten_cons, List.nodup_append]
    refine ⟨h1, hn.2.1, fun a ha b hb e => ?_⟩
    subst e
    rcases h2 a ha with hc | hc
    · exact hn.2.2 a hc a hb rfl
    · exact hc (by rw [List.flatten_cons]; simp only [List.mem_append]; exact .inr hb)
  | g :: fs, i + 1, f, f', hn, h, h1, h2 => by
    have hf' : fs[i]? = some f := by simpa using h
    rw [List.flatten_cons, List.nodup_append] at hn
    rw [List.set_cons_succ, List.flatten_cons, List.nodup_append]
    refine ⟨hn.1, nodup_set hn.2.1 hf' h1 (fun b hb => (h2 b hb).imp id fun hc hm => hc (by rw [List.flatten_cons]; simp only [List.mem_append]; exact .inr hm)), fun a ha b hb e => ?_⟩
    subst e
    obtain ⟨q, hq, haq⟩ := List.mem_flatten.1 hb
    rcases List.mem_or_eq_of_mem_set hq with hq | rfl
    · exact hn.2.2 a ha a (List.mem_flatten.2 ⟨q, hq, haq⟩) rfl
    · rcases h2 a haq with hc | hc
      · exact hn.2.2 a ha a (List.mem_flatten.2 ⟨f, List.mem_of_getElem? hf', hc⟩) rfl
      · exact hc (by rw [List.flatten_cons]; simp only [List.mem_append]; exact .inl ha)
theorem mem_set {fs : List (List Nat)} {i : Nat} {f' : List Nat} {b : Nat} (h : b ∈ (fs.set i f').flatten) : b ∈ fs.flatten ∨ b ∈ f' := by
  obtain ⟨q, hq, hb⟩ := List.mem_flatten.1 h
  rcases List.mem_or_eq_of_mem_set hq with hq | rfl
  · exact .inl (List.mem_flatten.2 ⟨q, hq, hb⟩)
  · exact .inr hb

/-! ### what lies in a block -/
theorem own_at {w : World} {base : Nat} {e : TypeId} {size n g : Nat} {v : Value} {xs : List Value} (h : w.ownsRow base e size v n xs) (hg : v.ownBlock = some g) : ∃ cur, w.heap[g]? = some (.cells cur e (0, 0)) := by
  rcases h.2 with ⟨rfl, _⟩ | ⟨g', cap, cur, rfl, _, hh, _⟩
  · cases hg
  · simp only [Value.ownBlock, Option.some.injEq] at hg
    subst hg; exact ⟨cur, hh⟩
theorem ints_fp {fp : List Nat} {w : World} {c : Value} {ys : List Int} (h : kIntS.ow fp w [c] ys) : fp = c.ownBlock.toList ∧ w.ownsRow 0 3 1 c ys.length (ints ys) ∧ ∀ y ∈ ys, (Lit.int .i64 y).wf = true := by
  obtain ⟨v, vss, fps, hv, ho, hr, hfp, _⟩ := h
  simp only [List.cons.injEq, and_true] at hv
  subst hv
  have key : ∀ (fps : List (List Nat)) (vss : List (List Value)) (ys : List Int), OwL kInt w fps vss ys → fps.flatten = [] ∧ vss.flatten = ints ys ∧ ∀ y ∈ ys, (Lit.int .i64 y).wf = true := by
    intro fps
    induction fps with
    | nil =>
      intro vss ys h
      match vss, ys, h with
      | [], [], _ => exact ⟨rfl, rfl, by simp⟩
    | cons f fs ih =>
      intro vss ys h
      match vss, ys, h with
      | v :: vs, y :: ys, h =>
        obtain ⟨⟨rfl, rfl, hw⟩, h2⟩ := h
        obtain ⟨e1, e2, e3⟩ := ih vs ys h2
        refine ⟨by rw [List.flatten_cons, e1]; rfl, by rw [List.flatten_cons, e2]; rfl, ?_⟩
        intro z hz
        rcases List.mem_cons.1 hz with rfl | hz
        · exact hw
        · exact e3 z hz
  obtain ⟨e1, e2, e3⟩ := key fps vss ys hr
  rw [e1, List.append_nil] at hfp
  rw [e2] at ho
  exact ⟨hfp, ho, e3⟩
theorem ints_mk {w : World} {base : Nat} {c : Value} {ys : List Int} (ho : w.ownsRow base 3 1 c ys.length (ints ys)) (hw : ∀ y ∈ ys, (Lit.int .i64 y).wf = true) : kIntS.ow c.ownBlock.toList w [c] ys := by
  have key : ∀ (ys : List Int), (∀ y ∈ ys, (Lit.int .i64 y).wf = true) → ∃ fps vss, OwL kInt w fps vss ys ∧ fps.flatten = [] ∧ vss.flatten = ints ys := by
    intro ys
    induction ys with
    | nil => exact fun _ => ⟨[], [], trivial, rfl, rfl⟩
    | cons y ys ih =>
      intro h
      obtain ⟨fps, vss, h1, h2, h3⟩ := ih (fun z hz => h z (by simp [hz]))
      exact ⟨[] :: fps, [.int .i64 y] :: vss, ⟨⟨rfl, rfl, h y (by simp)⟩, h1⟩, by rw [List.flatten_cons, h2]; rfl, by rw [List.flatten_cons, h3]; rfl⟩
  obtain ⟨fps, vss, h1, h2, h3⟩ := key ys hw
  refine ⟨c, vss, fps, rfl, ?_, h1, by rw [h2, List.append_nil], ?_⟩
  · rw [h3]; exact own_mono ho (Nat.zero_le _)
  · cases c.ownBlock <;> simp
theorem fp_at {w : World} : ∀ {fps : List (List Nat)} {vss : List (List Value)} {xs : List St}, OwL kState w fps vss xs → ∀ b ∈ fps.flatten, ∃ cur, w.heap[b]? = some (.cells cur 3 (0, 0))
  | [], [], [], _, b, hb => by simp at hb
  | f :: fs, v :: vs, x :: xs, h, b, hb => by
    rw [List.flatten_cons] at hb
    rcases List.mem_append.1 hb with hb | hb
    · obtain ⟨a3, c3, _, _, _, hk⟩ := State_ow h.1
      obtain ⟨e1, e2, _⟩ := ints_fp hk
      rw [e1] at hb
      exact own_at e2 (by simpa using hb)
    · exact fp_at h.2 b hb
theorem MapS.wrote {S : Nat → Prop} {w w' : World} {b : Nat} {l : List ByteArray} (h : MapS w b l) (hw : Wrote S w w') (hb : ¬ S b) : MapS w' b l := by
  have hl := h.lt
  obtain ⟨D, ⟨es, clock, h1, h2⟩, h3⟩ := h
  exact ⟨D, ⟨es, clock, (hw.block b hl hb).trans h1, h2⟩, h3⟩
theorem MapS.at {w : World} {b : Nat} {l : List ByteArray} (h : MapS w b l) : ∃ es c, w.heap[b]? = some (.map es c) := by
  obtain ⟨D, ⟨es, clock, h1, _⟩, _⟩ := h
  exact ⟨es, clock, h1⟩

/-! ### the automaton -/
structure Au (n0 : Nat) (wr : World) (A M : Nat) (sv tv : Value) (lm lt : List ByteArray) (vss : List (List Value)) (fps : List (List Nat)) (xs : List St) : Prop where
  aut : wr.heap[A]? = some (.cells #[sv, tv, .map (some M)] 84)
  sts : wr.ownsRow n0 64 4 sv xs.length vss.flatten
  els : OwL kState wr fps vss xs
  nod : fps.flatten.Nodup
  fpb : ∀ b ∈ fps.flatten, n0 ≤ b
  txt : wr.ownsRow n0 9 1 tv lt.length (strs lt)
  map : MapS wr M lm
  loA : n0 ≤ A
  loM : n0 ≤ M
section
variable {n0 : Nat} {wr wy : World} {A M : Nat} {sv tv : Value} {lm lt : List ByteArray} {vss : List (List Value)} {fps : List (List Nat)} {xs : List St}
theorem Au.cells (h : Au n0 wr A M sv tv lm lt vss fps xs) : wr.cell? ⟨A, 0, none⟩ = some sv ∧ wr.cell? ⟨A, 1, none⟩ = some tv ∧ wr.cell? ⟨A, 2, none⟩ = some (.map (some M)) ∧ (∀ i, wr.frozen? ⟨A, i, none⟩ = false) := by
  have h1 := h.aut
  exact ⟨by simp [World.cell?, h1], by simp [World.cell?, h1], by simp [World.cell?, h1], fun i => by simp [World.frozen?, h1]⟩
/-- the blocks are apart -/
theorem Au.sA (h : Au n0 wr A M sv tv lm lt vss fps xs) : sv.ownBlock ≠ some A := by
  intro e
  obtain ⟨cur, hc⟩ := own_at h.sts e
  rw [h.aut] at hc; simp at hc
theorem Au.tA (h : Au n0 wr A M sv tv lm lt vss fps xs) : tv.ownBlock ≠ some A := by
  intro e
  obtain ⟨cur, hc⟩ := own_at h.txt e
  rw [h.aut] at hc; simp at hc
theorem Au.mA (h : Au n0 wr A M sv tv lm lt vss fps xs) : M ≠ A := by
  rintro rfl
  obtain ⟨es, c, hc⟩ := h.map.at
  rw [h.aut] at hc; cases hc
theorem Au.sM (h : Au n0 wr A M sv tv lm lt vss fps xs) : sv.ownBlock ≠ some M := by
  intro e
  obtain ⟨cur, hc⟩ := own_at h.sts e
  obtain ⟨es, c, hm⟩ := h.map.at
  rw [hm] at hc; cases hc
theorem Au.tM (h : Au n0 wr A M sv tv lm lt vss fps xs) : tv.ownBlock ≠ some M := by
  intro e
  obtain ⟨cur, hc⟩ := own_at h.txt e
  obtain ⟨es, c, hm⟩ := h.map.at
  rw [hm] at hc; cases hc
theorem Au.st (h : Au n0 wr A M sv tv lm lt vss fps xs) {g : Nat} (hs : sv.ownBlock = some g) : tv.ownBlock ≠ some g := by
  intro e
  obtain ⟨cur, hc⟩ := own_at h.txt e
  obtain ⟨cur2, hc2⟩ := own_at h.sts hs
  rw [hc] at hc2; simp at hc2
theorem Au.fA (h : Au n0 wr A M sv tv lm lt vss fps xs) {b : Nat} (hb : b ∈ fps.flatten) : b ≠ A := by
  rintro rfl
  obtain ⟨cur, hc⟩ := fp_at h.els b hb
  rw [h.aut] at hc; simp at hc
theorem Au.fM (h : Au n0 wr A M sv tv lm lt vss fps xs) {b : Nat} (hb : b ∈ fps.flatten) : b ≠ M := by
  rintro rfl
  obtain ⟨cur, hc⟩ := fp_at h.els b hb
  obtain ⟨es, c, hm⟩ := h.map.at
  rw [hm] at hc; cases hc
theorem Au.fS (h : Au n0 wr A M sv tv lm lt vss fps xs) {b : Nat} (hb : b ∈ fps.flatten) : sv.ownBlock ≠ some b := by
  intro e
  obtain ⟨cur, hc⟩ := fp_at h.els b hb
  obtain ⟨cur2, hc2⟩ := own_at h.sts e
  rw [hc] at hc2; simp at hc2
theorem Au.fT (h : Au n0 wr A M sv tv lm lt vss fps xs) {b : Nat} (hb : b ∈ fps.flatten) : tv.ownBlock ≠ some b := by
  intro e
  obtain ⟨cur, hc⟩ := fp_at h.els b hb
  obtain ⟨cur2, hc2⟩ := own_at h.txt e
  rw [hc] at hc2; simp at hc2
theorem Au.ltA (h : Au n0 wr A M sv tv lm lt vss fps xs) : A < wr.heap.size := (Array.getElem?_eq_some_iff.1 h.aut).1
theorem Au.ltf (h : Au n0 wr A M sv tv lm lt vss fps xs) {b : Nat} (hb : b ∈ fps.flatten) : b < wr.heap.size := h.els.lt kState_ok b hb
/-- other blocks are written, new ones are made -/
theorem Au.later (h : Au n0 wr A M sv tv lm lt vss fps xs) (hb : Below wr.heap.size wr wy) : Au n0 wy A M sv tv lm lt vss fps xs :=
  ⟨(hb.block A h.ltA).trans h.aut, own_later h.sts hb, h.els.frame kState_ok fun b hm => hb.block b (h.ltf hm), h.nod, h.fpb, own_later h.txt hb, h.map.wrote (S := fun _ => False) ⟨hb.os, hb.tape, hb.output, hb.size, fun k hk _ => hb.block k hk⟩ id, h.loA, h.loM⟩
theorem Au.drewN (h : Au n0 wr A M sv tv lm lt vss fps xs) (n : Nat) : Au n0 (wr.drewN n) A M sv tv lm lt vss fps xs := h.later (below_drewN (Below.refl _ _) n)
theorem Au.drew (h : Au n0 wr A M sv tv lm lt vss fps xs) : Au n0 wr.drew A M sv tv lm lt vss fps xs := h.drewN 1
theorem Au.putMap {lm' : List ByteArray} (h : Au n0 wr A M sv tv lm lt vss fps xs) (hg : wr.grownBy wy (some M)) (hm : MapS wy M lm') : Au n0 wy A M sv tv lm' lt vss fps xs := by
  have hw := Wrote.of_grown hg
  exact ⟨(hg.block A h.ltA (by simpa using fun e => h.mA e.symm)).trans h.aut, hw.own h.sts (fun k hk e => h.sM (by rw [hk]; exact e.symm)), h.els.frame kState_ok fun b hb => hg.block b (h.ltf hb) (by simpa using h.fM hb), h.nod, h.fpb, hw.own h.txt (fun k hk e => h.tM (by rw [hk]; exact e.symm)), hm, h.loA, h.loM⟩
theorem Au.putState {sv' : Value} {v : List Value} {x : St} (h : Au n0 wr A M sv tv lm lt vss fps xs) (hg : wr.grownBy wy sv.ownBlock) (ho : wy.ownsRow n0 64 4 sv' (xs.length + 1) (vss.flatten ++ v)) (hv : ∀ w, kState.ow [] w v x) :
    Au n0 (wy.setCell ⟨A, 0, none⟩ sv') A M sv' tv lm lt (vss ++ [v]) (fps ++ [[]]) (xs ++ [x]) := by
  have hw := Wrote.of_grown hg
  have kA : wy.heap[A]? = some (.cells #[sv, tv, .map (some M)] 84) := (hg.block A h.ltA (fun e => h.sA e.symm)).trans h.aut
  have k1 : wy.ownsRow n0 9 1 tv lt.length (strs lt) := hw.own h.txt (fun k hk e => h.st e hk)
  have k2 : OwL kState wy fps vss xs := h.els.frame kState_ok fun b hb => hg.block b (h.ltf hb) (fun e => h.fS hb e.symm)
  have k3 : MapS wy M lm := h.map.wrote hw (fun e => h.sM e)
  have hA : sv'.ownBlock ≠ some A := by
    intro e
    obtain ⟨cur, hc⟩ := own_at ho e
    rw [kA] at hc; simp at hc
  have hc : Wrote (fun k => k = A) wy (wy.setCell ⟨A, 0, none⟩ sv') := wrote_cell _ _ _ _
  refine ⟨by simp [World.setCell, Array.getElem?_modify, kA], ?_, ?_, ?_, ?_, hc.own k1 (fun k hk e => h.tA (by rw [hk, e])), k3.wrote hc h.mA, h.loA, h.loM⟩
  · rw [List.length_append, List.flatten_append]
    simpa using hc.own ho (fun k hk e => hA (by rw [hk, e]))
  · exact (k2.frame kState_ok fun b hb => hc.block b (Nat.lt_of_lt_of_le (h.ltf hb) hg.size) (h.fA hb)).snoc (hv _)
  · simpa using h.nod
  · simpa using h.fpb
theorem Au.putText {tv' : Value} {s : ByteArray} (h : Au n0 wr A M sv tv lm lt vss fps xs) (hg : wr.grownBy wy tv.ownBlock) (ho : wy.ownsRow n0 9 1 tv' (lt.length + 1) (strs (lt ++ [s]))) :
    Au n0 (wy.setCell ⟨A, 1, none⟩ tv') A M sv tv' lm (lt ++ [s]) vss fps xs := by
  have hw := Wrote.of_grown hg
  have kA : wy.heap[A]? = some (.cells #[sv, tv, .map (some M)] 84) := (hg.block A h.ltA (fun e => h.tA e.symm)).trans h.aut
  have k1 : wy.ownsRow n0 64 4 sv xs.length vss.flatten := hw.own h.sts (fun k hk e => h.st hk e)
  have k2 : OwL kState wy fps vss xs := h.els.frame kState_ok fun b hb => hg.block b (h.ltf hb) (fun e => h.fT hb e.symm)
  have k3 : MapS wy M lm := h.map.wrote hw (fun e => h.tM e)
  have hA : tv'.ownBlock ≠ some A := by
    intro e
    obtain ⟨cur, hc⟩ := own_at ho e
    rw [kA] at hc; simp at hc
  have hc : Wrote (fun k => k = A) wy (wy.setCell ⟨A, 1, none⟩ tv') := wrote_cell _ _ _ _
  refine ⟨by simp [World.setCell, Array.getElem?_modify, kA], hc.own k1 (fun k hk e => h.sA (by rw [hk, e])), ?_, h.nod, h.fpb, ?_, k3.wrote hc h.mA, h.loA, h.loM⟩
  · exact k2.frame kState_ok fun b hb => hc.block b (Nat.lt_of_lt_of_le (h.ltf hb) hg.size) (h.fA hb)
  · rw [List.length_append]
    simpa using hc.own ho (fun k hk e => hA (by rw [hk, e]))
end
/-- one of the states, while it turns -/
theorem Au.row {n0 : Nat} {wr : World} {A M g sc : Nat} {tv : Value} {lm lt : List ByteArray} {vss : List (List Value)} {fps : List (List Nat)} {xs : List St} (h : Au n0 wr A M (.slice (some ⟨g, 0, none⟩) xs.length sc) tv lm lt vss fps xs) {k : Nat} {x : St} (hx : xs[k]? = some x) :
    ∃ f a c, fps[k]? = some f ∧ vss[k]? = some [Value.int .i64 x.1, Value.int .u8 (x.2.1.toNat : Int), Value.int .i64 x.2.2.1, .slice a x.2.2.2.length c] ∧ (Lit.int .i64 x.1).wf = true ∧ (Lit.int .i64 x.2.2.1).wf = true ∧ kIntS.ow f wr [.slice a x.2.2.2.length c] x.2.2.2 ∧
      RowAt wr 64 4 (.slice (some ⟨g, 0, none⟩) xs.length sc) xs.length vss k [Value.int .i64 x.1, Value.int .u8 (x.2.1.toNat : Int), Value.int .i64 x.2.2.1, .slice a x.2.2.2.length c] := by
  obtain ⟨f, v, hf, hv, how⟩ := h.els.at k x hx
  obtain ⟨a, c, rfl, h1, h2, h3⟩ := State_ow how
  exact ⟨f, a, c, hf, hv, h1, h2, h3, RowAt.begin (own_mono h.sts (Nat.zero_le _)) (h.els.lens kState_ok) hv⟩
theorem own_base_of {w w' : World} {base : Nat} {e : TypeId} {size n : Nat} {g c : Nat} {xs ys : List Value} (h : w.ownsRow base e size (.slice (some ⟨g, 0, none⟩) n c) n xs) (h' : w'.ownsRow 0 e size (.slice (some ⟨g, 0, none⟩) n c) n ys) : w'.ownsRow base e size (.slice (some ⟨g, 0, none⟩) n c) n ys := by
  have hb := (h.lt g rfl).1
  refine ⟨h'.1, ?_⟩
  rcases h'.2 with ⟨h0, _⟩ | ⟨g', cap, cur, hv, _, r⟩
  · cases h0
  · have : g' = g := by cases hv; rfl
    subst this
    exact .inr ⟨g', cap, cur, hv, hb, r⟩
/-- a state's fall is stored -/
theorem Au.putFail {n0 : Nat} {wr : World} {A M g sc : Nat} {tv : Value} {lm lt : List ByteArray} {vss : List (List Value)} {fps : List (List Nat)} {xs : List St} (h : Au n0 wr A M (.slice (some ⟨g, 0, none⟩) xs.length sc) tv lm lt vss fps xs) {k : Nat} {x : St} (hx : xs[k]? = some x) (z : Int) (hz : (Lit.int .i64 z).wf = true) :
    ∃ vss', Au n0 (wr.setCell ⟨g, k * 4 + 2, none⟩ (.int .i64 z)) A M (.slice (some ⟨g, 0, none⟩) xs.length sc) tv lm lt vss' fps (xs.set k (x.1, x.2.1, z, x.2.2.2)) := by
  obtain ⟨f, a, c, hf, hv, h1, h2, h3, hr⟩ := h.row hx
  have hs := hr.store 2 (.int .i64 z) (by decide)
  have hw : Wrote (fun b => b = g) wr (wr.setCell ⟨g, k * 4 + 2, none⟩ (.int .i64 z)) := wrote_cell _ _ _ _
  have hne : ∀ b ∈ fps.flatten, b ≠ g := fun b hb e => h.fS hb (by rw [e]; rfl)
  have hfm : ∀ b ∈ f, b ∈ fps.flatten := fun b hb => List.mem_flatten.2 ⟨f, List.mem_of_getElem? hf, hb⟩
  have hel := h.els.turn kState_ok h.nod (w' := wr.setCell ⟨g, k * 4 + 2, none⟩ (.int .i64 z)) k f ([Value.int .i64 x.1, Value.int .u8 (x.2.1.toNat : Int), Value.int .i64 x.2.2.1, .slice a x.2.2.2.length c].set 2 (.int .i64 z)) (x.1, x.2.1, z, x.2.2.2) hf
    (fun b hb _ => hw.block b (h.ltf hb) (hne b hb)) (State_owm (x := (x.1, x.2.1, z, x.2.2.2)) h1 hz (kIntS_ok.oframe h3 fun b hb => hw.block b (h.ltf (hfm b hb)) (hne b (hfm b hb))))
  refine ⟨_, (hw.block A h.ltA (fun e => h.sA (by rw [e]; rfl))).trans h.aut, ?_, hel, h.nod, h.fpb, hw.own h.txt (fun q hq e => h.st (g := g) rfl (by rw [hq, e])), h.map.wrote hw (fun e => h.sM (by rw [e]; rfl)), h.loA, h.loM⟩
  rw [List.length_set]
  exact own_base_of h.sts hs.1
/-- a word is put to a state -/
theorem Au.putWord {n0 : Nat} {wr wy : World} {A M g sc a : Nat} {tv wv : Value} {lm lt : List ByteArray} {vss : List (List Value)} {fps : List (List Nat)} {xs : List St} {f : List Nat} {q : Option Addr} {c n c' : Nat} {z : Int} (h : Au n0 wr A M (.slice (some ⟨g, 0, none⟩) xs.length sc) tv lm lt vss fps xs) {k : Nat} {x : St} (hx : xs[k]? = some x)
    (hf : fps[k]? = some f) (h1 : (Lit.int .i64 x.1).wf = true) (h2 : (Lit.int .i64 x.2.2.1).wf = true) (hwv : wv = .slice q n c) (h3 : kIntS.ow f wr [wv] x.2.2.2)
    (hr : RowAt wr 64 4 (.slice (some ⟨g, 0, none⟩) xs.length sc) xs.length vss k [Value.int .i64 x.1, Value.int .u8 (x.2.1.toNat : Int), Value.int .i64 x.2.2.1, wv])
    (hg : wr.grownBy wy wv.ownBlock) (ho : wy.ownsRow n0 3 1 (.slice (some ⟨a, 0, none⟩) (x.2.2.2.length + 1) c') (x.2.2.2.length + 1) (ints (x.2.2.2 ++ [z]))) (ha : wv.ownBlock = some a ∨ a = wr.heap.size) (hz : (Lit.int .i64 z).wf = true) :
    ∃ vss' fps', Au n0 (wy.setCell ⟨g, k * 4 + 3, none⟩ (.slice (some ⟨a, 0, none⟩) (x.2.2.2.length + 1) c')) A M (.slice (some ⟨g, 0, none⟩) xs.length sc) tv lm lt vss' fps' (xs.set k (x.1, x.2.1, x.2.2.1, x.2.2.2 ++ [z])) := by
  obtain ⟨hfe, how, hys⟩ := ints_fp h3
  have hfm : ∀ b ∈ f, b ∈ fps.flatten := fun b hb => List.mem_flatten.2 ⟨f, List.mem_of_getElem? hf, hb⟩
  have hwf : ∀ b, wv.ownBlock = some b → b ∈ f := fun b hb => by rw [hfe, hb]; simp
  have hw := Wrote.of_grown hg
  have gA : g ≠ A := fun e => h.sA (by rw [e]; rfl)
  have gM : g ≠ M := fun e => h.sM (by rw [e]; rfl)
  have gf : ∀ b ∈ fps.flatten, b ≠ g := fun b hb e => h.fS hb (by rw [e]; rfl)
  have wg : wv.ownBlock ≠ some g := fun e => gf g (hfm g (hwf g e)) rfl
  have kg : wy.heap[g]? = wr.heap[g]? := hg.block g (h.sts.lt g rfl).2 (fun e => wg e.symm)
  have kr := hr.keep (w' := wy) (fun b hb => by cases hb; exact kg)
  have hs := kr.store 3 (.slice (some ⟨a, 0, none⟩) (x.2.2.2.length + 1) c') (by decide)
  have hc : Wrote (fun b => b = g) wy (wy.setCell ⟨g, k * 4 + 3, none⟩ (.slice (some ⟨a, 0, none⟩) (x.2.2.2.length + 1) c')) := wrote_cell _ _ _ _
  have ag : a ≠ g := by
    rcases ha with e | e
    · exact fun e2 => wg (e2 ▸ e)
    · have := (h.sts.lt g rfl).2; omega
  have ho2 := hc.own ho (fun b hb e => by simp only [Value.ownBlock, Option.some.injEq] at hb; exact ag (hb.trans e))
  have hnew := ints_mk (ys := x.2.2.2 ++ [z]) (by rw [List.length_append]; exact ho2) (by intro y hy; rcases List.mem_append.1 hy with hy | hy; exact hys y hy; rw [List.mem_singleton.1 hy]; exact hz)
  have hel := h.els.turn2 kState_ok h.nod (w' := wy.setCell ⟨g, k * 4 + 3, none⟩ (.slice (some ⟨a, 0, none⟩) (x.2.2.2.length + 1) c')) k f [a] ([Value.int .i64 x.1, Value.int .u8 (x.2.1.toNat : Int), Value.int .i64 x.2.2.1, wv].set 3 (.slice (some ⟨a, 0, none⟩) (x.2.2.2.length + 1) c')) (x.1, x.2.1, x.2.2.1, x.2.2.2 ++ [z]) hf
    (fun b hb hn => (hc.block b (Nat.lt_of_lt_of_le (h.ltf hb) hg.size) (gf b hb)).trans (hg.block b (h.ltf hb) (fun e => hn (hwf b e.symm))))
    (State_owm (x := (x.1, x.2.1, x.2.2.1, x.2.2.2 ++ [z])) h1 h2 hnew)
  have mem_a : ∀ b ∈ [a], b ∈ f ∨ b ∉ fps.flatten := fun b hb => by
    rw [List.mem_singleton] at hb; subst hb
    rcases ha with e | e
    · exact .inl (hwf _ e)
    · exact .inr fun hm => by have := h.ltf hm; omega
  have tg : ∀ b, tv.ownBlock = some b → b ≠ g := fun b hb e => h.st (g := g) rfl (by rw [hb, e])
  have tw : ∀ b, tv.ownBlock = some b → wv.ownBlock ≠ some b := fun b hb e => h.fT (hfm b (hwf b e)) hb
  refine ⟨_, _, (hc.block A (Nat.lt_of_lt_of_le h.ltA hg.size) (fun e => gA e.symm)).trans ((hg.block A h.ltA (fun e => h.fA (hfm A (hwf A e.symm)) rfl)).trans h.aut), ?_, hel, nodup_set h.nod hf (by simp) mem_a, ?_, ?_, ?_, h.loA, h.loM⟩
  · rw [List.length_set]; exact own_base_of h.sts hs.1
  · intro b hb
    rcases mem_set hb with hb | hb
    · exact h.fpb b hb
    · rw [List.mem_singleton] at hb; subst hb; exact (ho.lt b rfl).1
  · exact hc.own (hw.own h.txt (fun b hb e => tw b hb e)) (fun b hb e => tg b hb e)
  · exact (h.map.wrote hw (fun e => h.fM (hfm M (hwf M e)) rfl)).wrote hc (fun e => gM e.symm)
end Go.Proofs.Ytfkcchbbbfeamaa
