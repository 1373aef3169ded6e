/- The contracts of the draws: bent proofs. -/
import Derived.Test.YtdhkagabkhepgaaCur5
import Derived.Laws.OwnMore
namespace Go.Proofs.Ytdhkagabkhepgaa
set_option linter.unusedVariables false
open Go.ChangeShapes Go.WideShapes Go.ChangeAt Go.RowKit
set_option maxRecDepth 100000

theorem ints_app (xs ys : List Int) : ints (xs ++ ys) = ints xs ++ ints ys := by simp [ints]
theorem ints_oc (xs : List Int) : ∀ u ∈ ints xs, u.oneCell' = true := by intro u hu; simp only [ints, List.mem_map] at hu; obtain ⟨z, _, rfl⟩ := hu; rfl
theorem run_app_none {w : World} (base : Nat) (t ty e : TypeId) (i : TypeInfo) (size c : Nat) (ht : Try.prog.underlying t = some (.slice e)) (hi : Try.prog.info? e = some i)
    (v : Value) (n : Nat) (xs : List Value) (hown : w.ownsRow base e size v n xs) : (Builtin.append_ #[t, t] ty #[v, .slice none 0 c]).run Try.prog w = .ok v w := by
  rcases hown.2 with ⟨rfl, rfl⟩ | ⟨g, cap, cur, rfl, _, _, hnc, _⟩
  · simp [Builtin.append_, run_underlying ht, sizeOf, typeInfo, hi, Builtin.lenOf, Builtin.firstCells]
  · simp [Builtin.append_, run_underlying ht, sizeOf, typeInfo, hi, Builtin.lenOf, Builtin.firstCells, hnc, storeCells]
theorem app_none {w : World} {ops : Array Oper} {rest : List Oper} {o : Oper} {a : Act} {Q : Exit → Act → World → Prop} (hgd : o.guard = none) (s x : Operand) (t : TypeId)
    (ho : o.op = .call { callee := .builtin .append, args := #[s, x], argTypes := #[t, t] })
    (base : Nat) (e : TypeId) (i : TypeInfo) (size c : Nat) (ht : Try.prog.underlying t = some (.slice e)) (hi : Try.prog.info? e = some i)
    (v : Value) (n : Nat) (xs : List Value) (hs : a.eval s = v) (hown : w.ownsRow base e size v n xs) (hx : a.eval x = .slice none 0 c)
    (h : wpList Try.prog ops Q rest (a.put o.dst v) w) : wpList Try.prog ops Q (o :: rest) a w := by
  refine wpList_plain hgd fun K hK => ?_
  have hrun := run_app_none (w := w) base t o.type e i size c ht hi v n xs hown
  unfold Oper.wp
  simp [execOp, ho, resolve, invoke, builtin, hs, hx, hrun, Result.andThen]
  exact hK _ _ h
/-- a row of numbers behind an own one -/
theorem app_ints {w : World} {ops : Array Oper} {rest : List Oper} {o : Oper} {a : Act} {Q : Exit → Act → World → Prop} (hgd : o.guard = none) (s x : Operand)
    (ho : o.op = .call { callee := .builtin .append, args := #[s, x], argTypes := #[35, 35] })
    (base : Nat) (v : Value) (xs : List Int) (hs : a.eval s = v) (hown : w.ownsRow base 3 1 v xs.length (ints xs))
    (q : Option Addr) (m c : Nat) (ys : List Int) (hm : m = ys.length) (hx : a.eval x = .slice q m c) (hrow : Rw w q (ints ys)) (hlen : xs.length + ys.length ≤ 1048576) (hbase : base ≤ w.heap.size)
    (h : ∀ v' w', w'.ownsRow base 3 1 v' (xs ++ ys).length (ints (xs ++ ys)) → w.grownBy w' v.ownBlock → Below base w w' → wpList Try.prog ops Q rest (a.put o.dst v') w') : wpList Try.prog ops Q (o :: rest) a w := by
  obtain ⟨i0, hi, hz0, hz1, hz2⟩ := info_parts Try.infoInt
  subst hm
  have hel : (xs ++ ys).length = xs.length + ys.length := List.length_append
  have hei : ints (xs ++ ys) = ints xs ++ ints ys := ints_app xs ys
  cases q with
  | none =>
    have hy : ys = [] := by
      rcases hrow with h0 | ⟨b, off, ha, _⟩
      · simpa [ints] using h0
      · cases ha
    subst hy
    refine app_none hgd s x 35 ho base 3 i0 1 c Try.underlying35 hi v xs.length (ints xs) hs hown hx ?_
    refine h v w ?_ ⟨rfl, rfl, rfl, Nat.le_refl _, fun _ _ _ => rfl⟩ (Below.refl _ _)
    simpa using hown
  | some ad =>
    refine wpList_append_own _ hgd s x 35 ho base 3 i0 (.int .i64 0) 1 8 Try.underlying35 hi hz0 hz1 hz2 rfl (by decide) v xs.length (ints xs) hs hown ad ys.length c (ints ys) hx (by simp) ?_ (ints_oc _) (by unfold maxLen; omega) (by omega) hbase ?_
    · intro j u hu
      rcases hrow with h0 | ⟨b, off, ha, _, hc⟩
      · rw [h0] at hu; simp at hu
      · cases ha
        have e : ((⟨b, off, none⟩ : Addr).add j) = ⟨b, off + j, none⟩ := by unfold Addr.add; split <;> simp_all
        rw [e]; exact hc j u hu
    · intro v' w' ho' hg _
      rw [← hei, ← hel] at ho'
      exact h v' w' ho' hg (Below.grown (Below.refl _ _) hg hbase (fun j hj => (hown.lt j hj).1))


def BentOf (B K m : Nat) (w : World) (e : Ending) (w' : World) : Prop :=
  ∃ v p, e = .returned (.agg #[v]) ∧ w'.ownsRow w.heap.size 3 1 v p.length (ints p) ∧ p.length ≤ m + 1 ∧ Wrote (WS B w.heap.size) w w'
def Bs (w : World) (B K b5 : Nat) (v : Value) (xs : List Int) (wx : World) : Prop :=
  wx.heap[b5]? = some (.cells #[v] 41) ∧ wx.ownsRow (w.heap.size + 2) 3 1 v xs.length (ints xs) ∧ wx.heap[w.heap.size + 1]? = some (.cells #[.slice none 0 0] 41) ∧ Wrote (WS B w.heap.size) w wx ∧ PC wx B K ∧ w.heap.size + 2 ≤ b5
theorem bs_cur {w : World} {B K K' b5 : Nat} {v : Value} {xs : List Int} {wx wy : World} (h : Bs w B K b5 v xs wx) (hB : B < w.heap.size) (hw : Wrote (fun k => k = B) wx wy) (hp : PC wy B K') : Bs w B K' b5 v xs wy := by
  obtain ⟨h1, h2, h3, h4, h5, h6⟩ := h
  exact ⟨(hw.block b5 (Array.getElem?_eq_some_iff.1 h1).1 (by omega)).trans h1, hw.own h2 (fun k hk => by have := (h2.lt k hk).1; omega), (hw.block _ (Array.getElem?_eq_some_iff.1 h3).1 (by omega)).trans h3, h4.trans (ws_cur hw), hp, h6⟩
theorem bs_drew {w : World} {B K b5 : Nat} {v : Value} {xs : List Int} {wx : World} (h : Bs w B K b5 v xs wx) : Bs w B K b5 v xs wx.drew := by
  obtain ⟨h1, h2, h3, h4, h5, h6⟩ := h
  exact ⟨h1, h2, h3, wdrew h4, h5, h6⟩
theorem own_type {w : World} {base B n : Nat} {v u : Value} {xs : List Value} (ho : w.ownsRow base 3 1 v n xs) (h : w.heap[B]? = some (.cells #[u] 41)) : v.ownBlock ≠ some B := by
  intro e
  rcases ho.2 with ⟨rfl, _⟩ | ⟨g, cap, cur, rfl, _, hh, _⟩
  · cases e
  · simp only [Value.ownBlock, Option.some.injEq] at e
    subst e
    rw [h] at hh
    simp at hh
theorem bs_cells {w : World} {B K b5 : Nat} {v : Value} {xs : List Int} {wx : World} (h : Bs w B K b5 v xs wx) : wx.cell? ⟨b5, 0, none⟩ = some v ∧ wx.frozen? ⟨b5, 0, none⟩ = false ∧ wx.cell? ⟨w.heap.size + 1, 0, none⟩ = some (.slice none 0 0) ∧ wx.frozen? ⟨w.heap.size + 1, 0, none⟩ = false := by
  obtain ⟨h1, _, h3, _⟩ := h
  exact ⟨by simp [World.cell?, h1], by simp [World.frozen?, h1], by simp [World.cell?, h3], by simp [World.frozen?, h3]⟩
/-- a number of the row turns -/
theorem bs_turn {w : World} {B K b5 g c : Nat} {xs : List Int} {wx : World} (h : Bs w B K b5 (.slice (some ⟨g, 0, none⟩) xs.length c) xs wx) (hB : B < w.heap.size) (r : Nat) (z : Int) :
    Bs w B K b5 (.slice (some ⟨g, 0, none⟩) (xs.set r z).length c) (xs.set r z) (wx.setCell ⟨g, r, none⟩ (.int .i64 z)) := by
  obtain ⟨h1, h2, h3, h4, h5, h6⟩ := h
  have hs := h2.stored r (.int .i64 z)
  have e : (ints xs).set r (.int .i64 z) = ints (xs.set r z) := by simp [ints, List.map_set]
  have hg := (h2.lt g rfl).1
  have n1 := own_type h2 h1
  have n3 := own_type h2 h3
  rw [e] at hs
  rw [List.length_set]
  exact ⟨(hs.2.block _ (Array.getElem?_eq_some_iff.1 h1).1 (fun e => n1 e.symm)).trans h1, by rw [List.length_set]; exact hs.1, (hs.2.block _ (Array.getElem?_eq_some_iff.1 h3).1 (fun e => n3 e.symm)).trans h3, h4.trans (ws_grown hs.2 (fun k hk => by simp only [Option.some.injEq] at hk; omega)), pc_grown h5 hB hs.2 (fun k hk => by simp only [Option.some.injEq] at hk; omega), h6⟩
/-- the row grows, and is stored -/
theorem bs_grow {w : World} {B K b5 : Nat} {v v' : Value} {xs ys : List Int} {wx wy : World} (h : Bs w B K b5 v xs wx) (hB : B < w.heap.size) (ho : wy.ownsRow (w.heap.size + 2) 3 1 v' ys.length (ints ys)) (hg : wx.grownBy wy v.ownBlock) :
    Bs w B K b5 v' ys (wy.setCell ⟨b5, 0, none⟩ v') := by
  obtain ⟨h1, h2, h3, h4, h5, h6⟩ := h
  have n1 := own_type h2 h1
  have n3 := own_type h2 h3
  have k1 := (hg.block _ (Array.getElem?_eq_some_iff.1 h1).1 (fun e => n1 e.symm)).trans h1
  have k3 := (hg.block _ (Array.getElem?_eq_some_iff.1 h3).1 (fun e => n3 e.symm)).trans h3
  have k4 := h4.trans (ws_grown hg (fun k hk => by have := (h2.lt k hk).1; omega))
  have k5 := pc_grown h5 hB hg (fun k hk => by have := (h2.lt k hk).1; omega)
  have m1 := own_type ho k1
  have hne : b5 ≠ w.heap.size + 1 := by omega
  have w5 : Wrote (fun k => k = b5) wy (wy.setCell ⟨b5, 0, none⟩ v') := wrote_cell _ _ _ _
  refine ⟨by simp [World.setCell, Array.getElem?_modify, k1], w5.own ho (fun k hk e => m1 (e ▸ hk)), (w5.block _ (Array.getElem?_eq_some_iff.1 k3).1 (fun e => hne e.symm)).trans k3, k4.trans (w5.mono fun k _ hk => .inr (by omega)), ?_, h6⟩
  exact pc_grown (n := w.heap.size) k5 hB (row := some b5) ⟨w5.os, w5.tape, w5.output, w5.size, fun k hk hs => w5.block k hk (fun e => hs (by rw [e]))⟩ (fun k hk => by simp only [Option.some.injEq] at hk; omega)
theorem bs_alloc {w : World} {B K b5 : Nat} {v : Value} {xs : List Int} {wx : World} (h : Bs w B K b5 v xs wx) (o : Obj) : Bs w B K b5 v xs (wx.alloc o) := by
  obtain ⟨h1, h2, h3, h4, h5, h6⟩ := h
  have hb : Below wx.heap.size wx (wx.alloc o) := (Below.refl _ _).alloc (Nat.le_refl _) o
  exact ⟨(hb.block b5 (Array.getElem?_eq_some_iff.1 h1).1).trans h1, h2.alloc o, (hb.block _ (Array.getElem?_eq_some_iff.1 h3).1).trans h3, h4.trans (ws_below (hb.mono h4.size) h4.size), h5.later hb, h6⟩
theorem bs_mid {w : World} {B K b5 : Nat} {v : Value} {xs : List Int} {wx wy : World} (h : Bs w B K b5 v xs wx) (hg : wx.grownBy wy v.ownBlock) : wy.cell? ⟨b5, 0, none⟩ = some v ∧ wy.frozen? ⟨b5, 0, none⟩ = false := by
  have n1 := own_type h.2.1 h.1
  have k1 := (hg.block _ (Array.getElem?_eq_some_iff.1 h.1).1 (fun e => n1 e.symm)).trans h.1
  exact ⟨by simp [World.cell?, k1], by simp [World.frozen?, k1]⟩
set_option maxHeartbeats 2000000 in
theorem cur_bent (B KQ : Nat) (w : World) (h : PC w B KQ) (hK : KQ ≤ 800000000000) (a : Option Addr) (c : Nat) (p : List Int) (hr : Rw w a (ints p)) (hp : p.length ≤ 100000) (hpc : p.length ≤ c) (hc : c ≤ 9223372036854775807) :
    Calls Try.prog 78 #[.pointer (some ⟨B, 0, none⟩), .agg #[.slice a p.length c]] w (BentOf B KQ p.length w) := by
  have HR := Lib.hid hr; have HPC := Lib.hid h
  have hBl := h.lt
  clear hr h
  unfold BentOf
  go_enter Try.func78, Try.ntmps78
  have HR3 : Hid (Rw (((w.alloc (.cells #[.slice a p.length c] 41)).alloc (.cells #[.slice none 0 0] 41)).alloc (.cells #[] 3)) a (ints p)) := Lib.hid (((HR.out.alloc _).alloc _).alloc _)
  have HO3 : Hid ((((w.alloc (.cells #[.slice a p.length c] 41)).alloc (.cells #[.slice none 0 0] 41)).alloc (.cells #[] 3)).ownsRow (w.heap.size + 2) 3 1 (.slice (some ⟨w.heap.size + 1 + 1, 0, none⟩) 0 0) ([] : List Int).length (ints [])) := Lib.hid (by
    have := World.ownsRow_lit (base := w.heap.size + 2) (e := 3) (size := 1) ((w.alloc (.cells #[.slice a p.length c] 41)).alloc (.cells #[.slice none 0 0] 41)) #[] 0 (by simp) (by decide) rfl
    simpa [ints] using this)
  go_wp2_with (at_builtin; refine app_ints rfl _ _ rfl (w.heap.size + 2) _ [] rfl HO3.out _ _ _ p rfl rfl HR3.out (by simp; omega) (by simp) ?_)
  intro v1 w1 ho1 hg1 hb1
  obtain ⟨q1, c1, rfl⟩ := form_of_own ho1
  have hwz : w.heap.size + 3 ≤ w1.heap.size := by have := hb1.size; simpa using this
  have hw3 : Below w.heap.size w (((w.alloc (.cells #[.slice a p.length c] 41)).alloc (.cells #[.slice none 0 0] 41)).alloc (.cells #[] 3)) := (((Below.refl _ _).alloc (Nat.le_refl _) _).alloc (by simp) _).alloc (by simp; omega) _
  have hb1' := hw3.trans (hb1.mono (by omega))
  have hb5 : Below w.heap.size w (w1.alloc (.cells #[.slice q1 p.length c1] 41)) := hb1'.alloc hb1'.size _
  have hk3 : (w1.alloc (.cells #[.slice q1 p.length c1] 41)).heap[w.heap.size + 1]? = some (.cells #[.slice none 0 0] 41) := by
    have k1 := hb1.block (w.heap.size + 1) (by omega)
    have k2 := ((Below.refl w1.heap.size w1).alloc (Nat.le_refl _) (.cells #[.slice q1 p.length c1] 41)).block (w.heap.size + 1) (by omega)
    rw [k2, k1]
    have k3 := ((Below.refl (w.heap.size + 2) ((w.alloc (.cells #[.slice a p.length c] 41)).alloc (.cells #[.slice none 0 0] 41))).alloc (by simp) (.cells #[] 3)).block (w.heap.size + 1) (by omega)
    rw [k3]
    have k4 := heap_alloc_new (w.alloc (.cells #[.slice a p.length c] 41)) (.cells #[.slice none 0 0] 41)
    simpa using k4
  have HBS : Hid (Bs w B KQ w1.heap.size (.slice q1 p.length c1) p (w1.alloc (.cells #[.slice q1 p.length c1] 41))) := Lib.hid ⟨heap_alloc_new w1 _, ho1.alloc (.cells #[.slice q1 p.length c1] 41), hk3, ws_below hb5 (Nat.le_refl _), HPC.out.later hb5, by omega⟩
  clear ho1 hg1 hb1 hw3 hb1' hb5 hk3 HR3 HO3
  go_wp2_with fail
  generalize w1.alloc (.cells #[.slice q1 p.length c1] 41) = wb at *
  generalize w1.heap.size = b5 at *
  refine (cur_one B KQ 3 _ HBS.out.2.2.2.2.1 (by omega) (by omega)).mono ?_
  rintro e w2 ⟨b2, rfl, hp, hw⟩
  replace HBS := Lib.hid (bs_cur HBS.out hBl hw hp); clear hp hw
  obtain ⟨i0, hi, hz0, hz1, hz2⟩ := info_parts Try.infoInt
  obtain ⟨d0, e0, -, -⟩ := bs_cells HBS.out
  cases b2 with
  | false =>
    go_wp2_with fail
    obtain ⟨xs, hxs⟩ : ∃ xs : List Int, xs = p := ⟨p, rfl⟩
    have HXE : Hid (xs.length = p.length) := Lib.hid (by rw [hxs])
    have HXL : Hid (xs.length ≤ p.length + 1) := Lib.hid (by rw [hxs]; omega)
    replace HBS : Hid (Bs w B (KQ + 2) b5 (.slice q1 p.length c1) xs w2) := by rw [hxs]; exact HBS
    clear hxs d0 e0
    refine (cur_one B (KQ + 2) 12 w2 HBS.out.2.2.2.2.1 (by omega) (by omega)).mono ?_
    rintro e w6 ⟨b6, rfl, hp6, hw6⟩
    replace HBS := Lib.hid (bs_cur HBS.out hBl hw6 hp6); clear hp6 hw6
    cases b6 with
    | false =>
      obtain ⟨d0, e0, d1, e1⟩ := bs_cells HBS.out
      have HOE := Lib.hid HBS.out.2.1; have HWE := Lib.hid HBS.out.2.2.2.1
      have hlb := HBS.out.2.2.2.2.2
      have hbs5 := (Array.getElem?_eq_some_iff.1 HBS.out.1).1
      have hlw : w.heap.size + 1 < w6.heap.size := by omega
      clear HBS
      go_wp2_with fail
      have hk : (w6.setCell ⟨w.heap.size + 1, 0, none⟩ (.slice q1 p.length c1)).cell? ⟨w.heap.size + 1, 0, none⟩ = some (.slice q1 p.length c1) := World.cell?_setCell_same _ _ _ d1
      refine bodyPost_ret (v := .agg #[.slice q1 p.length c1]) (by simp [results, Try.results78, go_sem, hk]) rfl ⟨_, xs, rfl, ?_, HXL.out, ?_⟩
      · exact own_mono (ownsRow_setCell_below HOE.out (a := ⟨w.heap.size + 1, 0, none⟩) (by simp) _) (by omega)
      · exact HWE.out.trans ((wrote_cell _ (w.heap.size + 1) 0 _).mono fun k _ hk => .inr (by omega))
    | true =>
      obtain ⟨d0, e0, -, -⟩ := bs_cells HBS.out
      go_wp2_with fail
      refine wp_region_G [5] (fun w' => w'.cell? ⟨b5, 0, none⟩ = some (.slice q1 p.length c1)) (by kernel_rfl) ?_ (fun hHeld => ?_)
      · exact d0
      refine wpG_pure (i := 0) (oi := { dst := some 38, op := Go.Op.fieldAddr 41 (Go.Operand.tmp 5) 0, type := 0, pos := "l13_proof.go:235", after := #[], guard := none }) (v := ?vg1) rfl (by kernel_rfl) (fun _ _ _ h => h) (Or.inr hHeld) (Or.inl ⟨by rfl, ?yg1⟩) ?_
      case yg1 => (intro wS _; go_simp <;> with_reducible rfl)
      try simp only [Act.put, List.setIfInBounds_toArray, List.set_cons_zero, List.set_cons_succ]
      refine wpG_load (i := 1) (oi := { dst := some 39, op := Go.Op.load 35 (Go.Operand.tmp 38), type := 35, pos := "l13_proof.go:235", after := #[{ on := 0, ground := Go.Ground.data }], guard := none }) (v := ?vg2) [[5, 1]] rfl (by kernel_rfl) (fun _ _ _ h => h) hHeld (Or.inl ⟨by rfl, ?yg2⟩) ?_
      case yg2 => (intro wS hSw; (try dsimp only at hSw); go_simp <;> with_reducible rfl)
      try simp only [Act.put, List.setIfInBounds_toArray, List.set_cons_zero, List.set_cons_succ]
      refine wpG_pure (i := 2) (oi := { dst := some 40, op := Go.Op.move (Go.Operand.tmp 0), type := 81, pos := "l13_proof.go:235", after := #[], guard := none }) (v := ?vg3) rfl (by kernel_rfl) (fun _ _ _ h => h) (Or.inr hHeld) (Or.inl ⟨by rfl, ?yg3⟩) ?_
      case yg3 => (intro wS _; go_simp <;> with_reducible rfl)
      try simp only [Act.put, List.setIfInBounds_toArray, List.set_cons_zero, List.set_cons_succ]
      refine wpG_one (i := 3) (o := { dst := some 41, op := Go.Op.call { callee := Go.Callee.value (Go.Operand.func 76), args := #[Go.Operand.tmp 40, Go.Operand.const (Go.Value.int Go.IntKind.i64 9)], argTypes := #[81, 3] }, type := 3, pos := "l13_proof.go:235", after := #[{ on := 2, ground := Go.Ground.data }], guard := none }) rfl (by kernel_rfl) (fun K hK => ?_)
      go_simp
      refine (cur_pick B ((KQ + 2) + 2) 9 _ (pdrew HBS.out.2.2.2.2.1) (by omega) (by omega)).mono ?_
      rintro e w7 ⟨r7, rfl, hr7, hp7, hw7⟩
      replace HBS := Lib.hid (bs_alloc (bs_cur (bs_drew HBS.out) hBl hw7 hp7) (.cells #[.int .i64 (r7 : Int)] 3))
      have d7 := hw7.cell d0 (by have := HBS.out.2.2.2.2.2; omega)
      clear hp7 hw7
      refine hK.out _ _ (Or.inr ?khHeld4) (fun hHeld4S => ?_)
      case khHeld4 => exact d7
      have hHeld4 := hHeld4S.held (by kernel_rfl)
      clear hK K
      try simp only [Act.put, List.setIfInBounds_toArray, List.set_cons_zero, List.set_cons_succ]
      refine wpG_one (i := 4) (o := { dst := some 42, op := Go.Op.buildSlice 35 1 #[(0, Go.Operand.tmp 41)], type := 35, pos := "l13_proof.go:235", after := #[{ on := 3, ground := Go.Ground.data }], guard := none }) rfl (by kernel_rfl) (fun K hK => ?_)
      go_simp
      refine hK.out _ _ (Or.inr ?khHeld5) (fun hHeld5S => ?_)
      case khHeld5 => exact (bs_cells HBS.out).1
      have hHeld5 := hHeld5S.held (by kernel_rfl)
      clear hK K
      try simp only [Act.put, List.setIfInBounds_toArray, List.set_cons_zero, List.set_cons_succ]
      refine wpG_one (i := 5) (o := { dst := some 43, op := Go.Op.call { callee := Go.Callee.builtin Go.Builtin.append, args := #[Go.Operand.tmp 39, Go.Operand.tmp 42], argTypes := #[35, 35] }, type := 35, pos := "l13_proof.go:235", after := #[{ on := 1, ground := Go.Ground.data }, { on := 4, ground := Go.Ground.data }, { on := 3, ground := Go.Ground.chain }], guard := none }) rfl (by kernel_rfl) (fun K hK => ?_)
      refine step_append_lies _ rfl (.tmp 39) (.tmp 42) 35 rfl (w.heap.size + 2) 3 i0 (.int .i64 0) 1 8 Try.underlying35 hi hz0 hz1 hz2 rfl (by decide) _ p.length (ints xs) rfl (by have := HBS.out.2.1; rw [HXE.out] at this; exact this) ⟨w7.heap.size, 0, none⟩ 1 1 [.int .i64 (r7 : Int)] rfl rfl (news_one _ _ _) (by simp [Value.oneCell']) (by omega) (by unfold maxLen; omega) (by omega) (by have := HBS.out.2.2.2.2.2; have := (Array.getElem?_eq_some_iff.1 HBS.out.1).1; omega) (w7.heap.size + 1) (by simp) ?_
      intro g8 c8 w8 hown hgrow _ _
      obtain ⟨d8, e8⟩ := bs_mid HBS.out hgrow
      have HG8 : Hid (Bs w B ((KQ + 2) + 2 + 2) b5 (.slice (some ⟨g8, 0, none⟩) (p.length + 1) c8) (xs ++ [(r7 : Int)]) (w8.setCell ⟨b5, 0, none⟩ (.slice (some ⟨g8, 0, none⟩) (p.length + 1) c8))) := Lib.hid (bs_grow HBS.out hBl (ys := xs ++ [(r7 : Int)]) (by rw [ints_app, List.length_append, HXE.out]; exact hown) hgrow)
      clear hown hgrow HBS
      refine hK.out _ _ (Or.inl (by kernel_rfl)) (fun _ => ?_)
      clear hK K
      try simp only [Act.put, List.setIfInBounds_toArray, List.set_cons_zero, List.set_cons_succ]
      refine wpG_pure (i := 6) (oi := { dst := some 44, op := Go.Op.fieldAddr 41 (Go.Operand.tmp 5) 0, type := 0, pos := "l13_proof.go:235", after := #[{ on := 0, ground := Go.Ground.phase }, { on := 1, ground := Go.Ground.phase }, { on := 2, ground := Go.Ground.phase }, { on := 3, ground := Go.Ground.phase }, { on := 4, ground := Go.Ground.phase }, { on := 5, ground := Go.Ground.phase }], guard := none }) (v := ?vg7) rfl (by kernel_rfl) (fun _ _ _ h => h) (Or.inl (by kernel_rfl)) (Or.inl ⟨by rfl, ?yg7⟩) ?_
      case yg7 => (intro wS _; go_simp <;> with_reducible rfl)
      try simp only [Act.put, List.setIfInBounds_toArray, List.set_cons_zero, List.set_cons_succ]
      refine wpG_one (i := 7) (o := { dst := none, op := Go.Op.store 35 (Go.Operand.tmp 44) (Go.Operand.tmp 43), type := 0, pos := "l13_proof.go:235", after := #[{ on := 6, ground := Go.Ground.data }, { on := 5, ground := Go.Ground.data }, { on := 5, ground := Go.Ground.chain }, { on := 0, ground := Go.Ground.phase }, { on := 1, ground := Go.Ground.phase }, { on := 2, ground := Go.Ground.phase }, { on := 3, ground := Go.Ground.phase }, { on := 4, ground := Go.Ground.phase }, { on := 5, ground := Go.Ground.phase }], guard := none }) rfl (by kernel_rfl) (fun K hK => ?_)
      go_simp
      refine hK.out _ _ (Or.inl (by kernel_rfl)) (fun _ => ?_)
      clear hK K
      try simp only [Act.put, List.setIfInBounds_toArray, List.set_cons_zero, List.set_cons_succ]
      refine wpG_done (by kernel_rfl) ?_
      have HBS := HG8
      clear HG8
      have HXL3 : Hid ((xs ++ [(r7 : Int)]).length ≤ p.length + 1) := Lib.hid (by have := HXE.out; rw [List.length_append]; simp; omega)
      generalize w8.setCell ⟨b5, 0, none⟩ (.slice (some ⟨g8, 0, none⟩) (p.length + 1) c8) = w9 at *
      obtain ⟨d0, e0, d1, e1⟩ := bs_cells HBS.out
      have HOE := Lib.hid HBS.out.2.1; have HWE := Lib.hid HBS.out.2.2.2.1
      have hlb := HBS.out.2.2.2.2.2
      have hbs5 := (Array.getElem?_eq_some_iff.1 HBS.out.1).1
      have hlw : w.heap.size + 1 < w9.heap.size := by omega
      clear HBS
      go_wp2_with fail
      have hk : (w9.setCell ⟨w.heap.size + 1, 0, none⟩ (.slice (some ⟨g8, 0, none⟩) (p.length + 1) c8)).cell? ⟨w.heap.size + 1, 0, none⟩ = some (.slice (some ⟨g8, 0, none⟩) (p.length + 1) c8) := World.cell?_setCell_same _ _ _ d1
      refine bodyPost_ret (v := .agg #[.slice (some ⟨g8, 0, none⟩) (p.length + 1) c8]) (by simp [results, Try.results78, go_sem, hk]) rfl ⟨_, (xs ++ [(r7 : Int)]), rfl, ?_, HXL3.out, ?_⟩
      · exact own_mono (ownsRow_setCell_below HOE.out (a := ⟨w.heap.size + 1, 0, none⟩) (by simp) _) (by omega)
      · exact HWE.out.trans ((wrote_cell _ (w.heap.size + 1) 0 _).mono fun k _ hk => .inr (by omega))
  | true =>
    by_cases hp0 : p.length = 0
    · have hd : decide (0 < p.length) = false := decide_eq_false (by omega)
      clear hp0
      go_wp2_with fail
      obtain ⟨xs, hxs⟩ : ∃ xs : List Int, xs = p := ⟨p, rfl⟩
      have HXE : Hid (xs.length = p.length) := Lib.hid (by rw [hxs])
      have HXL : Hid (xs.length ≤ p.length + 1) := Lib.hid (by rw [hxs]; omega)
      replace HBS : Hid (Bs w B (KQ + 2) b5 (.slice q1 p.length c1) xs w2) := by rw [hxs]; exact HBS
      clear hxs d0 e0
      refine (cur_one B (KQ + 2) 12 w2 HBS.out.2.2.2.2.1 (by omega) (by omega)).mono ?_
      rintro e w6 ⟨b6, rfl, hp6, hw6⟩
      replace HBS := Lib.hid (bs_cur HBS.out hBl hw6 hp6); clear hp6 hw6
      cases b6 with
      | false =>
        obtain ⟨d0, e0, d1, e1⟩ := bs_cells HBS.out
        have HOE := Lib.hid HBS.out.2.1; have HWE := Lib.hid HBS.out.2.2.2.1
        have hlb := HBS.out.2.2.2.2.2
        have hbs5 := (Array.getElem?_eq_some_iff.1 HBS.out.1).1
        have hlw : w.heap.size + 1 < w6.heap.size := by omega
        clear HBS
        go_wp2_with fail
        have hk : (w6.setCell ⟨w.heap.size + 1, 0, none⟩ (.slice q1 p.length c1)).cell? ⟨w.heap.size + 1, 0, none⟩ = some (.slice q1 p.length c1) := World.cell?_setCell_same _ _ _ d1
        refine bodyPost_ret (v := .agg #[.slice q1 p.length c1]) (by simp [results, Try.results78, go_sem, hk]) rfl ⟨_, xs, rfl, ?_, HXL.out, ?_⟩
        · exact own_mono (ownsRow_setCell_below HOE.out (a := ⟨w.heap.size + 1, 0, none⟩) (by simp) _) (by omega)
        · exact HWE.out.trans ((wrote_cell _ (w.heap.size + 1) 0 _).mono fun k _ hk => .inr (by omega))
      | true =>
        obtain ⟨d0, e0, -, -⟩ := bs_cells HBS.out
        go_wp2_with fail
        refine wp_region_G [5] (fun w' => w'.cell? ⟨b5, 0, none⟩ = some (.slice q1 p.length c1)) (by kernel_rfl) ?_ (fun hHeld => ?_)
        · exact d0
        refine wpG_pure (i := 0) (oi := { dst := some 38, op := Go.Op.fieldAddr 41 (Go.Operand.tmp 5) 0, type := 0, pos := "l13_proof.go:235", after := #[], guard := none }) (v := ?vg9) rfl (by kernel_rfl) (fun _ _ _ h => h) (Or.inr hHeld) (Or.inl ⟨by rfl, ?yg9⟩) ?_
        case yg9 => (intro wS _; go_simp <;> with_reducible rfl)
        try simp only [Act.put, List.setIfInBounds_toArray, List.set_cons_zero, List.set_cons_succ]
        refine wpG_load (i := 1) (oi := { dst := some 39, op := Go.Op.load 35 (Go.Operand.tmp 38), type := 35, pos := "l13_proof.go:235", after := #[{ on := 0, ground := Go.Ground.data }], guard := none }) (v := ?vg10) [[5, 1]] rfl (by kernel_rfl) (fun _ _ _ h => h) hHeld (Or.inl ⟨by rfl, ?yg10⟩) ?_
        case yg10 => (intro wS hSw; (try dsimp only at hSw); go_simp <;> with_reducible rfl)
        try simp only [Act.put, List.setIfInBounds_toArray, List.set_cons_zero, List.set_cons_succ]
        refine wpG_pure (i := 2) (oi := { dst := some 40, op := Go.Op.move (Go.Operand.tmp 0), type := 81, pos := "l13_proof.go:235", after := #[], guard := none }) (v := ?vg11) rfl (by kernel_rfl) (fun _ _ _ h => h) (Or.inr hHeld) (Or.inl ⟨by rfl, ?yg11⟩) ?_
        case yg11 => (intro wS _; go_simp <;> with_reducible rfl)
        try simp only [Act.put, List.setIfInBounds_toArray, List.set_cons_zero, List.set_cons_succ]
        refine wpG_one (i := 3) (o := { dst := some 41, op := Go.Op.call { callee := Go.Callee.value (Go.Operand.func 76), args := #[Go.Operand.tmp 40, Go.Operand.const (Go.Value.int Go.IntKind.i64 9)], argTypes := #[81, 3] }, type := 3, pos := "l13_proof.go:235", after := #[{ on := 2, ground := Go.Ground.data }], guard := none }) rfl (by kernel_rfl) (fun K hK => ?_)
        go_simp
        refine (cur_pick B ((KQ + 2) + 2) 9 _ (pdrew HBS.out.2.2.2.2.1) (by omega) (by omega)).mono ?_
        rintro e w7 ⟨r7, rfl, hr7, hp7, hw7⟩
        replace HBS := Lib.hid (bs_alloc (bs_cur (bs_drew HBS.out) hBl hw7 hp7) (.cells #[.int .i64 (r7 : Int)] 3))
        have d7 := hw7.cell d0 (by have := HBS.out.2.2.2.2.2; omega)
        clear hp7 hw7
        refine hK.out _ _ (Or.inr ?khHeld12) (fun hHeld12S => ?_)
        case khHeld12 => exact d7
        have hHeld12 := hHeld12S.held (by kernel_rfl)
        clear hK K
        try simp only [Act.put, List.setIfInBounds_toArray, List.set_cons_zero, List.set_cons_succ]
        refine wpG_one (i := 4) (o := { dst := some 42, op := Go.Op.buildSlice 35 1 #[(0, Go.Operand.tmp 41)], type := 35, pos := "l13_proof.go:235", after := #[{ on := 3, ground := Go.Ground.data }], guard := none }) rfl (by kernel_rfl) (fun K hK => ?_)
        go_simp
        refine hK.out _ _ (Or.inr ?khHeld13) (fun hHeld13S => ?_)
        case khHeld13 => exact (bs_cells HBS.out).1
        have hHeld13 := hHeld13S.held (by kernel_rfl)
        clear hK K
        try simp only [Act.put, List.setIfInBounds_toArray, List.set_cons_zero, List.set_cons_succ]
        refine wpG_one (i := 5) (o := { dst := some 43, op := Go.Op.call { callee := Go.Callee.builtin Go.Builtin.append, args := #[Go.Operand.tmp 39, Go.Operand.tmp 42], argTypes := #[35, 35] }, type := 35, pos := "l13_proof.go:235", after := #[{ on := 1, ground := Go.Ground.data }, { on := 4, ground := Go.Ground.data }, { on := 3, ground := Go.Ground.chain }], guard := none }) rfl (by kernel_rfl) (fun K hK => ?_)
        refine step_append_lies _ rfl (.tmp 39) (.tmp 42) 35 rfl (w.heap.size + 2) 3 i0 (.int .i64 0) 1 8 Try.underlying35 hi hz0 hz1 hz2 rfl (by decide) _ p.length (ints xs) rfl (by have := HBS.out.2.1; rw [HXE.out] at this; exact this) ⟨w7.heap.size, 0, none⟩ 1 1 [.int .i64 (r7 : Int)] rfl rfl (news_one _ _ _) (by simp [Value.oneCell']) (by omega) (by unfold maxLen; omega) (by omega) (by have := HBS.out.2.2.2.2.2; have := (Array.getElem?_eq_some_iff.1 HBS.out.1).1; omega) (w7.heap.size + 1) (by simp) ?_
        intro g8 c8 w8 hown hgrow _ _
        obtain ⟨d8, e8⟩ := bs_mid HBS.out hgrow
        have HG8 : Hid (Bs w B ((KQ + 2) + 2 + 2) b5 (.slice (some ⟨g8, 0, none⟩) (p.length + 1) c8) (xs ++ [(r7 : Int)]) (w8.setCell ⟨b5, 0, none⟩ (.slice (some ⟨g8, 0, none⟩) (p.length + 1) c8))) := Lib.hid (bs_grow HBS.out hBl (ys := xs ++ [(r7 : Int)]) (by rw [ints_app, List.length_append, HXE.out]; exact hown) hgrow)
        clear hown hgrow HBS
        refine hK.out _ _ (Or.inl (by kernel_rfl)) (fun _ => ?_)
        clear hK K
        try simp only [Act.put, List.setIfInBounds_toArray, List.set_cons_zero, List.set_cons_succ]
        refine wpG_pure (i := 6) (oi := { dst := some 44, op := Go.Op.fieldAddr 41 (Go.Operand.tmp 5) 0, type := 0, pos := "l13_proof.go:235", after := #[{ on := 0, ground := Go.Ground.phase }, { on := 1, ground := Go.Ground.phase }, { on := 2, ground := Go.Ground.phase }, { on := 3, ground := Go.Ground.phase }, { on := 4, ground := Go.Ground.phase }, { on := 5, ground := Go.Ground.phase }], guard := none }) (v := ?vg15) rfl (by kernel_rfl) (fun _ _ _ h => h) (Or.inl (by kernel_rfl)) (Or.inl ⟨by rfl, ?yg15⟩) ?_
        case yg15 => (intro wS _; go_simp <;> with_reducible rfl)
        try simp only [Act.put, List.setIfInBounds_toArray, List.set_cons_zero, List.set_cons_succ]
        refine wpG_one (i := 7) (o := { dst := none, op := Go.Op.store 35 (Go.Operand.tmp 44) (Go.Operand.tmp 43), type := 0, pos := "l13_proof.go:235", after := #[{ on := 6, ground := Go.Ground.data }, { on := 5, ground := Go.Ground.data }, { on := 5, ground := Go.Ground.chain }, { on := 0, ground := Go.Ground.phase }, { on := 1, ground := Go.Ground.phase }, { on := 2, ground := Go.Ground.phase }, { on := 3, ground := Go.Ground.phase }, { on := 4, ground := Go.Ground.phase }, { on := 5, ground := Go.Ground.phase }], guard := none }) rfl (by kernel_rfl) (fun K hK => ?_)
        go_simp
        refine hK.out _ _ (Or.inl (by kernel_rfl)) (fun _ => ?_)
        clear hK K
        try simp only [Act.put, List.setIfInBounds_toArray, List.set_cons_zero, List.set_cons_succ]
        refine wpG_done (by kernel_rfl) ?_
        have HBS := HG8
        clear HG8
        have HXL3 : Hid ((xs ++ [(r7 : Int)]).length ≤ p.length + 1) := Lib.hid (by have := HXE.out; rw [List.length_append]; simp; omega)
        generalize w8.setCell ⟨b5, 0, none⟩ (.slice (some ⟨g8, 0, none⟩) (p.length + 1) c8) = w9 at *
        obtain ⟨d0, e0, d1, e1⟩ := bs_cells HBS.out
        have HOE := Lib.hid HBS.out.2.1; have HWE := Lib.hid HBS.out.2.2.2.1
        have hlb := HBS.out.2.2.2.2.2
        have hbs5 := (Array.getElem?_eq_some_iff.1 HBS.out.1).1
        have hlw : w.heap.size + 1 < w9.heap.size := by omega
        clear HBS
        go_wp2_with fail
        have hk : (w9.setCell ⟨w.heap.size + 1, 0, none⟩ (.slice (some ⟨g8, 0, none⟩) (p.length + 1) c8)).cell? ⟨w.heap.size + 1, 0, none⟩ = some (.slice (some ⟨g8, 0, none⟩) (p.length + 1) c8) := World.cell?_setCell_same _ _ _ d1
        refine bodyPost_ret (v := .agg #[.slice (some ⟨g8, 0, none⟩) (p.length + 1) c8]) (by simp [results, Try.results78, go_sem, hk]) rfl ⟨_, (xs ++ [(r7 : Int)]), rfl, ?_, HXL3.out, ?_⟩
        · exact own_mono (ownsRow_setCell_below HOE.out (a := ⟨w.heap.size + 1, 0, none⟩) (by simp) _) (by omega)
        · exact HWE.out.trans ((wrote_cell _ (w.heap.size + 1) 0 _).mono fun k _ hk => .inr (by omega))
    have hp1 : 0 < p.length := by omega
    obtain ⟨g, c1', hv, hg1, hg2⟩ := HBS.out.2.1.form (by omega)
    cases hv
    have hd : decide (0 < p.length) = true := decide_eq_true (by omega)
    go_wp2_with fail
    refine (cur_pick B (KQ + 2) (p.length : Int) w2 HBS.out.2.2.2.2.1 (by omega) (by omega)).mono ?_
    rintro e w3 ⟨r, rfl, hr, hp3, hw3⟩
    replace HBS := Lib.hid (bs_cur HBS.out hBl hw3 hp3); clear hp3 hw3 d0 e0
    have hrl : r < p.length := by omega
    obtain ⟨d0, e0, -, -⟩ := bs_cells HBS.out
    have cx := HBS.out.2.1.cellAt r (by omega)
    rw [ints_at p r hrl] at cx
    have fx := HBS.out.2.1.frozenAt r
    generalize p.getD r 0 = x at *
    go_wp2_with fail
    refine wp_region_G [11] (fun w' => w'.cell? ⟨b5, 0, none⟩ = some (.slice (some ⟨g, 0, none⟩) p.length c1) ∧ w'.cell? ⟨g, r, none⟩ = some (.int .i64 x)) (by kernel_rfl) ?_ (fun hHeld => ?_)
    · exact ⟨d0, cx⟩
    refine wpG_pure (i := 0) (oi := { dst := some 25, op := Go.Op.fieldAddr 41 (Go.Operand.tmp 5) 0, type := 0, pos := "l13_proof.go:232", after := #[], guard := none }) (v := ?vg17) rfl (by kernel_rfl) (fun _ _ _ h => h) (Or.inr hHeld) (Or.inl ⟨by rfl, ?yg17⟩) ?_
    case yg17 => (intro wS _; go_simp <;> with_reducible rfl)
    try simp only [Act.put, List.setIfInBounds_toArray, List.set_cons_zero, List.set_cons_succ]
    refine wpG_load (i := 1) (oi := { dst := some 26, op := Go.Op.load 35 (Go.Operand.tmp 25), type := 35, pos := "l13_proof.go:232", after := #[{ on := 0, ground := Go.Ground.data }], guard := none }) (v := ?vg18) [[11, 1]] rfl (by kernel_rfl) (fun _ _ _ h => h) hHeld (Or.inl ⟨by rfl, ?yg18⟩) ?_
    case yg18 => (intro wS hSw; (try dsimp only at hSw); go_simp <;> with_reducible rfl)
    try simp only [Act.put, List.setIfInBounds_toArray, List.set_cons_zero, List.set_cons_succ]
    refine wpG_pure (i := 2) (oi := { dst := some 27, op := Go.Op.move (Go.Operand.tmp 6), type := 3, pos := "l13_proof.go:232", after := #[], guard := none }) (v := ?vg19) rfl (by kernel_rfl) (fun _ _ _ h => h) (Or.inr hHeld) (Or.inl ⟨by rfl, ?yg19⟩) ?_
    case yg19 => (intro wS _; go_simp <;> with_reducible rfl)
    try simp only [Act.put, List.setIfInBounds_toArray, List.set_cons_zero, List.set_cons_succ]
    refine wpG_pure (i := 3) (oi := { dst := some 28, op := Go.Op.fieldAddr 41 (Go.Operand.tmp 5) 0, type := 0, pos := "l13_proof.go:232", after := #[], guard := none }) (v := ?vg20) rfl (by kernel_rfl) (fun _ _ _ h => h) (Or.inr hHeld) (Or.inl ⟨by rfl, ?yg20⟩) ?_
    case yg20 => (intro wS _; go_simp <;> with_reducible rfl)
    try simp only [Act.put, List.setIfInBounds_toArray, List.set_cons_zero, List.set_cons_succ]
    refine wpG_load (i := 4) (oi := { dst := some 29, op := Go.Op.load 35 (Go.Operand.tmp 28), type := 35, pos := "l13_proof.go:232", after := #[{ on := 3, ground := Go.Ground.data }], guard := none }) (v := ?vg21) [[11, 4]] rfl (by kernel_rfl) (fun _ _ _ h => h) hHeld (Or.inl ⟨by rfl, ?yg21⟩) ?_
    case yg21 => (intro wS hSw; (try dsimp only at hSw); go_simp <;> with_reducible rfl)
    try simp only [Act.put, List.setIfInBounds_toArray, List.set_cons_zero, List.set_cons_succ]
    refine wpG_pure (i := 5) (oi := { dst := some 30, op := Go.Op.move (Go.Operand.tmp 6), type := 3, pos := "l13_proof.go:232", after := #[], guard := none }) (v := ?vg22) rfl (by kernel_rfl) (fun _ _ _ h => h) (Or.inr hHeld) (Or.inl ⟨by rfl, ?yg22⟩) ?_
    case yg22 => (intro wS _; go_simp <;> with_reducible rfl)
    try simp only [Act.put, List.setIfInBounds_toArray, List.set_cons_zero, List.set_cons_succ]
    refine wpG_pure (i := 6) (oi := { dst := some 31, op := Go.Op.indexAddr 35 (Go.Operand.tmp 29) (Go.Operand.tmp 30), type := 0, pos := "l13_proof.go:232", after := #[{ on := 4, ground := Go.Ground.data }, { on := 5, ground := Go.Ground.data }], guard := none }) (v := ?vg23) rfl (by kernel_rfl) (fun _ _ _ h => h) (Or.inr hHeld) (Or.inl ⟨by rfl, ?yg23⟩) ?_
    case yg23 => (intro wS _; go_simp <;> with_reducible rfl)
    try simp only [Act.put, List.setIfInBounds_toArray, List.set_cons_zero, List.set_cons_succ]
    refine wpG_load (i := 7) (oi := { dst := some 32, op := Go.Op.load 3 (Go.Operand.tmp 31), type := 3, pos := "l13_proof.go:232", after := #[{ on := 6, ground := Go.Ground.data }], guard := none }) (v := ?vg24) [[11, 7]] rfl (by kernel_rfl) (fun _ _ _ h => h) hHeld (Or.inl ⟨by rfl, ?yg24⟩) ?_
    case yg24 => (intro wS hSw; (try dsimp only at hSw); go_simp <;> with_reducible rfl)
    try simp only [Act.put, List.setIfInBounds_toArray, List.set_cons_zero, List.set_cons_succ]
    refine wpG_pure (i := 8) (oi := { dst := some 33, op := Go.Op.binOp Go.BinOp.add 3 (Go.Operand.tmp 32) (Go.Operand.const (Go.Value.int Go.IntKind.i64 1)) 3, type := 3, pos := "l13_proof.go:232", after := #[{ on := 7, ground := Go.Ground.data }], guard := none }) (v := ?vg25) rfl (by kernel_rfl) (fun _ _ _ h => h) (Or.inr hHeld) (Or.inl ⟨by rfl, ?yg25⟩) ?_
    case yg25 => (intro wS _; go_simp <;> with_reducible rfl)
    try simp only [Act.put, List.setIfInBounds_toArray, List.set_cons_zero, List.set_cons_succ]
    refine wpG_pure (i := 9) (oi := { dst := some 34, op := Go.Op.binOp Go.BinOp.rem 3 (Go.Operand.tmp 33) (Go.Operand.const (Go.Value.int Go.IntKind.i64 1000003)) 3, type := 3, pos := "l13_proof.go:232", after := #[{ on := 8, ground := Go.Ground.data }], guard := none }) (v := ?vg26) rfl (by kernel_rfl) (fun _ _ _ h => h) (Or.inr hHeld) (Or.inl ⟨by rfl, ?yg26⟩) ?_
    case yg26 => (intro wS _; go_simp <;> with_reducible rfl)
    try simp only [Act.put, List.setIfInBounds_toArray, List.set_cons_zero, List.set_cons_succ]
    refine wpG_pure (i := 10) (oi := { dst := some 35, op := Go.Op.indexAddr 35 (Go.Operand.tmp 26) (Go.Operand.tmp 27), type := 0, pos := "l13_proof.go:232", after := #[{ on := 1, ground := Go.Ground.data }, { on := 2, ground := Go.Ground.data }, { on := 0, ground := Go.Ground.phase }, { on := 1, ground := Go.Ground.phase }, { on := 2, ground := Go.Ground.phase }, { on := 3, ground := Go.Ground.phase }, { on := 4, ground := Go.Ground.phase }, { on := 5, ground := Go.Ground.phase }, { on := 6, ground := Go.Ground.phase }, { on := 7, ground := Go.Ground.phase }, { on := 8, ground := Go.Ground.phase }, { on := 9, ground := Go.Ground.phase }], guard := none }) (v := ?vg27) rfl (by kernel_rfl) (fun _ _ _ h => h) (Or.inr hHeld) (Or.inl ⟨by rfl, ?yg27⟩) ?_
    case yg27 => (intro wS _; go_simp <;> with_reducible rfl)
    try simp only [Act.put, List.setIfInBounds_toArray, List.set_cons_zero, List.set_cons_succ]
    refine wpG_one (i := 11) (o := { dst := none, op := Go.Op.store 3 (Go.Operand.tmp 35) (Go.Operand.tmp 34), type := 0, pos := "l13_proof.go:232", after := #[{ on := 10, ground := Go.Ground.data }, { on := 9, ground := Go.Ground.data }, { on := 0, ground := Go.Ground.phase }, { on := 1, ground := Go.Ground.phase }, { on := 2, ground := Go.Ground.phase }, { on := 3, ground := Go.Ground.phase }, { on := 4, ground := Go.Ground.phase }, { on := 5, ground := Go.Ground.phase }, { on := 6, ground := Go.Ground.phase }, { on := 7, ground := Go.Ground.phase }, { on := 8, ground := Go.Ground.phase }, { on := 9, ground := Go.Ground.phase }], guard := none }) rfl (by kernel_rfl) (fun K hK => ?_)
    go_simp
    refine hK.out _ _ (Or.inl (by kernel_rfl)) (fun _ => ?_)
    clear hK K
    try simp only [Act.put, List.setIfInBounds_toArray, List.set_cons_zero, List.set_cons_succ]
    refine wpG_done (by kernel_rfl) ?_
    skip
    obtain ⟨xs, hxs⟩ : ∃ xs : List Int, xs = p.set r ((IntKind.i64.wrap (x + 1)).tmod 1000003) := ⟨_, rfl⟩
    have HXE : Hid (xs.length = p.length) := Lib.hid (by rw [hxs, List.length_set])
    have HXL : Hid (xs.length ≤ p.length + 1) := Lib.hid (by rw [HXE.out]; omega)
    replace HBS : Hid (Bs w B (KQ + 2 + 2) b5 (.slice (some ⟨g, 0, none⟩) p.length c1) xs (w3.setCell ⟨g, r, none⟩ (.int .i64 ((IntKind.i64.wrap (x + 1)).tmod 1000003))).drew) := by
      have := bs_drew (bs_turn HBS.out hBl r ((IntKind.i64.wrap (x + 1)).tmod 1000003))
      rw [List.length_set, ← hxs] at this
      exact Lib.hid this
    generalize (w3.setCell ⟨g, r, none⟩ (.int .i64 ((IntKind.i64.wrap (x + 1)).tmod 1000003))).drew = w4 at *
    clear hxs d0 e0 cx fx hHeld
    go_wp2_with fail
    refine (cur_one B (KQ + 2 + 2) 12 w4 HBS.out.2.2.2.2.1 (by omega) (by omega)).mono ?_
    rintro e w6 ⟨b6, rfl, hp6, hw6⟩
    replace HBS := Lib.hid (bs_cur HBS.out hBl hw6 hp6); clear hp6 hw6
    cases b6 with
    | false =>
      obtain ⟨d0, e0, d1, e1⟩ := bs_cells HBS.out
      have HOE := Lib.hid HBS.out.2.1; have HWE := Lib.hid HBS.out.2.2.2.1
      have hlb := HBS.out.2.2.2.2.2
      have hbs5 := (Array.getElem?_eq_some_iff.1 HBS.out.1).1
      have hlw : w.heap.size + 1 < w6.heap.size := by omega
      clear HBS
      go_wp2_with fail
      have hk : (w6.setCell ⟨w.heap.size + 1, 0, none⟩ (.slice (some ⟨g, 0, none⟩) p.length c1)).cell? ⟨w.heap.size + 1, 0, none⟩ = some (.slice (some ⟨g, 0, none⟩) p.length c1) := World.cell?_setCell_same _ _ _ d1
      refine bodyPost_ret (v := .agg #[.slice (some ⟨g, 0, none⟩) p.length c1]) (by simp [results, Try.results78, go_sem, hk]) rfl ⟨_, xs, rfl, ?_, HXL.out, ?_⟩
      · exact own_mono (ownsRow_setCell_below HOE.out (a := ⟨w.heap.size + 1, 0, none⟩) (by simp) _) (by omega)
      · exact HWE.out.trans ((wrote_cell _ (w.heap.size + 1) 0 _).mono fun k _ hk => .inr (by omega))
    | true =>
      obtain ⟨d0, e0, -, -⟩ := bs_cells HBS.out
      go_wp2_with fail
      refine wp_region_G [5] (fun w' => w'.cell? ⟨b5, 0, none⟩ = some (.slice (some ⟨g, 0, none⟩) p.length c1)) (by kernel_rfl) ?_ (fun hHeld => ?_)
      · exact d0
      refine wpG_pure (i := 0) (oi := { dst := some 38, op := Go.Op.fieldAddr 41 (Go.Operand.tmp 5) 0, type := 0, pos := "l13_proof.go:235", after := #[], guard := none }) (v := ?vg29) rfl (by kernel_rfl) (fun _ _ _ h => h) (Or.inr hHeld) (Or.inl ⟨by rfl, ?yg29⟩) ?_
      case yg29 => (intro wS _; go_simp <;> with_reducible rfl)
      try simp only [Act.put, List.setIfInBounds_toArray, List.set_cons_zero, List.set_cons_succ]
      refine wpG_load (i := 1) (oi := { dst := some 39, op := Go.Op.load 35 (Go.Operand.tmp 38), type := 35, pos := "l13_proof.go:235", after := #[{ on := 0, ground := Go.Ground.data }], guard := none }) (v := ?vg30) [[5, 1]] rfl (by kernel_rfl) (fun _ _ _ h => h) hHeld (Or.inl ⟨by rfl, ?yg30⟩) ?_
      case yg30 => (intro wS hSw; (try dsimp only at hSw); go_simp <;> with_reducible rfl)
      try simp only [Act.put, List.setIfInBounds_toArray, List.set_cons_zero, List.set_cons_succ]
      refine wpG_pure (i := 2) (oi := { dst := some 40, op := Go.Op.move (Go.Operand.tmp 0), type := 81, pos := "l13_proof.go:235", after := #[], guard := none }) (v := ?vg31) rfl (by kernel_rfl) (fun _ _ _ h => h) (Or.inr hHeld) (Or.inl ⟨by rfl, ?yg31⟩) ?_
      case yg31 => (intro wS _; go_simp <;> with_reducible rfl)
      try simp only [Act.put, List.setIfInBounds_toArray, List.set_cons_zero, List.set_cons_succ]
      refine wpG_one (i := 3) (o := { dst := some 41, op := Go.Op.call { callee := Go.Callee.value (Go.Operand.func 76), args := #[Go.Operand.tmp 40, Go.Operand.const (Go.Value.int Go.IntKind.i64 9)], argTypes := #[81, 3] }, type := 3, pos := "l13_proof.go:235", after := #[{ on := 2, ground := Go.Ground.data }], guard := none }) rfl (by kernel_rfl) (fun K hK => ?_)
      go_simp
      refine (cur_pick B ((KQ + 2 + 2) + 2) 9 _ (pdrew HBS.out.2.2.2.2.1) (by omega) (by omega)).mono ?_
      rintro e w7 ⟨r7, rfl, hr7, hp7, hw7⟩
      replace HBS := Lib.hid (bs_alloc (bs_cur (bs_drew HBS.out) hBl hw7 hp7) (.cells #[.int .i64 (r7 : Int)] 3))
      have d7 := hw7.cell d0 (by have := HBS.out.2.2.2.2.2; omega)
      clear hp7 hw7
      refine hK.out _ _ (Or.inr ?khHeld32) (fun hHeld32S => ?_)
      case khHeld32 => exact d7
      have hHeld32 := hHeld32S.held (by kernel_rfl)
      clear hK K
      try simp only [Act.put, List.setIfInBounds_toArray, List.set_cons_zero, List.set_cons_succ]
      refine wpG_one (i := 4) (o := { dst := some 42, op := Go.Op.buildSlice 35 1 #[(0, Go.Operand.tmp 41)], type := 35, pos := "l13_proof.go:235", after := #[{ on := 3, ground := Go.Ground.data }], guard := none }) rfl (by kernel_rfl) (fun K hK => ?_)
      go_simp
      refine hK.out _ _ (Or.inr ?khHeld33) (fun hHeld33S => ?_)
      case khHeld33 => exact (bs_cells HBS.out).1
      have hHeld33 := hHeld33S.held (by kernel_rfl)
      clear hK K
      try simp only [Act.put, List.setIfInBounds_toArray, List.set_cons_zero, List.set_cons_succ]
      refine wpG_one (i := 5) (o := { dst := some 43, op := Go.Op.call { callee := Go.Callee.builtin Go.Builtin.append, args := #[Go.Operand.tmp 39, Go.Operand.tmp 42], argTypes := #[35, 35] }, type := 35, pos := "l13_proof.go:235", after := #[{ on := 1, ground := Go.Ground.data }, { on := 4, ground := Go.Ground.data }, { on := 3, ground := Go.Ground.chain }], guard := none }) rfl (by kernel_rfl) (fun K hK => ?_)
      refine step_append_lies _ rfl (.tmp 39) (.tmp 42) 35 rfl (w.heap.size + 2) 3 i0 (.int .i64 0) 1 8 Try.underlying35 hi hz0 hz1 hz2 rfl (by decide) _ p.length (ints xs) rfl (by have := HBS.out.2.1; rw [HXE.out] at this; exact this) ⟨w7.heap.size, 0, none⟩ 1 1 [.int .i64 (r7 : Int)] rfl rfl (news_one _ _ _) (by simp [Value.oneCell']) (by omega) (by unfold maxLen; omega) (by omega) (by have := HBS.out.2.2.2.2.2; have := (Array.getElem?_eq_some_iff.1 HBS.out.1).1; omega) (w7.heap.size + 1) (by simp) ?_
      intro g8 c8 w8 hown hgrow _ _
      obtain ⟨d8, e8⟩ := bs_mid HBS.out hgrow
      have HG8 : Hid (Bs w B ((KQ + 2 + 2) + 2 + 2) b5 (.slice (some ⟨g8, 0, none⟩) (p.length + 1) c8) (xs ++ [(r7 : Int)]) (w8.setCell ⟨b5, 0, none⟩ (.slice (some ⟨g8, 0, none⟩) (p.length + 1) c8))) := Lib.hid (bs_grow HBS.out hBl (ys := xs ++ [(r7 : Int)]) (by rw [ints_app, List.length_append, HXE.out]; exact hown) hgrow)
      clear hown hgrow HBS
      refine hK.out _ _ (Or.inl (by kernel_rfl)) (fun _ => ?_)
      clear hK K
      try simp only [Act.put, List.setIfInBounds_toArray, List.set_cons_zero, List.set_cons_succ]
      refine wpG_pure (i := 6) (oi := { dst := some 44, op := Go.Op.fieldAddr 41 (Go.Operand.tmp 5) 0, type := 0, pos := "l13_proof.go:235", after := #[{ on := 0, ground := Go.Ground.phase }, { on := 1, ground := Go.Ground.phase }, { on := 2, ground := Go.Ground.phase }, { on := 3, ground := Go.Ground.phase }, { on := 4, ground := Go.Ground.phase }, { on := 5, ground := Go.Ground.phase }], guard := none }) (v := ?vg35) rfl (by kernel_rfl) (fun _ _ _ h => h) (Or.inl (by kernel_rfl)) (Or.inl ⟨by rfl, ?yg35⟩) ?_
      case yg35 => (intro wS _; go_simp <;> with_reducible rfl)
      try simp only [Act.put, List.setIfInBounds_toArray, List.set_cons_zero, List.set_cons_succ]
      refine wpG_one (i := 7) (o := { dst := none, op := Go.Op.store 35 (Go.Operand.tmp 44) (Go.Operand.tmp 43), type := 0, pos := "l13_proof.go:235", after := #[{ on := 6, ground := Go.Ground.data }, { on := 5, ground := Go.Ground.data }, { on := 5, ground := Go.Ground.chain }, { on := 0, ground := Go.Ground.phase }, { on := 1, ground := Go.Ground.phase }, { on := 2, ground := Go.Ground.phase }, { on := 3, ground := Go.Ground.phase }, { on := 4, ground := Go.Ground.phase }, { on := 5, ground := Go.Ground.phase }], guard := none }) rfl (by kernel_rfl) (fun K hK => ?_)
      go_simp
      refine hK.out _ _ (Or.inl (by kernel_rfl)) (fun _ => ?_)
      clear hK K
      try simp only [Act.put, List.setIfInBounds_toArray, List.set_cons_zero, List.set_cons_succ]
      refine wpG_done (by kernel_rfl) ?_
      have HBS := HG8
      clear HG8
      have HXL3 : Hid ((xs ++ [(r7 : Int)]).length ≤ p.length + 1) := Lib.hid (by have := HXE.out; rw [List.length_append]; simp; omega)
      generalize w8.setCell ⟨b5, 0, none⟩ (.slice (some ⟨g8, 0, none⟩) (p.length + 1) c8) = w9 at *
      obtain ⟨d0, e0, d1, e1⟩ := bs_cells HBS.out
      have HOE := Lib.hid HBS.out.2.1; have HWE := Lib.hid HBS.out.2.2.2.1
      have hlb := HBS.out.2.2.2.2.2
      have hbs5 := (Array.getElem?_eq_some_iff.1 HBS.out.1).1
      have hlw : w.heap.size + 1 < w9.heap.size := by omega
      clear HBS
      go_wp2_with fail
      have hk : (w9.setCell ⟨w.heap.size + 1, 0, none⟩ (.slice (some ⟨g8, 0, none⟩) (p.length + 1) c8)).cell? ⟨w.heap.size + 1, 0, none⟩ = some (.slice (some ⟨g8, 0, none⟩) (p.length + 1) c8) := World.cell?_setCell_same _ _ _ d1
      refine bodyPost_ret (v := .agg #[.slice (some ⟨g8, 0, none⟩) (p.length + 1) c8]) (by simp [results, Try.results78, go_sem, hk]) rfl ⟨_, (xs ++ [(r7 : Int)]), rfl, ?_, HXL3.out, ?_⟩
      · exact own_mono (ownsRow_setCell_below HOE.out (a := ⟨w.heap.size + 1, 0, none⟩) (by simp) _) (by omega)
      · exact HWE.out.trans ((wrote_cell _ (w.heap.size + 1) 0 _).mono fun k _ hk => .inr (by omega))
end Go.Proofs.Ytdhkagabkhepgaa
