/- The program's order of parts: slices.SortFunc with its closure. -/
import Derived.Test.YtmlnecopbncdbaaTyL
import Derived.Test.YtmlnecopbncdbaaSu1
import Derived.Test.YtmlnecopbncdbaaShelf
import Derived.Shelf.SlSortCmp.NoneTotal
namespace Go.Proofs.Ytmlnecopbncdbaa
set_option linter.unusedVariables false
set_option linter.unusedSimpArgs false
open Go.ChangeShapes Go.WideShapes Go.ChangeAt Go.RowKit
open Go.Sort hiding Below
set_option maxRecDepth 100000

theorem is_nan (x : Int) (w : World) : Calls Try.prog 96 #[.int .i64 x] w fun e w' => e = .returned (.bool false) ∧ w = w' := by
  go_enter Try.func96, Try.ntmps96
  go_wp2_with fail
  go_ret
  exact ⟨rfl, rfl⟩
def cmpI (a b : Int) : Int := if a < b then -1 else if b < a then 1 else 0
set_option maxHeartbeats 1000000 in
theorem cmp_int (a b : Int) (w : World) : Calls Try.prog 88 #[.int .i64 a, .int .i64 b] w fun e w' => e = .returned (.int .i64 (cmpI a b)) ∧ w = w' := by
  have HA := Lib.hid (is_nan a w)
  have HB := Lib.hid (is_nan b w)
  unfold cmpI
  by_cases h1 : a < b
  · rw [if_pos h1]
    go_enter Try.func88, Try.ntmps88
    go_wp2_with fail
    refine HA.out.mono ?_
    rintro e w' ⟨rfl, rfl⟩
    go_wp2_with fail
    refine HB.out.mono ?_
    rintro e w' ⟨rfl, rfl⟩
    go_wp2_with fail
    go_ret
    exact ⟨rfl, rfl⟩
  · rw [if_neg h1]
    by_cases h2 : b < a
    · rw [if_pos h2]
      have h3 : a > b := h2
      go_enter Try.func88, Try.ntmps88
      go_wp2_with fail
      refine HA.out.mono ?_
      rintro e w' ⟨rfl, rfl⟩
      go_wp2_with fail
      refine HB.out.mono ?_
      rintro e w' ⟨rfl, rfl⟩
      go_wp2_with fail
      go_ret
      exact ⟨rfl, rfl⟩
    · rw [if_neg h2]
      have h3 : ¬ a > b := h2
      go_enter Try.func88, Try.ntmps88
      go_wp2_with fail
      refine HA.out.mono ?_
      rintro e w' ⟨rfl, rfl⟩
      go_wp2_with fail
      refine HB.out.mono ?_
      rintro e w' ⟨rfl, rfl⟩
      go_wp2_with fail
      go_ret
      exact ⟨rfl, rfl⟩
set_option maxHeartbeats 1000000 in
theorem clo_byNo {S : Nat → Prop} {w : World} {x y : Tr} {px py : Value} (hx : KP S w x px) (hy : KP S w y py) :
    Calls Try.prog 87 #[px, py] w fun e w' => e = .returned (.int .i64 (cmpI x.no y.no)) ∧ ∃ q, w' = w.drewN q := by
  obtain ⟨bx, va, c, vs, rfl, -, -, hc, -⟩ := hx.open
  obtain ⟨bY, va', c', vs', rfl, -, -, hc', -⟩ := hy.open
  obtain ⟨x0, x1, x2, x3, x4, x5⟩ := box6 hc
  obtain ⟨y0, y1, y2, y3, y4, y5⟩ := box6 hc'
  have HC := Lib.hid (fun wx => cmp_int x.no y.no wx)
  clear hc hc' hx hy
  generalize cmpI x.no y.no = R at *
  go_enter Try.func87, Try.ntmps87
  go_wp2_with fail
  refine wp_region_G [8] (fun w' => w'.cell? ⟨bx, 2, none⟩ = some (.int .i64 x.no) ∧ w'.cell? ⟨bY, 2, none⟩ = some (.int .i64 y.no)) (by kernel_rfl) ?_ (fun hHeld => ?_)
  · exact ⟨x2, y2⟩
  refine wpG_pure (i := 0) (oi := { dst := some 5, op := Go.Op.move (Go.Operand.tmp 0), type := 65, pos := "l2_type.go:214", after := #[], guard := none }) (v := ?vg1) rfl (by kernel_rfl) (fun _ _ _ h => h) (Or.inr hHeld) (Or.inl ⟨by rfl, ?yg1⟩) ?_
  case yg1 => (intro wS _; go_simp <;> with_reducible rfl)
  try simp only [Act.put, List.setIfInBounds_toArray, List.set_cons_zero, List.set_cons_succ]
  refine wpG_pure (i := 1) (oi := { dst := some 6, op := Go.Op.nilCheck (Go.Operand.tmp 5), type := 0, pos := "l2_type.go:214", after := #[{ on := 0, ground := Go.Ground.data }], guard := none }) (v := ?vg2) rfl (by kernel_rfl) (fun _ _ _ h => h) (Or.inr hHeld) (Or.inl ⟨by rfl, ?yg2⟩) ?_
  case yg2 => (intro wS _; go_simp <;> with_reducible rfl)
  try simp only [Act.put, List.setIfInBounds_toArray, List.set_cons_zero, List.set_cons_succ]
  refine wpG_pure (i := 2) (oi := { dst := some 7, op := Go.Op.fieldAddr 103 (Go.Operand.tmp 6) 2, type := 0, pos := "l2_type.go:214", after := #[{ on := 1, ground := Go.Ground.data }], guard := none }) (v := ?vg3) rfl (by kernel_rfl) (fun _ _ _ h => h) (Or.inr hHeld) (Or.inl ⟨by rfl, ?yg3⟩) ?_
  case yg3 => (intro wS _; go_simp <;> with_reducible rfl)
  try simp only [Act.put, List.setIfInBounds_toArray, List.set_cons_zero, List.set_cons_succ]
  refine wpG_load (i := 3) (oi := { dst := some 8, op := Go.Op.load 3 (Go.Operand.tmp 7), type := 3, pos := "l2_type.go:214", after := #[{ on := 2, ground := Go.Ground.data }], guard := none }) (v := ?vg4) [[8, 3]] rfl (by kernel_rfl) (fun _ _ _ h => h) hHeld (Or.inl ⟨by rfl, ?yg4⟩) ?_
  case yg4 => (intro wS hSw; (try dsimp only at hSw); go_simp <;> with_reducible rfl)
  try simp only [Act.put, List.setIfInBounds_toArray, List.set_cons_zero, List.set_cons_succ]
  refine wpG_pure (i := 4) (oi := { dst := some 9, op := Go.Op.move (Go.Operand.tmp 1), type := 65, pos := "l2_type.go:214", after := #[], guard := none }) (v := ?vg5) rfl (by kernel_rfl) (fun _ _ _ h => h) (Or.inr hHeld) (Or.inl ⟨by rfl, ?yg5⟩) ?_
  case yg5 => (intro wS _; go_simp <;> with_reducible rfl)
  try simp only [Act.put, List.setIfInBounds_toArray, List.set_cons_zero, List.set_cons_succ]
  refine wpG_pure (i := 5) (oi := { dst := some 10, op := Go.Op.nilCheck (Go.Operand.tmp 9), type := 0, pos := "l2_type.go:214", after := #[{ on := 4, ground := Go.Ground.data }], guard := none }) (v := ?vg6) rfl (by kernel_rfl) (fun _ _ _ h => h) (Or.inr hHeld) (Or.inl ⟨by rfl, ?yg6⟩) ?_
  case yg6 => (intro wS _; go_simp <;> with_reducible rfl)
  try simp only [Act.put, List.setIfInBounds_toArray, List.set_cons_zero, List.set_cons_succ]
  refine wpG_pure (i := 6) (oi := { dst := some 11, op := Go.Op.fieldAddr 103 (Go.Operand.tmp 10) 2, type := 0, pos := "l2_type.go:214", after := #[{ on := 5, ground := Go.Ground.data }], guard := none }) (v := ?vg7) rfl (by kernel_rfl) (fun _ _ _ h => h) (Or.inr hHeld) (Or.inl ⟨by rfl, ?yg7⟩) ?_
  case yg7 => (intro wS _; go_simp <;> with_reducible rfl)
  try simp only [Act.put, List.setIfInBounds_toArray, List.set_cons_zero, List.set_cons_succ]
  refine wpG_load (i := 7) (oi := { dst := some 12, op := Go.Op.load 3 (Go.Operand.tmp 11), type := 3, pos := "l2_type.go:214", after := #[{ on := 6, ground := Go.Ground.data }], guard := none }) (v := ?vg8) [[8, 7]] rfl (by kernel_rfl) (fun _ _ _ h => h) hHeld (Or.inl ⟨by rfl, ?yg8⟩) ?_
  case yg8 => (intro wS hSw; (try dsimp only at hSw); go_simp <;> with_reducible rfl)
  try simp only [Act.put, List.setIfInBounds_toArray, List.set_cons_zero, List.set_cons_succ]
  refine wpG_one (i := 8) (o := { dst := some 13, op := Go.Op.call { callee := Go.Callee.value (Go.Operand.func 88), args := #[Go.Operand.tmp 8, Go.Operand.tmp 12], argTypes := #[3, 3] }, type := 3, pos := "l2_type.go:214", after := #[{ on := 3, ground := Go.Ground.data }, { on := 7, ground := Go.Ground.data }], guard := none }) rfl (by kernel_rfl) (fun K hK => ?_)
  go_simp
  refine (HC.out _).mono ?_
  rintro e w' ⟨rfl, rfl⟩
  refine hK.out _ _ (Or.inl (by kernel_rfl)) (fun _ => ?_)
  clear hK K
  try simp only [Act.put, List.setIfInBounds_toArray, List.set_cons_zero, List.set_cons_succ]
  refine wpG_pure (i := 9) (oi := { dst := some 4, op := Go.Op.assign (Go.Operand.tmp 13), type := 3, pos := "l2_type.go:214", after := #[{ on := 8, ground := Go.Ground.data }, { on := 8, ground := Go.Ground.chain }, { on := 0, ground := Go.Ground.phase }, { on := 1, ground := Go.Ground.phase }, { on := 2, ground := Go.Ground.phase }, { on := 3, ground := Go.Ground.phase }, { on := 4, ground := Go.Ground.phase }, { on := 5, ground := Go.Ground.phase }, { on := 6, ground := Go.Ground.phase }, { on := 7, ground := Go.Ground.phase }, { on := 8, ground := Go.Ground.phase }], guard := none }) (v := ?vg10) rfl (by kernel_rfl) (fun _ _ _ h => h) (Or.inl (by kernel_rfl)) (Or.inl ⟨by rfl, ?yg10⟩) ?_
  case yg10 => (intro wS _; go_simp <;> with_reducible rfl)
  try simp only [Act.put, List.setIfInBounds_toArray, List.set_cons_zero, List.set_cons_succ]
  refine wpG_done (by kernel_rfl) ?_
  go_wp2_with fail
  go_ret
  exact ⟨rfl, 1, rfl⟩
/-! ### parts with their places -/
abbrev PP (S : Nat → Prop) (w : World) : Type := { q : Tr × Nat // KP S w q.1 (.pointer (some ⟨q.2, 0, none⟩)) }
def PP.tr {S : Nat → Prop} {w : World} (x : PP S w) : Tr := x.1.1
def PP.enc {S : Nat → Prop} {w : World} (x : PP S w) : Value := .pointer (some ⟨x.1.2, 0, none⟩)
def PP.cf {S : Nat → Prop} {w : World} (x y : PP S w) : Int := cmpI x.tr.no y.tr.no
theorem pp_list {S : Nat → Prop} {w : World} : ∀ {ts : List Tr} {vs : List Value}, KPs S w ts vs → ∃ l : List (PP S w), l.map PP.tr = ts ∧ l.map PP.enc = vs
  | [], vs, h => by rw [KPs] at h; exact ⟨[], rfl, h.symm⟩
  | t :: r, vs, h => by
    rw [KPs] at h
    obtain ⟨v, us, rfl, h1, h2⟩ := h
    obtain ⟨l, e1, e2⟩ := pp_list h2
    obtain ⟨b, rfl, -, -⟩ := h1.ptr
    exact ⟨⟨(t, b), h1⟩ :: l, by rw [List.map_cons, e1]; rfl, by rw [List.map_cons, e2]; rfl⟩
theorem pp_kps {S T : Nat → Prop} {w w' : World} (hk : Kept S w w') (hT : ∀ b, S b → b < w.heap.size → T b) : ∀ (l : List (PP S w)), KPs T w' (l.map PP.tr) (l.map PP.enc)
  | [] => by rw [List.map_nil, List.map_nil, KPs]
  | x :: r => by
    rw [List.map_cons, List.map_cons, KPs]
    exact ⟨_, _, rfl, KP.keep hk hT _ _ x.2, pp_kps hk hT r⟩
theorem pp_lt {S : Nat → Prop} {w : World} (x y : PP S w) : ltOf PP.cf x y = decide (x.tr.no < y.tr.no) := by
  unfold ltOf PP.cf cmpI
  by_cases h1 : x.tr.no < y.tr.no
  · simp [h1]
  · by_cases h2 : y.tr.no < x.tr.no <;> simp [h1, h2]
theorem pp_swo {S : Nat → Prop} {w : World} [Inhabited (PP S w)] : SWO (ltOf (PP.cf (S := S) (w := w))) where
  irrefl x := by rw [pp_lt]; simp
  trans x y z h1 h2 := by rw [pp_lt, decide_eq_true_iff] at *; omega
  ntrans x y z h1 h2 := by rw [pp_lt, decide_eq_false_iff_not] at *; omega
theorem eg_byNo : ∀ args w, (callFunc 87 args).run Try.prog w = .ok (.enter 87 args) w := enters_of Try.func87 (by kernel_rfl) rfl
theorem put_holds {α : Type} [Inhabited α] {enc : α → Value} {w : World} {g n : Nat} {cur : Array Value} {e : TypeId} {l : List α} (hb : w.heap[g]? = some (.cells cur e (0, 0))) (ht : cur.toList.take n = l.map enc) (hn : l.length = n) : Holds enc w g 0 l.toArray := by
  intro j hj
  have hj' : j < l.length := by simpa using hj
  refine ⟨?_, by simp [World.frozen?, hb]⟩
  have h1 : (cur.toList.take n)[j]? = (l.map enc)[j]? := by rw [ht]
  rw [List.getElem?_take_of_lt (by omega)] at h1
  simp only [World.cell?, hb, Nat.zero_add]
  simp only [Option.isSome_none, Bool.false_eq_true, if_false]
  rw [← Array.getElem?_toList, h1]
  simp [hj']
theorem put_heap {α : Type} [Inhabited α] {enc : α → Value} {w : World} {g n : Nat} {os : Array Obj} {cur : Array Value} {e : TypeId} {fr : Nat × Nat} (d : Array α) (hb : w.heap[g]? = some (.cells cur e fr)) :
    (sortWorld enc w g 0 n d os).heap[g]? = some (.cells (putCells enc 0 d cur) e fr) := by
  have hg : g < w.heap.size := (Array.getElem?_eq_some_iff.1 hb).1
  unfold sortWorld
  rw [heap_grow_old _ _ (by simpa using hg)]
  simp [putRow, mapBlock, Sort.ahead, Array.getElem?_modify, hb, onCells]
theorem put_grown {α : Type} [Inhabited α] {enc : α → Value} {w : World} {g n : Nat} {os : Array Obj} (d : Array α) : w.grownBy (sortWorld enc w g 0 n d os) (some g) := by
  unfold sortWorld
  refine ⟨rfl, rfl, rfl, by simp, fun k hk hne => ?_⟩
  rw [heap_grow_old _ _ (by simpa using hk)]
  have : g ≠ k := fun e => hne (by rw [e])
  simp [putRow, mapBlock, Sort.ahead, Array.getElem?_modify, this]
theorem put_take {α : Type} [Inhabited α] {enc : α → Value} (cur : Array Value) (l : List α) (h : l.length ≤ cur.size) : (putCells enc 0 l.toArray cur).toList.take l.length = l.map enc := by
  apply List.ext_getElem?
  intro j
  by_cases hj : j < l.length
  · rw [List.getElem?_take_of_lt hj, Array.getElem?_toList]
    simp [putCells, hj, show j < cur.size by omega]
  · rw [List.getElem?_take_eq_none (by omega), List.getElem?_eq_none (by simp; omega)]
/-- what the program's order hands back -/
def SortO (S : Nat → Prop) (base : Nat) (ts : List Tr) (v : Value) (w : World) (e : Ending) (w' : World) : Prop :=
  e = .returned (.tuple #[]) ∧ ∃ us vs, us.Perm ts ∧ us.Pairwise (fun a b => a.no ≤ b.no) ∧ w'.ownsRow base 65 1 v ts.length vs ∧ KPs S w' us vs ∧ w.grownBy w' v.ownBlock
theorem sort_parts {S : Nat → Prop} {w : World} {base : Nat} {ts : List Tr} {v : Value} {vs : List Value} (ho : w.ownsRow base 65 1 v ts.length vs) (hk : KPs S w ts vs) (hS : ∀ q, S q → v.ownBlock ≠ some q) (hl : ts.length ≤ 1048576) :
    Calls Try.prog 86 #[v, .func (.func 87) #[] #[]] w (SortO S base ts v w) := by
  by_cases h0 : ts = []
  · subst h0
    obtain ⟨a, c, rfl⟩ := form_of_own ho
    refine (AnyF.slices_SortFunc_none { Try.laysSlF6 with } a c (.func (.func 87) #[] #[]) w).mono ?_
    rintro e w' ⟨rfl, rfl⟩
    exact ⟨rfl, [], vs, List.Perm.refl _, List.Pairwise.nil, ho, hk, ⟨rfl, rfl, rfl, Nat.le_refl _, fun _ _ _ => rfl⟩⟩
  rcases ho.2 with ⟨-, hz⟩ | ⟨g, cap, cur, rfl, hb, hg, hnc, hcm, hcs, htk⟩
  · exact absurd (List.length_eq_zero_iff.1 hz) h0
  · obtain ⟨l, e1, e2⟩ := pp_list hk
    have hll : l.length = ts.length := by rw [← e1, List.length_map]
    obtain ⟨x0, -⟩ : ∃ x, x ∈ l := List.exists_mem_of_length_pos (by rw [hll]; exact List.length_pos_iff.2 h0)
    letI : Inhabited (PP S w) := ⟨x0⟩
    rw [Nat.mul_one] at htk hcs
    have hH : Holds PP.enc w g 0 l.toArray := put_holds hg (by rw [htk, e2]) hll
    have hsz : l.toArray.size = ts.length := by simpa using hll
    have hgr : ∀ (n : Nat) (os : Array Obj) (d : Array (PP S w)), Kept S w (sortWorld PP.enc w g 0 n d os) := fun n os d =>
      ⟨(put_grown d).size, fun b hb hlt => (put_grown d).block b hlt (fun e => hS b hb e.symm)⟩
    have hcmp : CmpLays1 Try.prog 87 #[] PP.enc PP.cf g 0 l.toArray.size w := fun m os dk _ x y =>
      (clo_byNo (KP.keep (hgr m os dk) (fun _ h _ => h) _ _ x.2) (KP.keep (hgr m os dk) (fun _ h _ => h) _ _ y.2)).mono fun e w' ⟨he, q, hq⟩ => ⟨he, q, #[], by rw [hq, grow_empty]⟩
    have hcon := Any.slices_SortFunc Try.laysSlF6 PP.enc (fun x => rfl) PP.cf pp_swo 87 #[] g 0 cap l.toArray w eg_byNo hcmp hH (hp_lt hg) (by rw [hsz]; omega)
    rw [hsz] at hcon
    refine Calls.mono hcon ?_
    rintro e w' ⟨rfl, d', n, os, hp, hs, rfl⟩
    obtain ⟨l', rfl⟩ : ∃ l' : List (PP S w), d' = l'.toArray := ⟨d'.toList, by simp⟩
    obtain ⟨p1, -, p3⟩ := hp
    have hl' : l'.length = ts.length := by rw [← hll]; simpa using p1
    have hperm : l'.Perm l := by
      rw [← hsz, Array.extract_size] at p3
      rw [show l.toArray.size = l'.toArray.size from p1.symm, Array.extract_size] at p3
      exact p3
    refine ⟨rfl, l'.map PP.tr, l'.map PP.enc, by rw [← e1]; exact hperm.map _, ?_, ?_, pp_kps (hgr _ _ _) (fun _ h _ => h) l', put_grown _⟩
    · rw [List.pairwise_map, List.pairwise_iff_getElem]
      intro i j hi hj hij
      have h1 := hs i j (Nat.zero_le _) hij (by omega)
      rw [pp_lt, decide_eq_false_iff_not] at h1
      rw [getElem!_pos _ j (by simpa using hj), getElem!_pos _ i (by simpa using hi)] at h1
      simp only [List.getElem_toArray] at h1
      omega
    · exact ⟨by simp [hl'], .inr ⟨g, cap, _, rfl, hb, put_heap _ hg, hnc, hcm, by simp [putCells, hcs], by rw [Nat.mul_one, ← hl']; exact put_take cur l' (by omega)⟩⟩
end Go.Proofs.Ytmlnecopbncdbaa
