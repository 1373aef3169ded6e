/- Whether the parts of a type fit: the program's walk. -/
import Derived.Test.YtmlnecopbncdbaaTyB
import Derived.Maps.OwnOps
import Derived.Maps.OwnSet
namespace Go.Proofs.Ytmlnecopbncdbaa
set_option linter.unusedVariables false
set_option linter.unusedSimpArgs false
open Go.ChangeShapes Go.WideShapes Go.ChangeAt Go.RowKit
open Go.Maps (Keyed)
open Go.WideMaps (keyOf_string_mk)
set_option maxRecDepth 100000

abbrev keyS (s : ByteArray) : Lit := .string s.data.toList
theorem keyS_inj {s t : ByteArray} (h : keyS s = keyS t) : s = t := by
  have h1 : s.data.toList = t.data.toList := Lit.string.inj h
  have h2 : s.data = t.data := Array.toList_inj.1 h1
  cases s; cases t; simp only at h2; rw [h2]
theorem key_str : Keyed Try.prog 9 := Go.Maps.string_keyed Try.underlying9
def inT (l : List ByteArray) (s : ByteArray) : Bool := l.any fun x => decide (x = s)
/-- the map says of just the texts of the list that they are there -/
def SetB (w : World) (b : Nat) (l : List ByteArray) : Prop :=
  ∃ D : DataW Unit, w.ownsMap Try.prog 9 (plainElem Try.prog 4) b l.length D ∧ ∀ s : ByteArray, D.atKey (keyS s) (.lit (.bool false)) = .lit (.bool (inT l s))
theorem SetB.kept {w w' : World} {b : Nat} {l : List ByteArray} {row : Option Nat} (h : SetB w b l) (hg : w.grownBy w' row) (hne : some b ≠ row) : SetB w' b l := by
  obtain ⟨D, h1, h2⟩ := h
  exact ⟨D, h1.kept hg hne, h2⟩
theorem SetB.lt {w : World} {b : Nat} {l : List ByteArray} (h : SetB w b l) : b < w.heap.size := by
  obtain ⟨D, h1, _⟩ := h
  exact h1.lt
theorem SetB.drew {w : World} {b : Nat} {l : List ByteArray} (h : SetB w b l) : SetB w.drew b l := h.kept (row := none) ⟨rfl, rfl, rfl, Nat.le_refl _, fun _ _ _ => rfl⟩ (by simp)
theorem SetB.made (w : World) : SetB (w.alloc (.map #[] 0)) w.heap.size [] :=
  ⟨.map [], World.ownsMap_made w _ _ _, fun s => rfl⟩
theorem zero_boolT (w : World) : (zeroValue 4).run Try.prog w = .ok (.bool false) w := by kernel_rfl
theorem plainElem_bool_inv {P : Program} {e : TypeId} (he : P.underlying e = some .bool) {v : Value} {z : DataW Unit × List MemPlace} (h : plainElem P e v = some z) : ∃ x, v = .bool x ∧ z = (.lit (.bool x), []) := by
  unfold plainElem at h
  rw [he] at h
  split at h
  · cases h; exact ⟨_, rfl, rfl⟩
  · rename_i e1; cases e1
  · rename_i e1; cases e1
  · cases h
/-- a look-up -/
theorem SetB.look {w : World} {b : Nat} {l : List ByteArray} (h : SetB w b l) (s : ByteArray) (hz : s.size ≤ maxLen) : (Instr.lookup 120 (.map (some b)) (.string s) false).run Try.prog w = .ok (.bool (inT l s)) w := by
  obtain ⟨D, h1, h2⟩ := h
  obtain ⟨v, ps, hrun, hv⟩ := h1.lookup key_str Try.underlying120 (zero_boolT w) (plainElem_bool Try.underlying4 false) (keyOf_string_mk Try.underlying9 hz)
  obtain ⟨x, rfl, hx⟩ := plainElem_bool_inv Try.underlying4 hv
  rw [hrun]
  have h3 := h2 s
  simp only [Prod.mk.injEq] at hx
  have h4 := hx.1
  rw [h3] at h4
  injection h4 with e; injection e with e
  rw [e]
theorem wpList_setb_put {w : World} {ops : Array Oper} {rest : List Oper} {o : Oper} {a : Act} {Q : Exit → Act → World → Prop} (hg : o.guard = none) (m x v : Operand) (hop : o.op = Op.mapUpdate 120 m x v)
    (b : Nat) (l : List ByteArray) (hm : a.eval m = .map (some b)) (h : SetB w b l) (s : ByteArray) (hz : s.size ≤ maxLen) (hl : l.length < 1048577) (hx : a.eval x = .string s) (hv : a.eval v = .bool true)
    (hK : ∀ w', SetB w' b (l ++ [s]) → w.grownBy w' (some b) → wpList Try.prog ops Q rest (a.put o.dst undef) w') : wpList Try.prog ops Q (o :: rest) a w := by
  obtain ⟨D, h1, h3⟩ := h
  refine wpList_mapUpdate_own w hg m x v 120 hop 9 4 key_str Try.underlying120 _ b l.length D hm h1 (by unfold maxLen; omega) _ _ (keyS s) hx hv (keyOf_string_mk Try.underlying9 hz) (.lit (.bool true)) [] (plainElem_bool Try.underlying4 true) ?_
  intro w' h4 h5
  refine hK w' ⟨_, by rw [List.length_append]; exact h4, fun t => ?_⟩ h5
  by_cases ht : t = s
  · subst ht
    rw [Maps.atKey_put_same h1.isMap (by trivial)]
    simp [inT]
  · have hk : keyS t ≠ keyS s := fun e => ht (keyS_inj e)
    rw [Maps.atKey_put_other hk, h3 t]
    have : decide (s = t) = false := decide_eq_false (fun e => ht e.symm)
    simp [inT, this]
theorem KP.open {S : Nat → Prop} {w : World} {t : Tr} {p : Value} (h : KP S w t p) : ∃ b a c vs, p = .pointer (some ⟨b, 0, none⟩) ∧ S b ∧ b < w.heap.size ∧ w.heap[b]? = some (.cells #[.int .i64 t.kind, .string t.name, .int .i64 t.no, .bool t.must, .int .i64 t.most, .slice a t.kids.length c] 103) ∧ t.name.size ≤ maxLen ∧ t.kids.length ≤ c ∧ c ≤ 9223372036854775807 ∧ RS S w a vs ∧ KPs S w t.kids vs := by
  match t, h with
  | .node k nm no m mo ks, h =>
    rw [KP] at h
    obtain ⟨b, a, c, vs, h1, h2, h3, h4, h5, h6, h7, h8⟩ := h
    exact ⟨b, a, c, vs, h1, h2, hp_lt h3, h3, h4, h5, h6, h7, h8⟩
theorem kind_eq {a b : Int} (h : ¬ a = b) : (a == b) = false := beq_eq_false_iff_ne.2 h
theorem nil_eq {n : Nat} : ((n : Int) == 0) = decide (n = 0) := by
  by_cases h : n = 0
  · subst h; rfl
  · rw [decide_eq_false h, beq_eq_false_iff_ne]; omega
theorem hds_len (l : List Tr) : (hds l).length = l.length := by rw [hds_map, List.length_map]
theorem hds_at {l : List Tr} {i : Nat} {t : Tr} (h : l[i]? = some t) : (hds l)[i]? = some t.hd := by rw [hds_map, List.getElem?_map, h]; rfl
/-- what is asked of two parts of a message -/
def Par2 (a b : Hd) : Prop := a.no < b.no ∧ ¬ a.name = b.name
theorem par_dup {L : List Hd} {i : Nat} {h : Hd} (hi : L[i]? = some h) (hm : h.name ∈ (L.take i).map Hd.name) : ¬ L.Pairwise Par2 := by
  intro hp
  obtain ⟨g, hg, he⟩ := List.mem_map.1 hm
  obtain ⟨j, hj⟩ := List.mem_iff_getElem?.1 hg
  have hjl := (List.getElem?_eq_some_iff.1 hj).1
  rw [List.length_take] at hjl
  rw [List.getElem?_take_of_lt (by omega)] at hj
  obtain ⟨h1, e1⟩ := List.getElem?_eq_some_iff.1 hj
  obtain ⟨h2, e2⟩ := List.getElem?_eq_some_iff.1 hi
  have := List.pairwise_iff_getElem.1 hp j i h1 h2 (by omega)
  rw [e1, e2] at this
  exact this.2 he
theorem par_down {L : List Hd} {i : Nat} {g h : Hd} (hg : L[i]? = some g) (hi : L[i + 1]? = some h) (hn : h.no ≤ g.no) : ¬ L.Pairwise Par2 := by
  intro hp
  obtain ⟨h1, e1⟩ := List.getElem?_eq_some_iff.1 hg
  obtain ⟨h2, e2⟩ := List.getElem?_eq_some_iff.1 hi
  have := List.pairwise_iff_getElem.1 hp i (i + 1) h1 h2 (by omega)
  rw [e1, e2] at this
  have := this.1
  omega
theorem par_snoc {L : List Hd} {i : Nat} {h : Hd} (hp : (L.take i).Pairwise Par2) (hi : L[i]? = some h) (hm : ¬ h.name ∈ (L.take i).map Hd.name) (hn : ∀ g, 0 < i → L[i - 1]? = some g → g.no < h.no) : (L.take (i + 1)).Pairwise Par2 := by
  obtain ⟨h2, e2⟩ := List.getElem?_eq_some_iff.1 hi
  rw [List.take_succ_eq_append_getElem h2, e2, List.pairwise_append]
  refine ⟨hp, by simp, fun a ha b hb => ?_⟩
  rw [List.mem_singleton] at hb; subst hb
  refine ⟨?_, fun e => hm (List.mem_map.2 ⟨a, ha, e⟩)⟩
  obtain ⟨j, hj⟩ := List.mem_iff_getElem?.1 ha
  obtain ⟨hjl, ej⟩ := List.getElem?_eq_some_iff.1 hj
  have hjl2 := hjl
  rw [List.length_take] at hjl2
  have hlast := hn L[i - 1] (by omega) (List.getElem?_eq_getElem (by omega))
  by_cases hji : j = i - 1
  · subst hji
    rw [List.getElem_take] at ej
    rw [← ej]; exact hlast
  · have := List.pairwise_iff_getElem.1 hp j (i - 1) hjl (by rw [List.length_take]; omega) (by omega)
    rw [ej, List.getElem_take] at this
    have := this.1
    omega
theorem inT_iff {l : List ByteArray} {s : ByteArray} : inT l s = true ↔ s ∈ l := by
  unfold inT
  rw [List.any_eq_true]
  constructor
  · rintro ⟨x, hx, he⟩; rw [decide_eq_true_iff] at he; exact he ▸ hx
  · intro h; exact ⟨s, h, by simp⟩
/-- a part in memory, in a later world -/
theorem kps_at {S : Nat → Prop} {w wr : World} {a : Option Addr} {ks : List Tr} {vs : List Value} (hrow : RS S w a vs) (hks : KPs S w ks vs) (hB : Below w.heap.size w wr) {i : Nat} {t : Tr} (ht : ks[i]? = some t) :
    ∃ b off pb va c ws, a = some ⟨b, off, none⟩ ∧ b < w.heap.size ∧ wr.cell? ⟨b, off + i, none⟩ = some (.pointer (some ⟨pb, 0, none⟩)) ∧ KP S w t (.pointer (some ⟨pb, 0, none⟩)) ∧ pb < w.heap.size ∧ wr.heap[pb]? = some (.cells #[.int .i64 t.kind, .string t.name, .int .i64 t.no, .bool t.must, .int .i64 t.most, .slice va t.kids.length c] 103) ∧ t.name.size ≤ maxLen ∧ t.kids.length ≤ c ∧ c ≤ 9223372036854775807 ∧ RS S w va ws ∧ KPs S w t.kids ws := by
  obtain ⟨v, hv, hk⟩ := hks.at ht
  obtain ⟨pb, va, c, ws, rfl, h2, h3, h4, h5, h6, h7, h8, h9⟩ := hk.open
  obtain ⟨b, off, rfl, hb, hc⟩ := hrow.rw.at (by rintro rfl; simp at hv)
  exact ⟨b, off, pb, va, c, ws, rfl, hb, below_later hB (hc i _ hv), hk, h3, hp_later hB h4, h5, h6, h7, h8, h9⟩
set_option maxHeartbeats 4000000 in
theorem impl_partsOK {S : Nat → Prop} {w : World} {t : Tr} {p : Value} (h : KP S w t p) (hl : t.kids.length ≤ 1048576) (r : Bool) (hr : r = true ↔ Fit t.hd (hds t.kids)) : Calls Try.prog 90 #[p] w fun e w' => e = .returned (.bool r) ∧ Below w.heap.size w w' := by
  obtain ⟨kd, nm, no, mu, mo, ks⟩ := t
  obtain ⟨b, a, c, vs, rfl, hS, hb, hc, hnm, hkc, hcm, hrow, hks⟩ := h.open
  simp only [Tr.kind, Tr.name, Tr.no, Tr.must, Tr.most, Tr.kids, Tr.hd] at hc hnm hkc hcm hks hl hr
  obtain ⟨c0, c1, c2, c3, c4, c5⟩ := box6 hc
  have hE : (hds ks = []) ↔ ks.length = 0 := by rw [← List.length_eq_zero_iff, hds_len]
  unfold Fit at hr
  simp only [hE, hds_len] at hr
  clear hE
  have HR := Lib.hid hr
  have HX := Lib.hid hc
  have HROW := Lib.hid hrow
  have HKS := Lib.hid hks
  clear hr h hc hnm hrow hks hkc
  have HI := Lib.hid (fun wx => impl_within mo 0 20 wx)
  by_cases h12 : kd = 1 ∨ kd = 2
  · have hR : r = ((mo == 0) && ((ks.length : Int) == 0)) := by
      have q := HR.out
      rw [Bool.eq_iff_iff, q, Bool.and_eq_true, beq_iff_eq, beq_iff_eq]
      rcases h12 with rfl | rfl <;> simp
    clear HI HR
    cases h1 : (mo == 0) <;> cases h2 : ((ks.length : Int) == 0) <;> rw [h1, h2] at hR <;> subst hR <;> rcases h12 with rfl | rfl
    all_goals
      go_enter Try.func90, Try.ntmps90
      go_wp2_with fail
      go_ret
      exact ⟨rfl, Below.refl _ _⟩
  have n1 := kind_eq (show ¬ kd = 1 by omega)
  have n2 := kind_eq (show ¬ kd = 2 by omega)
  by_cases h3 : kd = 3
  · have hR : r = (inR mo 0 20 && ((ks.length : Int) == 0)) := by
      have q := HR.out
      subst h3
      rw [Bool.eq_iff_iff, q, Bool.and_eq_true, inR_iff2, beq_iff_eq]
      simp
    clear HR
    subst h3
    generalize inR mo 0 20 = r1 at *
    cases h1 : r1 <;> cases h2 : ((ks.length : Int) == 0) <;> rw [h1, h2] at hR <;> subst hR <;> subst h1
    all_goals
      go_enter Try.func90, Try.ntmps90
      go_wp2_with fail
      refine (HI.out _).mono ?_
      rintro e w' ⟨rfl, rfl⟩
      go_wp2_with fail
      go_ret
      exact ⟨rfl, Below.refl _ _⟩
  have n3 := kind_eq h3
  clear HI
  by_cases h4 : kd = 4
  · have hR : r = ((mo == 0) && ((ks.length : Int) == 1)) := by
      have q := HR.out
      subst h4
      rw [Bool.eq_iff_iff, q, Bool.and_eq_true, beq_iff_eq, beq_iff_eq]
      constructor
      · rintro ⟨_, _, h5, h6, _⟩
        exact ⟨h5 (by decide), by have := h6 rfl; omega⟩
      · rintro ⟨h5, h6⟩
        exact ⟨by decide, (fun h => by cases h), (fun _ => h5), (fun _ => by omega), (fun h => by cases h), (fun h => absurd (.inl rfl) h)⟩
    clear HR
    subst h4
    cases h1 : (mo == 0) <;> cases h2 : ((ks.length : Int) == 1) <;> rw [h1, h2] at hR <;> subst hR
    all_goals
      go_enter Try.func90, Try.ntmps90
      go_wp2_with fail
      go_ret
      exact ⟨rfl, Below.refl _ _⟩
  have n4 := kind_eq h4
  by_cases h5 : kd = 5
  case neg =>
    obtain rfl : r = false := by
      rw [Bool.eq_false_iff, Ne, HR.out]
      rintro ⟨q, _⟩
      omega
    have n5 : (kd != 5) = true := bne_iff_ne.2 h5
    clear HR
    go_enter Try.func90, Try.ntmps90
    go_wp2_with fail
    go_ret
    exact ⟨rfl, Below.refl _ _⟩
  by_cases h0 : mo = 0
  case neg =>
    obtain rfl : r = false := by
      rw [Bool.eq_false_iff, Ne, HR.out]
      rintro ⟨_, _, q, _⟩
      exact h0 (q h3)
    have m0 : (mo != 0) = true := bne_iff_ne.2 h0
    clear HR
    subst h5
    go_enter Try.func90, Try.ntmps90
    go_wp2_with fail
    go_ret
    exact ⟨rfl, Below.refl _ _⟩
  have hR : r = true ↔ (hds ks).Pairwise Par2 := by
    rw [HR.out]
    subst h5
    constructor
    · rintro ⟨_, _, _, _, q, _⟩; exact q rfl
    · intro q
      exact ⟨by decide, (fun h => by cases h), (fun _ => h0), (fun h => by cases h), (fun _ => q), (fun h => absurd (.inr rfl) h)⟩
  clear HR
  have HR := Lib.hid hR
  clear hR n1 n2 n3 n4 h12 h3 h4
  subst h5 h0
  have hmm := @run_makeMap Try.prog
  have HB0 := Lib.hid ((Below.refl w.heap.size w).alloc (Nat.le_refl _) (.map #[] 0))
  have HM0 := Lib.hid (SetB.made w)
  go_enter Try.func90, Try.ntmps90
  go_wp2_with fail
  clear hmm
  go_loopw [74] (fun iv wr => ∃ i : Nat, i ≤ ks.length ∧ iv = .int .i64 (i : Int) ∧ Hid (SetB wr w.heap.size (((hds ks).take i).map Hd.name)) ∧ Hid (((hds ks).take i).Pairwise Par2) ∧ Hid (Below w.heap.size w wr)) (fun iv _ => ks.length - (intOf iv).toNat)
  case atStart => exact ⟨0, by omega, rfl, HM0, Lib.hid (by simp), HB0⟩
  case round =>
    clear HM0 HB0
    obtain ⟨wo, rfl⟩ : ∃ z : World, z = wr := ⟨_, rfl⟩
    obtain ⟨i, hi, rfl, HM, HP, HB⟩ := hrel
    by_cases hil : i < ks.length
    case neg =>
      obtain rfl : i = ks.length := by omega
      obtain rfl : r = true := by
        rw [HR.out]
        have := HP.out
        rwa [List.take_of_length_le (by rw [hds_len]; omega)] at this
      go_wp2_with fail
      go_ret
      exact ⟨rfl, HB.out⟩
    obtain ⟨x, hx⟩ : ∃ x, ks[i]? = some x := ⟨ks[i], List.getElem?_eq_getElem hil⟩
    have HH := Lib.hid (hds_at hx)
    obtain ⟨rb, off, pb, va, ca, ws, rfl, hrb, r0, -, hpb, hpc, hxn, -, -, -, -⟩ := kps_at HROW.out HKS.out HB.out hx
    obtain ⟨d0, d1, d2, d3, d4, d5⟩ := box6 hpc
    clear hpc hx
    obtain ⟨t0, t1, t2, t3, t4, t5⟩ := box6 (hp_later HB.out HX.out)
    have lk := HM.out.look x.name hxn
    have hxh : x.hd.name = x.name ∧ x.hd.no = x.no := ⟨rfl, rfl⟩
    cases hin : inT (((hds ks).take i).map Hd.name) x.name with
    | true =>
      obtain rfl : r = false := by
        rw [Bool.eq_false_iff, Ne, HR.out]
        exact par_dup HH.out (inT_iff.1 hin)
      rw [hin] at lk
      go_wp2_with fail
      refine wp_region_G [] (fun w' => w'.cell? ⟨pb, 1, none⟩ = some (.string x.name) ∧ (Instr.lookup 120 (.map (some w.heap.size)) (.string x.name) false).run Try.prog w' = .ok (.bool true) w') (by kernel_rfl) ?_ (fun hHeld => ?_)
      · exact ⟨d1, (HM.out.drew.look x.name hxn).trans (by rw [hin])⟩
      refine wpG_pure (i := 0) (oi := { dst := some 79, op := Go.Op.move (Go.Operand.tmp 3), type := 120, pos := "l2_type.go:76", after := #[], guard := none }) (v := ?vg1) rfl (by kernel_rfl) (fun _ _ _ h => h) (Or.inr hHeld) (Or.inl ⟨by rfl, ?yg1⟩) ?_
      case yg1 => (intro wS _; go_simp <;> with_reducible rfl)
      try simp only [Act.put, List.setIfInBounds_toArray, List.set_cons_zero, List.set_cons_succ]
      refine wpG_pure (i := 1) (oi := { dst := some 80, op := Go.Op.move (Go.Operand.tmp 5), type := 65, pos := "l2_type.go:76", after := #[], guard := none }) (v := ?vg2) rfl (by kernel_rfl) (fun _ _ _ h => h) (Or.inr hHeld) (Or.inl ⟨by rfl, ?yg2⟩) ?_
      case yg2 => (intro wS _; go_simp <;> with_reducible rfl)
      try simp only [Act.put, List.setIfInBounds_toArray, List.set_cons_zero, List.set_cons_succ]
      refine wpG_pure (i := 2) (oi := { dst := some 81, op := Go.Op.nilCheck (Go.Operand.tmp 80), type := 0, pos := "l2_type.go:76", after := #[{ on := 1, ground := Go.Ground.data }], guard := none }) (v := ?vg3) rfl (by kernel_rfl) (fun _ _ _ h => h) (Or.inr hHeld) (Or.inl ⟨by rfl, ?yg3⟩) ?_
      case yg3 => (intro wS _; go_simp <;> with_reducible rfl)
      try simp only [Act.put, List.setIfInBounds_toArray, List.set_cons_zero, List.set_cons_succ]
      refine wpG_pure (i := 3) (oi := { dst := some 82, op := Go.Op.fieldAddr 103 (Go.Operand.tmp 81) 1, type := 0, pos := "l2_type.go:76", after := #[{ on := 2, ground := Go.Ground.data }], guard := none }) (v := ?vg4) rfl (by kernel_rfl) (fun _ _ _ h => h) (Or.inr hHeld) (Or.inl ⟨by rfl, ?yg4⟩) ?_
      case yg4 => (intro wS _; go_simp <;> with_reducible rfl)
      try simp only [Act.put, List.setIfInBounds_toArray, List.set_cons_zero, List.set_cons_succ]
      refine wpG_load (i := 4) (oi := { dst := some 83, op := Go.Op.load 9 (Go.Operand.tmp 82), type := 9, pos := "l2_type.go:76", after := #[{ on := 3, ground := Go.Ground.data }], guard := none }) (v := ?vg5) [] rfl (by kernel_rfl) (fun _ _ _ h => h) hHeld (Or.inl ⟨by rfl, ?yg5⟩) ?_
      case yg5 => (intro wS hSw; (try dsimp only at hSw); go_simp <;> with_reducible rfl)
      try simp only [Act.put, List.setIfInBounds_toArray, List.set_cons_zero, List.set_cons_succ]
      refine wpG_load (i := 5) (oi := { dst := some 84, op := Go.Op.lookup 120 (Go.Operand.tmp 79) (Go.Operand.tmp 83) false, type := 4, pos := "l2_type.go:76", after := #[{ on := 0, ground := Go.Ground.data }, { on := 4, ground := Go.Ground.data }], guard := none }) (v := ?vg6) [] rfl (by kernel_rfl) (fun _ _ _ h => h) hHeld (Or.inl ⟨by rfl, ?yg6⟩) ?_
      case yg6 => (intro wS hSw; (try dsimp only at hSw); go_simp <;> with_reducible rfl)
      try simp only [Act.put, List.setIfInBounds_toArray, List.set_cons_zero, List.set_cons_succ]
      refine wpG_pure (i := 6) (oi := { dst := some 85, op := Go.Op.move (Go.Operand.tmp 84), type := 4, pos := "l2_type.go:76", after := #[{ on := 5, ground := Go.Ground.data }], guard := none }) (v := ?vg7) rfl (by kernel_rfl) (fun _ _ _ h => h) (Or.inr hHeld) (Or.inl ⟨by rfl, ?yg7⟩) ?_
      case yg7 => (intro wS _; go_simp <;> with_reducible rfl)
      try simp only [Act.put, List.setIfInBounds_toArray, List.set_cons_zero, List.set_cons_succ]
      refine wpG_pure (i := 7) (oi := { dst := some 86, op := Go.Op.move (Go.Operand.tmp 4), type := 3, pos := "l2_type.go:76", after := #[{ on := 6, ground := Go.Ground.guard }], guard := some (6, false) }) (v := undef) rfl (by kernel_rfl) (fun _ _ _ h => h) (Or.inr hHeld) (Or.inr ⟨by rfl, rfl⟩) ?_
      try simp only [Act.put, List.setIfInBounds_toArray, List.set_cons_zero, List.set_cons_succ]
      refine wpG_pure (i := 8) (oi := { dst := some 87, op := Go.Op.binOp Go.BinOp.gtr 3 (Go.Operand.tmp 86) (Go.Operand.const (Go.Value.int Go.IntKind.i64 0)) 3, type := 4, pos := "l2_type.go:76", after := #[{ on := 7, ground := Go.Ground.data }, { on := 6, ground := Go.Ground.guard }], guard := some (6, false) }) (v := undef) rfl (by kernel_rfl) (fun _ _ _ h => h) (Or.inr hHeld) (Or.inr ⟨by rfl, rfl⟩) ?_
      try simp only [Act.put, List.setIfInBounds_toArray, List.set_cons_zero, List.set_cons_succ]
      refine wpG_pure (i := 9) (oi := { dst := some 88, op := Go.Op.move (Go.Operand.tmp 87), type := 4, pos := "l2_type.go:76", after := #[{ on := 8, ground := Go.Ground.data }, { on := 6, ground := Go.Ground.chain }, { on := 6, ground := Go.Ground.guard }], guard := some (6, false) }) (v := undef) rfl (by kernel_rfl) (fun _ _ _ h => h) (Or.inr hHeld) (Or.inr ⟨by rfl, rfl⟩) ?_
      try simp only [Act.put, List.setIfInBounds_toArray, List.set_cons_zero, List.set_cons_succ]
      refine wpG_pure (i := 10) (oi := { dst := some 89, op := Go.Op.move (Go.Operand.tmp 0), type := 65, pos := "l2_type.go:76", after := #[{ on := 9, ground := Go.Ground.guard }], guard := some (9, true) }) (v := undef) rfl (by kernel_rfl) (fun _ _ _ h => h) (Or.inr hHeld) (Or.inr ⟨by rfl, rfl⟩) ?_
      try simp only [Act.put, List.setIfInBounds_toArray, List.set_cons_zero, List.set_cons_succ]
      refine wpG_pure (i := 11) (oi := { dst := some 90, op := Go.Op.nilCheck (Go.Operand.tmp 89), type := 0, pos := "l2_type.go:76", after := #[{ on := 10, ground := Go.Ground.data }, { on := 9, ground := Go.Ground.guard }], guard := some (9, true) }) (v := undef) rfl (by kernel_rfl) (fun _ _ _ h => h) (Or.inr hHeld) (Or.inr ⟨by rfl, rfl⟩) ?_
      try simp only [Act.put, List.setIfInBounds_toArray, List.set_cons_zero, List.set_cons_succ]
      refine wpG_pure (i := 12) (oi := { dst := some 91, op := Go.Op.fieldAddr 103 (Go.Operand.tmp 90) 5, type := 0, pos := "l2_type.go:76", after := #[{ on := 11, ground := Go.Ground.data }, { on := 9, ground := Go.Ground.guard }], guard := some (9, true) }) (v := undef) rfl (by kernel_rfl) (fun _ _ _ h => h) (Or.inr hHeld) (Or.inr ⟨by rfl, rfl⟩) ?_
      try simp only [Act.put, List.setIfInBounds_toArray, List.set_cons_zero, List.set_cons_succ]
      refine wpG_pure (i := 13) (oi := { dst := some 92, op := Go.Op.load 101 (Go.Operand.tmp 91), type := 101, pos := "l2_type.go:76", after := #[{ on := 12, ground := Go.Ground.data }, { on := 9, ground := Go.Ground.guard }], guard := some (9, true) }) (v := undef) rfl (by kernel_rfl) (fun _ _ _ h => h) (Or.inr hHeld) (Or.inr ⟨by rfl, rfl⟩) ?_
      try simp only [Act.put, List.setIfInBounds_toArray, List.set_cons_zero, List.set_cons_succ]
      refine wpG_pure (i := 14) (oi := { dst := some 93, op := Go.Op.move (Go.Operand.tmp 4), type := 3, pos := "l2_type.go:76", after := #[{ on := 9, ground := Go.Ground.guard }], guard := some (9, true) }) (v := undef) rfl (by kernel_rfl) (fun _ _ _ h => h) (Or.inr hHeld) (Or.inr ⟨by rfl, rfl⟩) ?_
      try simp only [Act.put, List.setIfInBounds_toArray, List.set_cons_zero, List.set_cons_succ]
      refine wpG_pure (i := 15) (oi := { dst := some 94, op := Go.Op.binOp Go.BinOp.sub 3 (Go.Operand.tmp 93) (Go.Operand.const (Go.Value.int Go.IntKind.i64 1)) 3, type := 3, pos := "l2_type.go:76", after := #[{ on := 14, ground := Go.Ground.data }, { on := 9, ground := Go.Ground.guard }], guard := some (9, true) }) (v := undef) rfl (by kernel_rfl) (fun _ _ _ h => h) (Or.inr hHeld) (Or.inr ⟨by rfl, rfl⟩) ?_
      try simp only [Act.put, List.setIfInBounds_toArray, List.set_cons_zero, List.set_cons_succ]
      refine wpG_pure (i := 16) (oi := { dst := some 95, op := Go.Op.indexAddr 101 (Go.Operand.tmp 92) (Go.Operand.tmp 94), type := 0, pos := "l2_type.go:76", after := #[{ on := 13, ground := Go.Ground.data }, { on := 15, ground := Go.Ground.data }, { on := 9, ground := Go.Ground.guard }], guard := some (9, true) }) (v := undef) rfl (by kernel_rfl) (fun _ _ _ h => h) (Or.inr hHeld) (Or.inr ⟨by rfl, rfl⟩) ?_
      try simp only [Act.put, List.setIfInBounds_toArray, List.set_cons_zero, List.set_cons_succ]
      refine wpG_pure (i := 17) (oi := { dst := some 96, op := Go.Op.load 65 (Go.Operand.tmp 95), type := 65, pos := "l2_type.go:76", after := #[{ on := 16, ground := Go.Ground.data }, { on := 9, ground := Go.Ground.guard }], guard := some (9, true) }) (v := undef) rfl (by kernel_rfl) (fun _ _ _ h => h) (Or.inr hHeld) (Or.inr ⟨by rfl, rfl⟩) ?_
      try simp only [Act.put, List.setIfInBounds_toArray, List.set_cons_zero, List.set_cons_succ]
      refine wpG_pure (i := 18) (oi := { dst := some 97, op := Go.Op.nilCheck (Go.Operand.tmp 96), type := 0, pos := "l2_type.go:76", after := #[{ on := 17, ground := Go.Ground.data }, { on := 9, ground := Go.Ground.guard }], guard := some (9, true) }) (v := undef) rfl (by kernel_rfl) (fun _ _ _ h => h) (Or.inr hHeld) (Or.inr ⟨by rfl, rfl⟩) ?_
      try simp only [Act.put, List.setIfInBounds_toArray, List.set_cons_zero, List.set_cons_succ]
      refine wpG_pure (i := 19) (oi := { dst := some 98, op := Go.Op.fieldAddr 103 (Go.Operand.tmp 97) 2, type := 0, pos := "l2_type.go:76", after := #[{ on := 18, ground := Go.Ground.data }, { on := 9, ground := Go.Ground.guard }], guard := some (9, true) }) (v := undef) rfl (by kernel_rfl) (fun _ _ _ h => h) (Or.inr hHeld) (Or.inr ⟨by rfl, rfl⟩) ?_
      try simp only [Act.put, List.setIfInBounds_toArray, List.set_cons_zero, List.set_cons_succ]
      refine wpG_pure (i := 20) (oi := { dst := some 99, op := Go.Op.load 3 (Go.Operand.tmp 98), type := 3, pos := "l2_type.go:76", after := #[{ on := 19, ground := Go.Ground.data }, { on := 9, ground := Go.Ground.guard }], guard := some (9, true) }) (v := undef) rfl (by kernel_rfl) (fun _ _ _ h => h) (Or.inr hHeld) (Or.inr ⟨by rfl, rfl⟩) ?_
      try simp only [Act.put, List.setIfInBounds_toArray, List.set_cons_zero, List.set_cons_succ]
      refine wpG_pure (i := 21) (oi := { dst := some 100, op := Go.Op.move (Go.Operand.tmp 5), type := 65, pos := "l2_type.go:76", after := #[{ on := 9, ground := Go.Ground.guard }], guard := some (9, true) }) (v := undef) rfl (by kernel_rfl) (fun _ _ _ h => h) (Or.inr hHeld) (Or.inr ⟨by rfl, rfl⟩) ?_
      try simp only [Act.put, List.setIfInBounds_toArray, List.set_cons_zero, List.set_cons_succ]
      refine wpG_pure (i := 22) (oi := { dst := some 101, op := Go.Op.nilCheck (Go.Operand.tmp 100), type := 0, pos := "l2_type.go:76", after := #[{ on := 21, ground := Go.Ground.data }, { on := 9, ground := Go.Ground.guard }], guard := some (9, true) }) (v := undef) rfl (by kernel_rfl) (fun _ _ _ h => h) (Or.inr hHeld) (Or.inr ⟨by rfl, rfl⟩) ?_
      try simp only [Act.put, List.setIfInBounds_toArray, List.set_cons_zero, List.set_cons_succ]
      refine wpG_pure (i := 23) (oi := { dst := some 102, op := Go.Op.fieldAddr 103 (Go.Operand.tmp 101) 2, type := 0, pos := "l2_type.go:76", after := #[{ on := 22, ground := Go.Ground.data }, { on := 9, ground := Go.Ground.guard }], guard := some (9, true) }) (v := undef) rfl (by kernel_rfl) (fun _ _ _ h => h) (Or.inr hHeld) (Or.inr ⟨by rfl, rfl⟩) ?_
      try simp only [Act.put, List.setIfInBounds_toArray, List.set_cons_zero, List.set_cons_succ]
      refine wpG_pure (i := 24) (oi := { dst := some 103, op := Go.Op.load 3 (Go.Operand.tmp 102), type := 3, pos := "l2_type.go:76", after := #[{ on := 23, ground := Go.Ground.data }, { on := 9, ground := Go.Ground.guard }], guard := some (9, true) }) (v := undef) rfl (by kernel_rfl) (fun _ _ _ h => h) (Or.inr hHeld) (Or.inr ⟨by rfl, rfl⟩) ?_
      try simp only [Act.put, List.setIfInBounds_toArray, List.set_cons_zero, List.set_cons_succ]
      refine wpG_pure (i := 25) (oi := { dst := some 104, op := Go.Op.binOp Go.BinOp.geq 3 (Go.Operand.tmp 99) (Go.Operand.tmp 103) 3, type := 4, pos := "l2_type.go:76", after := #[{ on := 20, ground := Go.Ground.data }, { on := 24, ground := Go.Ground.data }, { on := 9, ground := Go.Ground.guard }], guard := some (9, true) }) (v := undef) rfl (by kernel_rfl) (fun _ _ _ h => h) (Or.inr hHeld) (Or.inr ⟨by rfl, rfl⟩) ?_
      try simp only [Act.put, List.setIfInBounds_toArray, List.set_cons_zero, List.set_cons_succ]
      refine wpG_pure (i := 26) (oi := { dst := some 105, op := Go.Op.pick (Go.Operand.tmp 88) (Go.Operand.tmp 104) (Go.Operand.const (Go.Value.bool false)), type := 4, pos := "l2_type.go:76", after := #[{ on := 9, ground := Go.Ground.data }, { on := 25, ground := Go.Ground.data }, { on := 6, ground := Go.Ground.guard }], guard := some (6, false) }) (v := undef) rfl (by kernel_rfl) (fun _ _ _ h => h) (Or.inr hHeld) (Or.inr ⟨by rfl, rfl⟩) ?_
      try simp only [Act.put, List.setIfInBounds_toArray, List.set_cons_zero, List.set_cons_succ]
      refine wpG_pure (i := 27) (oi := { dst := some 106, op := Go.Op.pick (Go.Operand.tmp 85) (Go.Operand.const (Go.Value.bool true)) (Go.Operand.tmp 105), type := 4, pos := "l2_type.go:76", after := #[{ on := 6, ground := Go.Ground.data }, { on := 26, ground := Go.Ground.data }], guard := none }) (v := ?vg28) rfl (by kernel_rfl) (fun _ _ _ h => h) (Or.inr hHeld) (Or.inl ⟨by rfl, ?yg28⟩) ?_
      case yg28 => (intro wS _; go_simp <;> with_reducible rfl)
      try simp only [Act.put, List.setIfInBounds_toArray, List.set_cons_zero, List.set_cons_succ]
      refine wpG_done (by kernel_rfl) ?_
      go_wp2_with fail
      go_ret
      exact ⟨rfl, HB.out.drew⟩
    | false =>
    have hni : ¬ x.hd.name ∈ ((hds ks).take i).map Hd.name := fun h => by have q := inT_iff.2 h; rw [show x.hd.name = x.name from rfl, hin] at q; cases q
    have HN := Lib.hid hni
    have HTK : Hid ((((hds ks).take (i + 1)).map Hd.name) = ((hds ks).take i).map Hd.name ++ [x.name]) := Lib.hid (by
      obtain ⟨q1, q2⟩ := List.getElem?_eq_some_iff.1 HH.out
      rw [List.take_succ_eq_append_getElem q1, q2, List.map_append]; rfl)
    have HLN : Hid ((((hds ks).take i).map Hd.name).length < 1048577) := Lib.hid (by rw [List.length_map, List.length_take, hds_len]; omega)
    have HDR := Lib.hid (HM.out.drew)
    have KS : Hid (w.heap.size < wo.heap.size) := Lib.hid (HM.out.lt)
    clear hni
    by_cases hi0 : i = 0
    · have hi1 : ¬ ((i : Int) > 0) := by omega
      have hi2 : ¬ 0 < i := by omega
      have HP2 := Lib.hid (par_snoc HP.out HH.out HN.out (fun g h => by omega))
      clear hi0
      have HD1 := Lib.hid (show wo.drew.cell? ⟨pb, 1, none⟩ = some (.string x.name) from d1)
      go_wp2_with fail
      refine wp_region_G [] (fun w' => w'.cell? ⟨pb, 1, none⟩ = some (.string x.name) ∧ (Instr.lookup 120 (.map (some w.heap.size)) (.string x.name) false).run Try.prog w' = .ok (.bool false) w') (by kernel_rfl) ?_ (fun hHeld => ?_)
      · exact ⟨d1, (HDR.out.look x.name hxn).trans (by rw [hin])⟩
      refine wpG_pure (i := 0) (oi := { dst := some 79, op := Go.Op.move (Go.Operand.tmp 3), type := 120, pos := "l2_type.go:76", after := #[], guard := none }) (v := ?vg29) rfl (by kernel_rfl) (fun _ _ _ h => h) (Or.inr hHeld) (Or.inl ⟨by rfl, ?yg29⟩) ?_
      case yg29 => (intro wS _; go_simp <;> with_reducible rfl)
      try simp only [Act.put, List.setIfInBounds_toArray, List.set_cons_zero, List.set_cons_succ]
      refine wpG_pure (i := 1) (oi := { dst := some 80, op := Go.Op.move (Go.Operand.tmp 5), type := 65, pos := "l2_type.go:76", after := #[], guard := none }) (v := ?vg30) rfl (by kernel_rfl) (fun _ _ _ h => h) (Or.inr hHeld) (Or.inl ⟨by rfl, ?yg30⟩) ?_
      case yg30 => (intro wS _; go_simp <;> with_reducible rfl)
      try simp only [Act.put, List.setIfInBounds_toArray, List.set_cons_zero, List.set_cons_succ]
      refine wpG_pure (i := 2) (oi := { dst := some 81, op := Go.Op.nilCheck (Go.Operand.tmp 80), type := 0, pos := "l2_type.go:76", after := #[{ on := 1, ground := Go.Ground.data }], guard := none }) (v := ?vg31) rfl (by kernel_rfl) (fun _ _ _ h => h) (Or.inr hHeld) (Or.inl ⟨by rfl, ?yg31⟩) ?_
      case yg31 => (intro wS _; go_simp <;> with_reducible rfl)
      try simp only [Act.put, List.setIfInBounds_toArray, List.set_cons_zero, List.set_cons_succ]
      refine wpG_pure (i := 3) (oi := { dst := some 82, op := Go.Op.fieldAddr 103 (Go.Operand.tmp 81) 1, type := 0, pos := "l2_type.go:76", after := #[{ on := 2, ground := Go.Ground.data }], guard := none }) (v := ?vg32) rfl (by kernel_rfl) (fun _ _ _ h => h) (Or.inr hHeld) (Or.inl ⟨by rfl, ?yg32⟩) ?_
      case yg32 => (intro wS _; go_simp <;> with_reducible rfl)
      try simp only [Act.put, List.setIfInBounds_toArray, List.set_cons_zero, List.set_cons_succ]
      refine wpG_load (i := 4) (oi := { dst := some 83, op := Go.Op.load 9 (Go.Operand.tmp 82), type := 9, pos := "l2_type.go:76", after := #[{ on := 3, ground := Go.Ground.data }], guard := none }) (v := ?vg33) [] rfl (by kernel_rfl) (fun _ _ _ h => h) hHeld (Or.inl ⟨by rfl, ?yg33⟩) ?_
      case yg33 => (intro wS hSw; (try dsimp only at hSw); go_simp <;> with_reducible rfl)
      try simp only [Act.put, List.setIfInBounds_toArray, List.set_cons_zero, List.set_cons_succ]
      refine wpG_load (i := 5) (oi := { dst := some 84, op := Go.Op.lookup 120 (Go.Operand.tmp 79) (Go.Operand.tmp 83) false, type := 4, pos := "l2_type.go:76", after := #[{ on := 0, ground := Go.Ground.data }, { on := 4, ground := Go.Ground.data }], guard := none }) (v := ?vg34) [] rfl (by kernel_rfl) (fun _ _ _ h => h) hHeld (Or.inl ⟨by rfl, ?yg34⟩) ?_
      case yg34 => (intro wS hSw; (try dsimp only at hSw); go_simp <;> with_reducible rfl)
      try simp only [Act.put, List.setIfInBounds_toArray, List.set_cons_zero, List.set_cons_succ]
      refine wpG_pure (i := 6) (oi := { dst := some 85, op := Go.Op.move (Go.Operand.tmp 84), type := 4, pos := "l2_type.go:76", after := #[{ on := 5, ground := Go.Ground.data }], guard := none }) (v := ?vg35) rfl (by kernel_rfl) (fun _ _ _ h => h) (Or.inr hHeld) (Or.inl ⟨by rfl, ?yg35⟩) ?_
      case yg35 => (intro wS _; go_simp <;> with_reducible rfl)
      try simp only [Act.put, List.setIfInBounds_toArray, List.set_cons_zero, List.set_cons_succ]
      refine wpG_pure (i := 7) (oi := { dst := some 86, op := Go.Op.move (Go.Operand.tmp 4), type := 3, pos := "l2_type.go:76", after := #[{ on := 6, ground := Go.Ground.guard }], guard := some (6, false) }) (v := ?vg36) rfl (by kernel_rfl) (fun _ _ _ h => h) (Or.inr hHeld) (Or.inl ⟨by rfl, ?yg36⟩) ?_
      case yg36 => (intro wS _; go_simp <;> with_reducible rfl)
      try simp only [Act.put, List.setIfInBounds_toArray, List.set_cons_zero, List.set_cons_succ]
      refine wpG_pure (i := 8) (oi := { dst := some 87, op := Go.Op.binOp Go.BinOp.gtr 3 (Go.Operand.tmp 86) (Go.Operand.const (Go.Value.int Go.IntKind.i64 0)) 3, type := 4, pos := "l2_type.go:76", after := #[{ on := 7, ground := Go.Ground.data }, { on := 6, ground := Go.Ground.guard }], guard := some (6, false) }) (v := ?vg37) rfl (by kernel_rfl) (fun _ _ _ h => h) (Or.inr hHeld) (Or.inl ⟨by rfl, ?yg37⟩) ?_
      case yg37 => (intro wS _; go_simp <;> with_reducible rfl)
      try simp only [Act.put, List.setIfInBounds_toArray, List.set_cons_zero, List.set_cons_succ]
      refine wpG_pure (i := 9) (oi := { dst := some 88, op := Go.Op.move (Go.Operand.tmp 87), type := 4, pos := "l2_type.go:76", after := #[{ on := 8, ground := Go.Ground.data }, { on := 6, ground := Go.Ground.chain }, { on := 6, ground := Go.Ground.guard }], guard := some (6, false) }) (v := ?vg38) rfl (by kernel_rfl) (fun _ _ _ h => h) (Or.inr hHeld) (Or.inl ⟨by rfl, ?yg38⟩) ?_
      case yg38 => (intro wS _; go_simp <;> with_reducible rfl)
      try simp only [Act.put, List.setIfInBounds_toArray, List.set_cons_zero, List.set_cons_succ]
      refine wpG_pure (i := 10) (oi := { dst := some 89, op := Go.Op.move (Go.Operand.tmp 0), type := 65, pos := "l2_type.go:76", after := #[{ on := 9, ground := Go.Ground.guard }], guard := some (9, true) }) (v := undef) rfl (by kernel_rfl) (fun _ _ _ h => h) (Or.inr hHeld) (Or.inr ⟨by rfl, rfl⟩) ?_
      try simp only [Act.put, List.setIfInBounds_toArray, List.set_cons_zero, List.set_cons_succ]
      refine wpG_pure (i := 11) (oi := { dst := some 90, op := Go.Op.nilCheck (Go.Operand.tmp 89), type := 0, pos := "l2_type.go:76", after := #[{ on := 10, ground := Go.Ground.data }, { on := 9, ground := Go.Ground.guard }], guard := some (9, true) }) (v := undef) rfl (by kernel_rfl) (fun _ _ _ h => h) (Or.inr hHeld) (Or.inr ⟨by rfl, rfl⟩) ?_
      try simp only [Act.put, List.setIfInBounds_toArray, List.set_cons_zero, List.set_cons_succ]
      refine wpG_pure (i := 12) (oi := { dst := some 91, op := Go.Op.fieldAddr 103 (Go.Operand.tmp 90) 5, type := 0, pos := "l2_type.go:76", after := #[{ on := 11, ground := Go.Ground.data }, { on := 9, ground := Go.Ground.guard }], guard := some (9, true) }) (v := undef) rfl (by kernel_rfl) (fun _ _ _ h => h) (Or.inr hHeld) (Or.inr ⟨by rfl, rfl⟩) ?_
      try simp only [Act.put, List.setIfInBounds_toArray, List.set_cons_zero, List.set_cons_succ]
      refine wpG_pure (i := 13) (oi := { dst := some 92, op := Go.Op.load 101 (Go.Operand.tmp 91), type := 101, pos := "l2_type.go:76", after := #[{ on := 12, ground := Go.Ground.data }, { on := 9, ground := Go.Ground.guard }], guard := some (9, true) }) (v := undef) rfl (by kernel_rfl) (fun _ _ _ h => h) (Or.inr hHeld) (Or.inr ⟨by rfl, rfl⟩) ?_
      try simp only [Act.put, List.setIfInBounds_toArray, List.set_cons_zero, List.set_cons_succ]
      refine wpG_pure (i := 14) (oi := { dst := some 93, op := Go.Op.move (Go.Operand.tmp 4), type := 3, pos := "l2_type.go:76", after := #[{ on := 9, ground := Go.Ground.guard }], guard := some (9, true) }) (v := undef) rfl (by kernel_rfl) (fun _ _ _ h => h) (Or.inr hHeld) (Or.inr ⟨by rfl, rfl⟩) ?_
      try simp only [Act.put, List.setIfInBounds_toArray, List.set_cons_zero, List.set_cons_succ]
      refine wpG_pure (i := 15) (oi := { dst := some 94, op := Go.Op.binOp Go.BinOp.sub 3 (Go.Operand.tmp 93) (Go.Operand.const (Go.Value.int Go.IntKind.i64 1)) 3, type := 3, pos := "l2_type.go:76", after := #[{ on := 14, ground := Go.Ground.data }, { on := 9, ground := Go.Ground.guard }], guard := some (9, true) }) (v := undef) rfl (by kernel_rfl) (fun _ _ _ h => h) (Or.inr hHeld) (Or.inr ⟨by rfl, rfl⟩) ?_
      try simp only [Act.put, List.setIfInBounds_toArray, List.set_cons_zero, List.set_cons_succ]
      refine wpG_pure (i := 16) (oi := { dst := some 95, op := Go.Op.indexAddr 101 (Go.Operand.tmp 92) (Go.Operand.tmp 94), type := 0, pos := "l2_type.go:76", after := #[{ on := 13, ground := Go.Ground.data }, { on := 15, ground := Go.Ground.data }, { on := 9, ground := Go.Ground.guard }], guard := some (9, true) }) (v := undef) rfl (by kernel_rfl) (fun _ _ _ h => h) (Or.inr hHeld) (Or.inr ⟨by rfl, rfl⟩) ?_
      try simp only [Act.put, List.setIfInBounds_toArray, List.set_cons_zero, List.set_cons_succ]
      refine wpG_pure (i := 17) (oi := { dst := some 96, op := Go.Op.load 65 (Go.Operand.tmp 95), type := 65, pos := "l2_type.go:76", after := #[{ on := 16, ground := Go.Ground.data }, { on := 9, ground := Go.Ground.guard }], guard := some (9, true) }) (v := undef) rfl (by kernel_rfl) (fun _ _ _ h => h) (Or.inr hHeld) (Or.inr ⟨by rfl, rfl⟩) ?_
      try simp only [Act.put, List.setIfInBounds_toArray, List.set_cons_zero, List.set_cons_succ]
      refine wpG_pure (i := 18) (oi := { dst := some 97, op := Go.Op.nilCheck (Go.Operand.tmp 96), type := 0, pos := "l2_type.go:76", after := #[{ on := 17, ground := Go.Ground.data }, { on := 9, ground := Go.Ground.guard }], guard := some (9, true) }) (v := undef) rfl (by kernel_rfl) (fun _ _ _ h => h) (Or.inr hHeld) (Or.inr ⟨by rfl, rfl⟩) ?_
      try simp only [Act.put, List.setIfInBounds_toArray, List.set_cons_zero, List.set_cons_succ]
      refine wpG_pure (i := 19) (oi := { dst := some 98, op := Go.Op.fieldAddr 103 (Go.Operand.tmp 97) 2, type := 0, pos := "l2_type.go:76", after := #[{ on := 18, ground := Go.Ground.data }, { on := 9, ground := Go.Ground.guard }], guard := some (9, true) }) (v := undef) rfl (by kernel_rfl) (fun _ _ _ h => h) (Or.inr hHeld) (Or.inr ⟨by rfl, rfl⟩) ?_
      try simp only [Act.put, List.setIfInBounds_toArray, List.set_cons_zero, List.set_cons_succ]
      refine wpG_pure (i := 20) (oi := { dst := some 99, op := Go.Op.load 3 (Go.Operand.tmp 98), type := 3, pos := "l2_type.go:76", after := #[{ on := 19, ground := Go.Ground.data }, { on := 9, ground := Go.Ground.guard }], guard := some (9, true) }) (v := undef) rfl (by kernel_rfl) (fun _ _ _ h => h) (Or.inr hHeld) (Or.inr ⟨by rfl, rfl⟩) ?_
      try simp only [Act.put, List.setIfInBounds_toArray, List.set_cons_zero, List.set_cons_succ]
      refine wpG_pure (i := 21) (oi := { dst := some 100, op := Go.Op.move (Go.Operand.tmp 5), type := 65, pos := "l2_type.go:76", after := #[{ on := 9, ground := Go.Ground.guard }], guard := some (9, true) }) (v := undef) rfl (by kernel_rfl) (fun _ _ _ h => h) (Or.inr hHeld) (Or.inr ⟨by rfl, rfl⟩) ?_
      try simp only [Act.put, List.setIfInBounds_toArray, List.set_cons_zero, List.set_cons_succ]
      refine wpG_pure (i := 22) (oi := { dst := some 101, op := Go.Op.nilCheck (Go.Operand.tmp 100), type := 0, pos := "l2_type.go:76", after := #[{ on := 21, ground := Go.Ground.data }, { on := 9, ground := Go.Ground.guard }], guard := some (9, true) }) (v := undef) rfl (by kernel_rfl) (fun _ _ _ h => h) (Or.inr hHeld) (Or.inr ⟨by rfl, rfl⟩) ?_
      try simp only [Act.put, List.setIfInBounds_toArray, List.set_cons_zero, List.set_cons_succ]
      refine wpG_pure (i := 23) (oi := { dst := some 102, op := Go.Op.fieldAddr 103 (Go.Operand.tmp 101) 2, type := 0, pos := "l2_type.go:76", after := #[{ on := 22, ground := Go.Ground.data }, { on := 9, ground := Go.Ground.guard }], guard := some (9, true) }) (v := undef) rfl (by kernel_rfl) (fun _ _ _ h => h) (Or.inr hHeld) (Or.inr ⟨by rfl, rfl⟩) ?_
      try simp only [Act.put, List.setIfInBounds_toArray, List.set_cons_zero, List.set_cons_succ]
      refine wpG_pure (i := 24) (oi := { dst := some 103, op := Go.Op.load 3 (Go.Operand.tmp 102), type := 3, pos := "l2_type.go:76", after := #[{ on := 23, ground := Go.Ground.data }, { on := 9, ground := Go.Ground.guard }], guard := some (9, true) }) (v := undef) rfl (by kernel_rfl) (fun _ _ _ h => h) (Or.inr hHeld) (Or.inr ⟨by rfl, rfl⟩) ?_
      try simp only [Act.put, List.setIfInBounds_toArray, List.set_cons_zero, List.set_cons_succ]
      refine wpG_pure (i := 25) (oi := { dst := some 104, op := Go.Op.binOp Go.BinOp.geq 3 (Go.Operand.tmp 99) (Go.Operand.tmp 103) 3, type := 4, pos := "l2_type.go:76", after := #[{ on := 20, ground := Go.Ground.data }, { on := 24, ground := Go.Ground.data }, { on := 9, ground := Go.Ground.guard }], guard := some (9, true) }) (v := undef) rfl (by kernel_rfl) (fun _ _ _ h => h) (Or.inr hHeld) (Or.inr ⟨by rfl, rfl⟩) ?_
      try simp only [Act.put, List.setIfInBounds_toArray, List.set_cons_zero, List.set_cons_succ]
      refine wpG_pure (i := 26) (oi := { dst := some 105, op := Go.Op.pick (Go.Operand.tmp 88) (Go.Operand.tmp 104) (Go.Operand.const (Go.Value.bool false)), type := 4, pos := "l2_type.go:76", after := #[{ on := 9, ground := Go.Ground.data }, { on := 25, ground := Go.Ground.data }, { on := 6, ground := Go.Ground.guard }], guard := some (6, false) }) (v := ?vg55) rfl (by kernel_rfl) (fun _ _ _ h => h) (Or.inr hHeld) (Or.inl ⟨by rfl, ?yg55⟩) ?_
      case yg55 => (intro wS _; go_simp <;> with_reducible rfl)
      try simp only [Act.put, List.setIfInBounds_toArray, List.set_cons_zero, List.set_cons_succ]
      refine wpG_pure (i := 27) (oi := { dst := some 106, op := Go.Op.pick (Go.Operand.tmp 85) (Go.Operand.const (Go.Value.bool true)) (Go.Operand.tmp 105), type := 4, pos := "l2_type.go:76", after := #[{ on := 6, ground := Go.Ground.data }, { on := 26, ground := Go.Ground.data }], guard := none }) (v := ?vg56) rfl (by kernel_rfl) (fun _ _ _ h => h) (Or.inr hHeld) (Or.inl ⟨by rfl, ?yg56⟩) ?_
      case yg56 => (intro wS _; go_simp <;> with_reducible rfl)
      try simp only [Act.put, List.setIfInBounds_toArray, List.set_cons_zero, List.set_cons_succ]
      refine wpG_done (by kernel_rfl) ?_
      clear d0 d1 d2 d3 d4 d5 t0 t1 t2 t3 t4 t5 r0 lk
      have d1 := HD1.out
      go_wp2_with (at_mapUpdate; refine wpList_setb_put rfl _ _ _ rfl w.heap.size _ rfl HDR.out x.name hxn HLN.out rfl rfl ?_; intro w2 hs2 hg2)
      have HS2 := Lib.hid hs2
      have HB2 := Lib.hid (Below.grown HB.out.drew hg2 HB.out.size (fun j hj => by simp only [Option.some.injEq] at hj; omega))
      clear hs2 hg2
      go_roundw
      case rel => exact ⟨i + 1, by omega, by go_num, Lib.hid (by rw [HTK.out]; exact HS2.out), HP2, HB2⟩
      case measure => (simp [intOf]; try omega)
    have hi1 : (i : Int) > 0 := by omega
    have hi2 : 0 < i := by omega
    obtain ⟨y, hy⟩ : ∃ y, ks[i - 1]? = some y := ⟨ks[i - 1], List.getElem?_eq_getElem (by omega)⟩
    have HHY := Lib.hid (hds_at hy)
    obtain ⟨rb2, off2, pg, va2, ca2, ws2, hbe, -, r1, -, hpg, hpc2, -, -, -, -, -⟩ := kps_at HROW.out HKS.out HB.out hy
    simp only [Option.some.injEq, Addr.mk.injEq, and_true] at hbe
    obtain ⟨rfl, rfl⟩ := hbe
    obtain ⟨-, -, g2, -, -, -⟩ := box6 hpc2
    clear hpc2 hy
    have i1 : IntKind.i64.wrap ((i : Int) - 1) = (i : Int) - 1 := IntWalk.i64_in _ (by omega)
    have i2 : (0 : Int) ≤ (i : Int) - 1 := by omega
    have i7 : (1 : Int) ≤ (i : Int) := by omega
    have i3 : (i : Int) - 1 < (ks.length : Int) := by omega
    have i4 : ((i : Int) - 1).toNat = i - 1 := by omega
    have i5 : i - 1 < ks.length := by omega
    have i6 : ¬ ((i : Int) - 1 < 0) := by omega
    cases hge : decide (y.no ≥ x.no) with
    | true =>
      have hge2 : y.no ≥ x.no := of_decide_eq_true hge
      obtain rfl : r = false := by
        rw [Bool.eq_false_iff, Ne, HR.out]
        exact par_down (i := i - 1) HHY.out (by rw [show i - 1 + 1 = i by omega]; exact HH.out) hge2
      go_wp2_with fail
      refine wp_region_G [] (fun w' => w'.cell? ⟨pb, 1, none⟩ = some (.string x.name) ∧ (Instr.lookup 120 (.map (some w.heap.size)) (.string x.name) false).run Try.prog w' = .ok (.bool false) w' ∧ w'.cell? ⟨b, 5, none⟩ = some (.slice (some ⟨rb, off, none⟩) ks.length c) ∧ w'.cell? ⟨rb, off + (i - 1), none⟩ = some (.pointer (some ⟨pg, 0, none⟩)) ∧ w'.cell? ⟨pg, 2, none⟩ = some (.int .i64 y.no) ∧ w'.cell? ⟨pb, 2, none⟩ = some (.int .i64 x.no)) (by kernel_rfl) ?_ (fun hHeld => ?_)
      · exact ⟨d1, (HDR.out.look x.name hxn).trans (by rw [hin]), t5, r1, g2, d2⟩
      refine wpG_pure (i := 0) (oi := { dst := some 79, op := Go.Op.move (Go.Operand.tmp 3), type := 120, pos := "l2_type.go:76", after := #[], guard := none }) (v := ?vg57) rfl (by kernel_rfl) (fun _ _ _ h => h) (Or.inr hHeld) (Or.inl ⟨by rfl, ?yg57⟩) ?_
      case yg57 => (intro wS _; go_simp <;> with_reducible rfl)
      try simp only [Act.put, List.setIfInBounds_toArray, List.set_cons_zero, List.set_cons_succ]
      refine wpG_pure (i := 1) (oi := { dst := some 80, op := Go.Op.move (Go.Operand.tmp 5), type := 65, pos := "l2_type.go:76", after := #[], guard := none }) (v := ?vg58) rfl (by kernel_rfl) (fun _ _ _ h => h) (Or.inr hHeld) (Or.inl ⟨by rfl, ?yg58⟩) ?_
      case yg58 => (intro wS _; go_simp <;> with_reducible rfl)
      try simp only [Act.put, List.setIfInBounds_toArray, List.set_cons_zero, List.set_cons_succ]
      refine wpG_pure (i := 2) (oi := { dst := some 81, op := Go.Op.nilCheck (Go.Operand.tmp 80), type := 0, pos := "l2_type.go:76", after := #[{ on := 1, ground := Go.Ground.data }], guard := none }) (v := ?vg59) rfl (by kernel_rfl) (fun _ _ _ h => h) (Or.inr hHeld) (Or.inl ⟨by rfl, ?yg59⟩) ?_
      case yg59 => (intro wS _; go_simp <;> with_reducible rfl)
      try simp only [Act.put, List.setIfInBounds_toArray, List.set_cons_zero, List.set_cons_succ]
      refine wpG_pure (i := 3) (oi := { dst := some 82, op := Go.Op.fieldAddr 103 (Go.Operand.tmp 81) 1, type := 0, pos := "l2_type.go:76", after := #[{ on := 2, ground := Go.Ground.data }], guard := none }) (v := ?vg60) rfl (by kernel_rfl) (fun _ _ _ h => h) (Or.inr hHeld) (Or.inl ⟨by rfl, ?yg60⟩) ?_
      case yg60 => (intro wS _; go_simp <;> with_reducible rfl)
      try simp only [Act.put, List.setIfInBounds_toArray, List.set_cons_zero, List.set_cons_succ]
      refine wpG_load (i := 4) (oi := { dst := some 83, op := Go.Op.load 9 (Go.Operand.tmp 82), type := 9, pos := "l2_type.go:76", after := #[{ on := 3, ground := Go.Ground.data }], guard := none }) (v := ?vg61) [] rfl (by kernel_rfl) (fun _ _ _ h => h) hHeld (Or.inl ⟨by rfl, ?yg61⟩) ?_
      case yg61 => (intro wS hSw; (try dsimp only at hSw); go_simp <;> with_reducible rfl)
      try simp only [Act.put, List.setIfInBounds_toArray, List.set_cons_zero, List.set_cons_succ]
      refine wpG_load (i := 5) (oi := { dst := some 84, op := Go.Op.lookup 120 (Go.Operand.tmp 79) (Go.Operand.tmp 83) false, type := 4, pos := "l2_type.go:76", after := #[{ on := 0, ground := Go.Ground.data }, { on := 4, ground := Go.Ground.data }], guard := none }) (v := ?vg62) [] rfl (by kernel_rfl) (fun _ _ _ h => h) hHeld (Or.inl ⟨by rfl, ?yg62⟩) ?_
      case yg62 => (intro wS hSw; (try dsimp only at hSw); go_simp <;> with_reducible rfl)
      try simp only [Act.put, List.setIfInBounds_toArray, List.set_cons_zero, List.set_cons_succ]
      refine wpG_pure (i := 6) (oi := { dst := some 85, op := Go.Op.move (Go.Operand.tmp 84), type := 4, pos := "l2_type.go:76", after := #[{ on := 5, ground := Go.Ground.data }], guard := none }) (v := ?vg63) rfl (by kernel_rfl) (fun _ _ _ h => h) (Or.inr hHeld) (Or.inl ⟨by rfl, ?yg63⟩) ?_
      case yg63 => (intro wS _; go_simp <;> with_reducible rfl)
      try simp only [Act.put, List.setIfInBounds_toArray, List.set_cons_zero, List.set_cons_succ]
      refine wpG_pure (i := 7) (oi := { dst := some 86, op := Go.Op.move (Go.Operand.tmp 4), type := 3, pos := "l2_type.go:76", after := #[{ on := 6, ground := Go.Ground.guard }], guard := some (6, false) }) (v := ?vg64) rfl (by kernel_rfl) (fun _ _ _ h => h) (Or.inr hHeld) (Or.inl ⟨by rfl, ?yg64⟩) ?_
      case yg64 => (intro wS _; go_simp <;> with_reducible rfl)
      try simp only [Act.put, List.setIfInBounds_toArray, List.set_cons_zero, List.set_cons_succ]
      refine wpG_pure (i := 8) (oi := { dst := some 87, op := Go.Op.binOp Go.BinOp.gtr 3 (Go.Operand.tmp 86) (Go.Operand.const (Go.Value.int Go.IntKind.i64 0)) 3, type := 4, pos := "l2_type.go:76", after := #[{ on := 7, ground := Go.Ground.data }, { on := 6, ground := Go.Ground.guard }], guard := some (6, false) }) (v := ?vg65) rfl (by kernel_rfl) (fun _ _ _ h => h) (Or.inr hHeld) (Or.inl ⟨by rfl, ?yg65⟩) ?_
      case yg65 => (intro wS _; go_simp <;> with_reducible rfl)
      try simp only [Act.put, List.setIfInBounds_toArray, List.set_cons_zero, List.set_cons_succ]
      refine wpG_pure (i := 9) (oi := { dst := some 88, op := Go.Op.move (Go.Operand.tmp 87), type := 4, pos := "l2_type.go:76", after := #[{ on := 8, ground := Go.Ground.data }, { on := 6, ground := Go.Ground.chain }, { on := 6, ground := Go.Ground.guard }], guard := some (6, false) }) (v := ?vg66) rfl (by kernel_rfl) (fun _ _ _ h => h) (Or.inr hHeld) (Or.inl ⟨by rfl, ?yg66⟩) ?_
      case yg66 => (intro wS _; go_simp <;> with_reducible rfl)
      try simp only [Act.put, List.setIfInBounds_toArray, List.set_cons_zero, List.set_cons_succ]
      refine wpG_pure (i := 10) (oi := { dst := some 89, op := Go.Op.move (Go.Operand.tmp 0), type := 65, pos := "l2_type.go:76", after := #[{ on := 9, ground := Go.Ground.guard }], guard := some (9, true) }) (v := ?vg67) rfl (by kernel_rfl) (fun _ _ _ h => h) (Or.inr hHeld) (Or.inl ⟨by rfl, ?yg67⟩) ?_
      case yg67 => (intro wS _; go_simp <;> with_reducible rfl)
      try simp only [Act.put, List.setIfInBounds_toArray, List.set_cons_zero, List.set_cons_succ]
      refine wpG_pure (i := 11) (oi := { dst := some 90, op := Go.Op.nilCheck (Go.Operand.tmp 89), type := 0, pos := "l2_type.go:76", after := #[{ on := 10, ground := Go.Ground.data }, { on := 9, ground := Go.Ground.guard }], guard := some (9, true) }) (v := ?vg68) rfl (by kernel_rfl) (fun _ _ _ h => h) (Or.inr hHeld) (Or.inl ⟨by rfl, ?yg68⟩) ?_
      case yg68 => (intro wS _; go_simp <;> with_reducible rfl)
      try simp only [Act.put, List.setIfInBounds_toArray, List.set_cons_zero, List.set_cons_succ]
      refine wpG_pure (i := 12) (oi := { dst := some 91, op := Go.Op.fieldAddr 103 (Go.Operand.tmp 90) 5, type := 0, pos := "l2_type.go:76", after := #[{ on := 11, ground := Go.Ground.data }, { on := 9, ground := Go.Ground.guard }], guard := some (9, true) }) (v := ?vg69) rfl (by kernel_rfl) (fun _ _ _ h => h) (Or.inr hHeld) (Or.inl ⟨by rfl, ?yg69⟩) ?_
      case yg69 => (intro wS _; go_simp <;> with_reducible rfl)
      try simp only [Act.put, List.setIfInBounds_toArray, List.set_cons_zero, List.set_cons_succ]
      refine wpG_load (i := 13) (oi := { dst := some 92, op := Go.Op.load 101 (Go.Operand.tmp 91), type := 101, pos := "l2_type.go:76", after := #[{ on := 12, ground := Go.Ground.data }, { on := 9, ground := Go.Ground.guard }], guard := some (9, true) }) (v := ?vg70) [] rfl (by kernel_rfl) (fun _ _ _ h => h) hHeld (Or.inl ⟨by rfl, ?yg70⟩) ?_
      case yg70 => (intro wS hSw; (try dsimp only at hSw); go_simp <;> with_reducible rfl)
      try simp only [Act.put, List.setIfInBounds_toArray, List.set_cons_zero, List.set_cons_succ]
      refine wpG_pure (i := 14) (oi := { dst := some 93, op := Go.Op.move (Go.Operand.tmp 4), type := 3, pos := "l2_type.go:76", after := #[{ on := 9, ground := Go.Ground.guard }], guard := some (9, true) }) (v := ?vg71) rfl (by kernel_rfl) (fun _ _ _ h => h) (Or.inr hHeld) (Or.inl ⟨by rfl, ?yg71⟩) ?_
      case yg71 => (intro wS _; go_simp <;> with_reducible rfl)
      try simp only [Act.put, List.setIfInBounds_toArray, List.set_cons_zero, List.set_cons_succ]
      refine wpG_pure (i := 15) (oi := { dst := some 94, op := Go.Op.binOp Go.BinOp.sub 3 (Go.Operand.tmp 93) (Go.Operand.const (Go.Value.int Go.IntKind.i64 1)) 3, type := 3, pos := "l2_type.go:76", after := #[{ on := 14, ground := Go.Ground.data }, { on := 9, ground := Go.Ground.guard }], guard := some (9, true) }) (v := ?vg72) rfl (by kernel_rfl) (fun _ _ _ h => h) (Or.inr hHeld) (Or.inl ⟨by rfl, ?yg72⟩) ?_
      case yg72 => (intro wS _; go_simp <;> with_reducible rfl)
      try simp only [Act.put, List.setIfInBounds_toArray, List.set_cons_zero, List.set_cons_succ]
      refine wpG_pure (i := 16) (oi := { dst := some 95, op := Go.Op.indexAddr 101 (Go.Operand.tmp 92) (Go.Operand.tmp 94), type := 0, pos := "l2_type.go:76", after := #[{ on := 13, ground := Go.Ground.data }, { on := 15, ground := Go.Ground.data }, { on := 9, ground := Go.Ground.guard }], guard := some (9, true) }) (v := ?vg73) rfl (by kernel_rfl) (fun _ _ _ h => h) (Or.inr hHeld) (Or.inl ⟨by rfl, ?yg73⟩) ?_
      case yg73 => (intro wS _; go_simp <;> with_reducible rfl)
      try simp only [Act.put, List.setIfInBounds_toArray, List.set_cons_zero, List.set_cons_succ]
      refine wpG_load (i := 17) (oi := { dst := some 96, op := Go.Op.load 65 (Go.Operand.tmp 95), type := 65, pos := "l2_type.go:76", after := #[{ on := 16, ground := Go.Ground.data }, { on := 9, ground := Go.Ground.guard }], guard := some (9, true) }) (v := ?vg74) [] rfl (by kernel_rfl) (fun _ _ _ h => h) hHeld (Or.inl ⟨by rfl, ?yg74⟩) ?_
      case yg74 => (intro wS hSw; (try dsimp only at hSw); go_simp <;> with_reducible rfl)
      try simp only [Act.put, List.setIfInBounds_toArray, List.set_cons_zero, List.set_cons_succ]
      refine wpG_pure (i := 18) (oi := { dst := some 97, op := Go.Op.nilCheck (Go.Operand.tmp 96), type := 0, pos := "l2_type.go:76", after := #[{ on := 17, ground := Go.Ground.data }, { on := 9, ground := Go.Ground.guard }], guard := some (9, true) }) (v := ?vg75) rfl (by kernel_rfl) (fun _ _ _ h => h) (Or.inr hHeld) (Or.inl ⟨by rfl, ?yg75⟩) ?_
      case yg75 => (intro wS _; go_simp <;> with_reducible rfl)
      try simp only [Act.put, List.setIfInBounds_toArray, List.set_cons_zero, List.set_cons_succ]
      refine wpG_pure (i := 19) (oi := { dst := some 98, op := Go.Op.fieldAddr 103 (Go.Operand.tmp 97) 2, type := 0, pos := "l2_type.go:76", after := #[{ on := 18, ground := Go.Ground.data }, { on := 9, ground := Go.Ground.guard }], guard := some (9, true) }) (v := ?vg76) rfl (by kernel_rfl) (fun _ _ _ h => h) (Or.inr hHeld) (Or.inl ⟨by rfl, ?yg76⟩) ?_
      case yg76 => (intro wS _; go_simp <;> with_reducible rfl)
      try simp only [Act.put, List.setIfInBounds_toArray, List.set_cons_zero, List.set_cons_succ]
      refine wpG_load (i := 20) (oi := { dst := some 99, op := Go.Op.load 3 (Go.Operand.tmp 98), type := 3, pos := "l2_type.go:76", after := #[{ on := 19, ground := Go.Ground.data }, { on := 9, ground := Go.Ground.guard }], guard := some (9, true) }) (v := ?vg77) [] rfl (by kernel_rfl) (fun _ _ _ h => h) hHeld (Or.inl ⟨by rfl, ?yg77⟩) ?_
      case yg77 => (intro wS hSw; (try dsimp only at hSw); go_simp <;> with_reducible rfl)
      try simp only [Act.put, List.setIfInBounds_toArray, List.set_cons_zero, List.set_cons_succ]
      refine wpG_pure (i := 21) (oi := { dst := some 100, op := Go.Op.move (Go.Operand.tmp 5), type := 65, pos := "l2_type.go:76", after := #[{ on := 9, ground := Go.Ground.guard }], guard := some (9, true) }) (v := ?vg78) rfl (by kernel_rfl) (fun _ _ _ h => h) (Or.inr hHeld) (Or.inl ⟨by rfl, ?yg78⟩) ?_
      case yg78 => (intro wS _; go_simp <;> with_reducible rfl)
      try simp only [Act.put, List.setIfInBounds_toArray, List.set_cons_zero, List.set_cons_succ]
      refine wpG_pure (i := 22) (oi := { dst := some 101, op := Go.Op.nilCheck (Go.Operand.tmp 100), type := 0, pos := "l2_type.go:76", after := #[{ on := 21, ground := Go.Ground.data }, { on := 9, ground := Go.Ground.guard }], guard := some (9, true) }) (v := ?vg79) rfl (by kernel_rfl) (fun _ _ _ h => h) (Or.inr hHeld) (Or.inl ⟨by rfl, ?yg79⟩) ?_
      case yg79 => (intro wS _; go_simp <;> with_reducible rfl)
      try simp only [Act.put, List.setIfInBounds_toArray, List.set_cons_zero, List.set_cons_succ]
      refine wpG_pure (i := 23) (oi := { dst := some 102, op := Go.Op.fieldAddr 103 (Go.Operand.tmp 101) 2, type := 0, pos := "l2_type.go:76", after := #[{ on := 22, ground := Go.Ground.data }, { on := 9, ground := Go.Ground.guard }], guard := some (9, true) }) (v := ?vg80) rfl (by kernel_rfl) (fun _ _ _ h => h) (Or.inr hHeld) (Or.inl ⟨by rfl, ?yg80⟩) ?_
      case yg80 => (intro wS _; go_simp <;> with_reducible rfl)
      try simp only [Act.put, List.setIfInBounds_toArray, List.set_cons_zero, List.set_cons_succ]
      refine wpG_load (i := 24) (oi := { dst := some 103, op := Go.Op.load 3 (Go.Operand.tmp 102), type := 3, pos := "l2_type.go:76", after := #[{ on := 23, ground := Go.Ground.data }, { on := 9, ground := Go.Ground.guard }], guard := some (9, true) }) (v := ?vg81) [] rfl (by kernel_rfl) (fun _ _ _ h => h) hHeld (Or.inl ⟨by rfl, ?yg81⟩) ?_
      case yg81 => (intro wS hSw; (try dsimp only at hSw); go_simp <;> with_reducible rfl)
      try simp only [Act.put, List.setIfInBounds_toArray, List.set_cons_zero, List.set_cons_succ]
      refine wpG_pure (i := 25) (oi := { dst := some 104, op := Go.Op.binOp Go.BinOp.geq 3 (Go.Operand.tmp 99) (Go.Operand.tmp 103) 3, type := 4, pos := "l2_type.go:76", after := #[{ on := 20, ground := Go.Ground.data }, { on := 24, ground := Go.Ground.data }, { on := 9, ground := Go.Ground.guard }], guard := some (9, true) }) (v := ?vg82) rfl (by kernel_rfl) (fun _ _ _ h => h) (Or.inr hHeld) (Or.inl ⟨by rfl, ?yg82⟩) ?_
      case yg82 => (intro wS _; go_simp <;> with_reducible rfl)
      try simp only [Act.put, List.setIfInBounds_toArray, List.set_cons_zero, List.set_cons_succ]
      refine wpG_pure (i := 26) (oi := { dst := some 105, op := Go.Op.pick (Go.Operand.tmp 88) (Go.Operand.tmp 104) (Go.Operand.const (Go.Value.bool false)), type := 4, pos := "l2_type.go:76", after := #[{ on := 9, ground := Go.Ground.data }, { on := 25, ground := Go.Ground.data }, { on := 6, ground := Go.Ground.guard }], guard := some (6, false) }) (v := ?vg83) rfl (by kernel_rfl) (fun _ _ _ h => h) (Or.inr hHeld) (Or.inl ⟨by rfl, ?yg83⟩) ?_
      case yg83 => (intro wS _; go_simp <;> with_reducible rfl)
      try simp only [Act.put, List.setIfInBounds_toArray, List.set_cons_zero, List.set_cons_succ]
      refine wpG_pure (i := 27) (oi := { dst := some 106, op := Go.Op.pick (Go.Operand.tmp 85) (Go.Operand.const (Go.Value.bool true)) (Go.Operand.tmp 105), type := 4, pos := "l2_type.go:76", after := #[{ on := 6, ground := Go.Ground.data }, { on := 26, ground := Go.Ground.data }], guard := none }) (v := ?vg84) rfl (by kernel_rfl) (fun _ _ _ h => h) (Or.inr hHeld) (Or.inl ⟨by rfl, ?yg84⟩) ?_
      case yg84 => (intro wS _; go_simp <;> with_reducible rfl)
      try simp only [Act.put, List.setIfInBounds_toArray, List.set_cons_zero, List.set_cons_succ]
      refine wpG_done (by kernel_rfl) ?_
      go_wp2_with fail
      go_ret
      exact ⟨rfl, HB.out.drew⟩
    | false =>
      have hge2 : ¬ y.no ≥ x.no := of_decide_eq_false hge
      have HP2 := Lib.hid (par_snoc HP.out HH.out HN.out (fun g _ h => by rw [HHY.out] at h; cases h; show y.no < x.no; omega))
      have HD1 := Lib.hid (show wo.drew.cell? ⟨pb, 1, none⟩ = some (.string x.name) from d1)
      go_wp2_with fail
      refine wp_region_G [] (fun w' => w'.cell? ⟨pb, 1, none⟩ = some (.string x.name) ∧ (Instr.lookup 120 (.map (some w.heap.size)) (.string x.name) false).run Try.prog w' = .ok (.bool false) w' ∧ w'.cell? ⟨b, 5, none⟩ = some (.slice (some ⟨rb, off, none⟩) ks.length c) ∧ w'.cell? ⟨rb, off + (i - 1), none⟩ = some (.pointer (some ⟨pg, 0, none⟩)) ∧ w'.cell? ⟨pg, 2, none⟩ = some (.int .i64 y.no) ∧ w'.cell? ⟨pb, 2, none⟩ = some (.int .i64 x.no)) (by kernel_rfl) ?_ (fun hHeld => ?_)
      · exact ⟨d1, (HDR.out.look x.name hxn).trans (by rw [hin]), t5, r1, g2, d2⟩
      refine wpG_pure (i := 0) (oi := { dst := some 79, op := Go.Op.move (Go.Operand.tmp 3), type := 120, pos := "l2_type.go:76", after := #[], guard := none }) (v := ?vg85) rfl (by kernel_rfl) (fun _ _ _ h => h) (Or.inr hHeld) (Or.inl ⟨by rfl, ?yg85⟩) ?_
      case yg85 => (intro wS _; go_simp <;> with_reducible rfl)
      try simp only [Act.put, List.setIfInBounds_toArray, List.set_cons_zero, List.set_cons_succ]
      refine wpG_pure (i := 1) (oi := { dst := some 80, op := Go.Op.move (Go.Operand.tmp 5), type := 65, pos := "l2_type.go:76", after := #[], guard := none }) (v := ?vg86) rfl (by kernel_rfl) (fun _ _ _ h => h) (Or.inr hHeld) (Or.inl ⟨by rfl, ?yg86⟩) ?_
      case yg86 => (intro wS _; go_simp <;> with_reducible rfl)
      try simp only [Act.put, List.setIfInBounds_toArray, List.set_cons_zero, List.set_cons_succ]
      refine wpG_pure (i := 2) (oi := { dst := some 81, op := Go.Op.nilCheck (Go.Operand.tmp 80), type := 0, pos := "l2_type.go:76", after := #[{ on := 1, ground := Go.Ground.data }], guard := none }) (v := ?vg87) rfl (by kernel_rfl) (fun _ _ _ h => h) (Or.inr hHeld) (Or.inl ⟨by rfl, ?yg87⟩) ?_
      case yg87 => (intro wS _; go_simp <;> with_reducible rfl)
      try simp only [Act.put, List.setIfInBounds_toArray, List.set_cons_zero, List.set_cons_succ]
      refine wpG_pure (i := 3) (oi := { dst := some 82, op := Go.Op.fieldAddr 103 (Go.Operand.tmp 81) 1, type := 0, pos := "l2_type.go:76", after := #[{ on := 2, ground := Go.Ground.data }], guard := none }) (v := ?vg88) rfl (by kernel_rfl) (fun _ _ _ h => h) (Or.inr hHeld) (Or.inl ⟨by rfl, ?yg88⟩) ?_
      case yg88 => (intro wS _; go_simp <;> with_reducible rfl)
      try simp only [Act.put, List.setIfInBounds_toArray, List.set_cons_zero, List.set_cons_succ]
      refine wpG_load (i := 4) (oi := { dst := some 83, op := Go.Op.load 9 (Go.Operand.tmp 82), type := 9, pos := "l2_type.go:76", after := #[{ on := 3, ground := Go.Ground.data }], guard := none }) (v := ?vg89) [] rfl (by kernel_rfl) (fun _ _ _ h => h) hHeld (Or.inl ⟨by rfl, ?yg89⟩) ?_
      case yg89 => (intro wS hSw; (try dsimp only at hSw); go_simp <;> with_reducible rfl)
      try simp only [Act.put, List.setIfInBounds_toArray, List.set_cons_zero, List.set_cons_succ]
      refine wpG_load (i := 5) (oi := { dst := some 84, op := Go.Op.lookup 120 (Go.Operand.tmp 79) (Go.Operand.tmp 83) false, type := 4, pos := "l2_type.go:76", after := #[{ on := 0, ground := Go.Ground.data }, { on := 4, ground := Go.Ground.data }], guard := none }) (v := ?vg90) [] rfl (by kernel_rfl) (fun _ _ _ h => h) hHeld (Or.inl ⟨by rfl, ?yg90⟩) ?_
      case yg90 => (intro wS hSw; (try dsimp only at hSw); go_simp <;> with_reducible rfl)
      try simp only [Act.put, List.setIfInBounds_toArray, List.set_cons_zero, List.set_cons_succ]
      refine wpG_pure (i := 6) (oi := { dst := some 85, op := Go.Op.move (Go.Operand.tmp 84), type := 4, pos := "l2_type.go:76", after := #[{ on := 5, ground := Go.Ground.data }], guard := none }) (v := ?vg91) rfl (by kernel_rfl) (fun _ _ _ h => h) (Or.inr hHeld) (Or.inl ⟨by rfl, ?yg91⟩) ?_
      case yg91 => (intro wS _; go_simp <;> with_reducible rfl)
      try simp only [Act.put, List.setIfInBounds_toArray, List.set_cons_zero, List.set_cons_succ]
      refine wpG_pure (i := 7) (oi := { dst := some 86, op := Go.Op.move (Go.Operand.tmp 4), type := 3, pos := "l2_type.go:76", after := #[{ on := 6, ground := Go.Ground.guard }], guard := some (6, false) }) (v := ?vg92) rfl (by kernel_rfl) (fun _ _ _ h => h) (Or.inr hHeld) (Or.inl ⟨by rfl, ?yg92⟩) ?_
      case yg92 => (intro wS _; go_simp <;> with_reducible rfl)
      try simp only [Act.put, List.setIfInBounds_toArray, List.set_cons_zero, List.set_cons_succ]
      refine wpG_pure (i := 8) (oi := { dst := some 87, op := Go.Op.binOp Go.BinOp.gtr 3 (Go.Operand.tmp 86) (Go.Operand.const (Go.Value.int Go.IntKind.i64 0)) 3, type := 4, pos := "l2_type.go:76", after := #[{ on := 7, ground := Go.Ground.data }, { on := 6, ground := Go.Ground.guard }], guard := some (6, false) }) (v := ?vg93) rfl (by kernel_rfl) (fun _ _ _ h => h) (Or.inr hHeld) (Or.inl ⟨by rfl, ?yg93⟩) ?_
      case yg93 => (intro wS _; go_simp <;> with_reducible rfl)
      try simp only [Act.put, List.setIfInBounds_toArray, List.set_cons_zero, List.set_cons_succ]
      refine wpG_pure (i := 9) (oi := { dst := some 88, op := Go.Op.move (Go.Operand.tmp 87), type := 4, pos := "l2_type.go:76", after := #[{ on := 8, ground := Go.Ground.data }, { on := 6, ground := Go.Ground.chain }, { on := 6, ground := Go.Ground.guard }], guard := some (6, false) }) (v := ?vg94) rfl (by kernel_rfl) (fun _ _ _ h => h) (Or.inr hHeld) (Or.inl ⟨by rfl, ?yg94⟩) ?_
      case yg94 => (intro wS _; go_simp <;> with_reducible rfl)
      try simp only [Act.put, List.setIfInBounds_toArray, List.set_cons_zero, List.set_cons_succ]
      refine wpG_pure (i := 10) (oi := { dst := some 89, op := Go.Op.move (Go.Operand.tmp 0), type := 65, pos := "l2_type.go:76", after := #[{ on := 9, ground := Go.Ground.guard }], guard := some (9, true) }) (v := ?vg95) rfl (by kernel_rfl) (fun _ _ _ h => h) (Or.inr hHeld) (Or.inl ⟨by rfl, ?yg95⟩) ?_
      case yg95 => (intro wS _; go_simp <;> with_reducible rfl)
      try simp only [Act.put, List.setIfInBounds_toArray, List.set_cons_zero, List.set_cons_succ]
      refine wpG_pure (i := 11) (oi := { dst := some 90, op := Go.Op.nilCheck (Go.Operand.tmp 89), type := 0, pos := "l2_type.go:76", after := #[{ on := 10, ground := Go.Ground.data }, { on := 9, ground := Go.Ground.guard }], guard := some (9, true) }) (v := ?vg96) rfl (by kernel_rfl) (fun _ _ _ h => h) (Or.inr hHeld) (Or.inl ⟨by rfl, ?yg96⟩) ?_
      case yg96 => (intro wS _; go_simp <;> with_reducible rfl)
      try simp only [Act.put, List.setIfInBounds_toArray, List.set_cons_zero, List.set_cons_succ]
      refine wpG_pure (i := 12) (oi := { dst := some 91, op := Go.Op.fieldAddr 103 (Go.Operand.tmp 90) 5, type := 0, pos := "l2_type.go:76", after := #[{ on := 11, ground := Go.Ground.data }, { on := 9, ground := Go.Ground.guard }], guard := some (9, true) }) (v := ?vg97) rfl (by kernel_rfl) (fun _ _ _ h => h) (Or.inr hHeld) (Or.inl ⟨by rfl, ?yg97⟩) ?_
      case yg97 => (intro wS _; go_simp <;> with_reducible rfl)
      try simp only [Act.put, List.setIfInBounds_toArray, List.set_cons_zero, List.set_cons_succ]
      refine wpG_load (i := 13) (oi := { dst := some 92, op := Go.Op.load 101 (Go.Operand.tmp 91), type := 101, pos := "l2_type.go:76", after := #[{ on := 12, ground := Go.Ground.data }, { on := 9, ground := Go.Ground.guard }], guard := some (9, true) }) (v := ?vg98) [] rfl (by kernel_rfl) (fun _ _ _ h => h) hHeld (Or.inl ⟨by rfl, ?yg98⟩) ?_
      case yg98 => (intro wS hSw; (try dsimp only at hSw); go_simp <;> with_reducible rfl)
      try simp only [Act.put, List.setIfInBounds_toArray, List.set_cons_zero, List.set_cons_succ]
      refine wpG_pure (i := 14) (oi := { dst := some 93, op := Go.Op.move (Go.Operand.tmp 4), type := 3, pos := "l2_type.go:76", after := #[{ on := 9, ground := Go.Ground.guard }], guard := some (9, true) }) (v := ?vg99) rfl (by kernel_rfl) (fun _ _ _ h => h) (Or.inr hHeld) (Or.inl ⟨by rfl, ?yg99⟩) ?_
      case yg99 => (intro wS _; go_simp <;> with_reducible rfl)
      try simp only [Act.put, List.setIfInBounds_toArray, List.set_cons_zero, List.set_cons_succ]
      refine wpG_pure (i := 15) (oi := { dst := some 94, op := Go.Op.binOp Go.BinOp.sub 3 (Go.Operand.tmp 93) (Go.Operand.const (Go.Value.int Go.IntKind.i64 1)) 3, type := 3, pos := "l2_type.go:76", after := #[{ on := 14, ground := Go.Ground.data }, { on := 9, ground := Go.Ground.guard }], guard := some (9, true) }) (v := ?vg100) rfl (by kernel_rfl) (fun _ _ _ h => h) (Or.inr hHeld) (Or.inl ⟨by rfl, ?yg100⟩) ?_
      case yg100 => (intro wS _; go_simp <;> with_reducible rfl)
      try simp only [Act.put, List.setIfInBounds_toArray, List.set_cons_zero, List.set_cons_succ]
      refine wpG_pure (i := 16) (oi := { dst := some 95, op := Go.Op.indexAddr 101 (Go.Operand.tmp 92) (Go.Operand.tmp 94), type := 0, pos := "l2_type.go:76", after := #[{ on := 13, ground := Go.Ground.data }, { on := 15, ground := Go.Ground.data }, { on := 9, ground := Go.Ground.guard }], guard := some (9, true) }) (v := ?vg101) rfl (by kernel_rfl) (fun _ _ _ h => h) (Or.inr hHeld) (Or.inl ⟨by rfl, ?yg101⟩) ?_
      case yg101 => (intro wS _; go_simp <;> with_reducible rfl)
      try simp only [Act.put, List.setIfInBounds_toArray, List.set_cons_zero, List.set_cons_succ]
      refine wpG_load (i := 17) (oi := { dst := some 96, op := Go.Op.load 65 (Go.Operand.tmp 95), type := 65, pos := "l2_type.go:76", after := #[{ on := 16, ground := Go.Ground.data }, { on := 9, ground := Go.Ground.guard }], guard := some (9, true) }) (v := ?vg102) [] rfl (by kernel_rfl) (fun _ _ _ h => h) hHeld (Or.inl ⟨by rfl, ?yg102⟩) ?_
      case yg102 => (intro wS hSw; (try dsimp only at hSw); go_simp <;> with_reducible rfl)
      try simp only [Act.put, List.setIfInBounds_toArray, List.set_cons_zero, List.set_cons_succ]
      refine wpG_pure (i := 18) (oi := { dst := some 97, op := Go.Op.nilCheck (Go.Operand.tmp 96), type := 0, pos := "l2_type.go:76", after := #[{ on := 17, ground := Go.Ground.data }, { on := 9, ground := Go.Ground.guard }], guard := some (9, true) }) (v := ?vg103) rfl (by kernel_rfl) (fun _ _ _ h => h) (Or.inr hHeld) (Or.inl ⟨by rfl, ?yg103⟩) ?_
      case yg103 => (intro wS _; go_simp <;> with_reducible rfl)
      try simp only [Act.put, List.setIfInBounds_toArray, List.set_cons_zero, List.set_cons_succ]
      refine wpG_pure (i := 19) (oi := { dst := some 98, op := Go.Op.fieldAddr 103 (Go.Operand.tmp 97) 2, type := 0, pos := "l2_type.go:76", after := #[{ on := 18, ground := Go.Ground.data }, { on := 9, ground := Go.Ground.guard }], guard := some (9, true) }) (v := ?vg104) rfl (by kernel_rfl) (fun _ _ _ h => h) (Or.inr hHeld) (Or.inl ⟨by rfl, ?yg104⟩) ?_
      case yg104 => (intro wS _; go_simp <;> with_reducible rfl)
      try simp only [Act.put, List.setIfInBounds_toArray, List.set_cons_zero, List.set_cons_succ]
      refine wpG_load (i := 20) (oi := { dst := some 99, op := Go.Op.load 3 (Go.Operand.tmp 98), type := 3, pos := "l2_type.go:76", after := #[{ on := 19, ground := Go.Ground.data }, { on := 9, ground := Go.Ground.guard }], guard := some (9, true) }) (v := ?vg105) [] rfl (by kernel_rfl) (fun _ _ _ h => h) hHeld (Or.inl ⟨by rfl, ?yg105⟩) ?_
      case yg105 => (intro wS hSw; (try dsimp only at hSw); go_simp <;> with_reducible rfl)
      try simp only [Act.put, List.setIfInBounds_toArray, List.set_cons_zero, List.set_cons_succ]
      refine wpG_pure (i := 21) (oi := { dst := some 100, op := Go.Op.move (Go.Operand.tmp 5), type := 65, pos := "l2_type.go:76", after := #[{ on := 9, ground := Go.Ground.guard }], guard := some (9, true) }) (v := ?vg106) rfl (by kernel_rfl) (fun _ _ _ h => h) (Or.inr hHeld) (Or.inl ⟨by rfl, ?yg106⟩) ?_
      case yg106 => (intro wS _; go_simp <;> with_reducible rfl)
      try simp only [Act.put, List.setIfInBounds_toArray, List.set_cons_zero, List.set_cons_succ]
      refine wpG_pure (i := 22) (oi := { dst := some 101, op := Go.Op.nilCheck (Go.Operand.tmp 100), type := 0, pos := "l2_type.go:76", after := #[{ on := 21, ground := Go.Ground.data }, { on := 9, ground := Go.Ground.guard }], guard := some (9, true) }) (v := ?vg107) rfl (by kernel_rfl) (fun _ _ _ h => h) (Or.inr hHeld) (Or.inl ⟨by rfl, ?yg107⟩) ?_
      case yg107 => (intro wS _; go_simp <;> with_reducible rfl)
      try simp only [Act.put, List.setIfInBounds_toArray, List.set_cons_zero, List.set_cons_succ]
      refine wpG_pure (i := 23) (oi := { dst := some 102, op := Go.Op.fieldAddr 103 (Go.Operand.tmp 101) 2, type := 0, pos := "l2_type.go:76", after := #[{ on := 22, ground := Go.Ground.data }, { on := 9, ground := Go.Ground.guard }], guard := some (9, true) }) (v := ?vg108) rfl (by kernel_rfl) (fun _ _ _ h => h) (Or.inr hHeld) (Or.inl ⟨by rfl, ?yg108⟩) ?_
      case yg108 => (intro wS _; go_simp <;> with_reducible rfl)
      try simp only [Act.put, List.setIfInBounds_toArray, List.set_cons_zero, List.set_cons_succ]
      refine wpG_load (i := 24) (oi := { dst := some 103, op := Go.Op.load 3 (Go.Operand.tmp 102), type := 3, pos := "l2_type.go:76", after := #[{ on := 23, ground := Go.Ground.data }, { on := 9, ground := Go.Ground.guard }], guard := some (9, true) }) (v := ?vg109) [] rfl (by kernel_rfl) (fun _ _ _ h => h) hHeld (Or.inl ⟨by rfl, ?yg109⟩) ?_
      case yg109 => (intro wS hSw; (try dsimp only at hSw); go_simp <;> with_reducible rfl)
      try simp only [Act.put, List.setIfInBounds_toArray, List.set_cons_zero, List.set_cons_succ]
      refine wpG_pure (i := 25) (oi := { dst := some 104, op := Go.Op.binOp Go.BinOp.geq 3 (Go.Operand.tmp 99) (Go.Operand.tmp 103) 3, type := 4, pos := "l2_type.go:76", after := #[{ on := 20, ground := Go.Ground.data }, { on := 24, ground := Go.Ground.data }, { on := 9, ground := Go.Ground.guard }], guard := some (9, true) }) (v := ?vg110) rfl (by kernel_rfl) (fun _ _ _ h => h) (Or.inr hHeld) (Or.inl ⟨by rfl, ?yg110⟩) ?_
      case yg110 => (intro wS _; go_simp <;> with_reducible rfl)
      try simp only [Act.put, List.setIfInBounds_toArray, List.set_cons_zero, List.set_cons_succ]
      refine wpG_pure (i := 26) (oi := { dst := some 105, op := Go.Op.pick (Go.Operand.tmp 88) (Go.Operand.tmp 104) (Go.Operand.const (Go.Value.bool false)), type := 4, pos := "l2_type.go:76", after := #[{ on := 9, ground := Go.Ground.data }, { on := 25, ground := Go.Ground.data }, { on := 6, ground := Go.Ground.guard }], guard := some (6, false) }) (v := ?vg111) rfl (by kernel_rfl) (fun _ _ _ h => h) (Or.inr hHeld) (Or.inl ⟨by rfl, ?yg111⟩) ?_
      case yg111 => (intro wS _; go_simp <;> with_reducible rfl)
      try simp only [Act.put, List.setIfInBounds_toArray, List.set_cons_zero, List.set_cons_succ]
      refine wpG_pure (i := 27) (oi := { dst := some 106, op := Go.Op.pick (Go.Operand.tmp 85) (Go.Operand.const (Go.Value.bool true)) (Go.Operand.tmp 105), type := 4, pos := "l2_type.go:76", after := #[{ on := 6, ground := Go.Ground.data }, { on := 26, ground := Go.Ground.data }], guard := none }) (v := ?vg112) rfl (by kernel_rfl) (fun _ _ _ h => h) (Or.inr hHeld) (Or.inl ⟨by rfl, ?yg112⟩) ?_
      case yg112 => (intro wS _; go_simp <;> with_reducible rfl)
      try simp only [Act.put, List.setIfInBounds_toArray, List.set_cons_zero, List.set_cons_succ]
      refine wpG_done (by kernel_rfl) ?_
      clear d0 d1 d2 d3 d4 d5 t0 t1 t2 t3 t4 t5 r0 lk
      have d1 := HD1.out
      go_wp2_with (at_mapUpdate; refine wpList_setb_put rfl _ _ _ rfl w.heap.size _ rfl HDR.out x.name hxn HLN.out rfl rfl ?_; intro w2 hs2 hg2)
      have HS2 := Lib.hid hs2
      have HB2 := Lib.hid (Below.grown HB.out.drew hg2 HB.out.size (fun j hj => by simp only [Option.some.injEq] at hj; omega))
      clear hs2 hg2
      go_roundw
      case rel => exact ⟨i + 1, by omega, by go_num, Lib.hid (by rw [HTK.out]; exact HS2.out), HP2, HB2⟩
      case measure => (simp [intOf]; try omega)
end Go.Proofs.Ytmlnecopbncdbaa
