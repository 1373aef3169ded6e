/- The contracts of TurnMachine, the program's and the reference's. -/
import Derived.Test.YtedjahinlpehgaaRun
import Derived.Test.YtedjahinlpehgaaOwn
import Derived.Lib.SliceRun
namespace Go.Proofs.Ytedjahinlpehgaa
set_option linter.unusedVariables false
open Go.ChangeShapes Go.WideShapes Go.ChangeAt Go.RowKit
set_option maxRecDepth 100000

theorem int_owl (w : World) : ∀ (xs : List Int), (∀ n ∈ xs, (Lit.int .i64 n).wf = true) → OwL kInt w (xs.map fun _ => []) (xs.map fun n => [Value.int .i64 n]) xs
  | [], _ => trivial
  | x :: xs, h => ⟨⟨rfl, rfl, h x (by simp)⟩, int_owl w xs fun p hp => h p (by simp [hp])⟩
theorem nil_flatten {α : Type} (xs : List α) : (xs.map fun _ => ([] : List Nat)).flatten = [] := by induction xs with
  | nil => rfl
  | cons x r ih => simp [ih]
theorem int_flatten (xs : List Int) : (xs.map fun n => [Value.int .i64 n]).flatten = xs.map (Value.int .i64) := by induction xs with
  | nil => rfl
  | cons x r ih => rw [List.map_cons, List.flatten_cons, ih]; rfl
theorem ints_own {w : World} {base : Nat} {v : Value} {xs : List Int} (h : w.ownsRow base 3 1 v xs.length (xs.map (Value.int .i64))) (hw : ∀ p ∈ xs, (Lit.int .i64 p).wf = true) : kIntS.ow v.ownBlock.toList w [v] xs :=
  ⟨v, _, _, rfl, by rw [int_flatten]; exact own_mono h (Nat.zero_le _), int_owl w xs hw, by rw [nil_flatten, List.append_nil], by cases v.ownBlock <;> simp⟩
theorem ints_rd {w : World} {B : Nat} {a : Option Addr} {n cap : Nat} {xs : List Int} (h : kIntS.rd B w [.slice a n cap] xs) : Rb B w a (xs.map (Value.int .i64)) ∧ ∀ p ∈ xs, (Lit.int .i64 p).wf = true := by
  obtain ⟨a', cap', vss, hc, _, hrow, hl⟩ := h
  simp only [List.cons.injEq, Value.slice.injEq, and_true] at hc
  obtain ⟨rfl, rfl, rfl⟩ := hc
  have hh : ∀ {vs : List (List Value)} {ys : List Int}, RdL kInt B w vs ys → vs.flatten = ys.map (Value.int .i64) ∧ ∀ p ∈ ys, (Lit.int .i64 p).wf = true := by
    intro vs
    induction vs with
    | nil => intro ys h; cases ys with
      | nil => simp
      | cons y ys => exact absurd h (by intro h; exact h)
    | cons v vs ih => intro ys h; cases ys with
      | nil => exact absurd h (by intro h; exact h)
      | cons y ys =>
        obtain ⟨⟨rfl, h2⟩, h3⟩ := h
        obtain ⟨e, f⟩ := ih h3
        rw [List.flatten_cons, e]
        refine ⟨rfl, fun p hp => ?_⟩
        rcases List.mem_cons.1 hp with hp | hp
        · rw [hp]; exact h2
        · exact f p hp
  exact ⟨by rw [← (hh hl).1]; exact hrow, (hh hl).2⟩

theorem news_ints {B : Nat} {w : World} {b off n cap : Nat} {xs : List Int} (h : kIntS.rd B w [.slice (some ⟨b, off, none⟩) n cap] xs) : ∀ (j : Nat) (u : Value), ((xs.map fun n => [Value.int .i64 n]).flatten)[j]? = some u → w.cell? ((⟨b, off, none⟩ : Addr).add j) = some u := by
  rw [int_flatten]
  intro j u hj
  rcases (ints_rd h).1 with h0 | ⟨b', off', hb, _, hc⟩
  · rw [h0] at hj; simp at hj
  · simp only [Option.some.injEq, Addr.mk.injEq, and_true] at hb
    obtain ⟨rfl, rfl⟩ := hb
    have := hc j u hj
    cases j with
    | zero => simpa [Addr.add] using this
    | succ j => simpa [Addr.add] using this
theorem ints_len (xs : List Int) : ((xs.map fun n => [Value.int .i64 n]).flatten).length = xs.length * 1 := by rw [int_flatten]; simp
theorem ints_cell (xs : List Int) : ∀ u ∈ (xs.map fun n => [Value.int .i64 n]).flatten, u.oneCell' = true := by
  rw [int_flatten]; intro u hu; simp only [List.mem_map] at hu; obtain ⟨z, _, rfl⟩ := hu; rfl

set_option maxHeartbeats 1000000 in
theorem clone_ints {a : Option Addr} {n cap : Nat} {xs : List Int} {w : World} (h : kIntS.rd w.heap.size w [.slice a n cap] xs) (hn : n = xs.length) (h1 : 1 ≤ n) (h2 : n ≤ 1048576) :
    Calls Try.prog 48 #[.slice a n cap] w fun e w' => ∃ g cp, e = .returned (.slice (some ⟨g, 0, none⟩) n cp) ∧ kIntS.ow [g] w' [.slice (some ⟨g, 0, none⟩) n cp] xs ∧ w.heap.size ≤ g ∧ Below w.heap.size w w' := by
  obtain ⟨i0, hi, hz0, hz1, hz2⟩ := info_parts Try.infoHIntS
  obtain ⟨hrow, hwf⟩ := ints_rd h
  clear h
  obtain ⟨b, off, rfl, hbl, hcell⟩ : ∃ b off, a = some ⟨b, off, none⟩ ∧ b < w.heap.size ∧ ∀ j u, (xs.map (Value.int .i64))[j]? = some u → w.cell? ⟨b, off + j, none⟩ = some u := by
    rcases hrow with h0 | h0
    · have := congrArg List.length h0; simp at this; rw [this] at hn; simp at hn; omega
    · exact h0
  have HNEWS : Hid (∀ (j : Nat) (u : Value), (xs.map (Value.int .i64))[j]? = some u → (w.alloc (.cells #[] 3)).cell? ((⟨b, off, none⟩ : Addr).add j) = some u) := Lib.hid fun j u hj => by
    have := cell_alloc (.cells #[] 3) (hcell j u hj)
    cases j with
    | zero => simpa [Addr.add] using this
    | succ j => simpa [Addr.add] using this
  have HO : Hid ((w.alloc (.cells #[] 3)).ownsRow w.heap.size 3 1 (.slice (some ⟨w.heap.size, 0, none⟩) 0 0) 0 []) := Lib.hid (World.ownsRow_made _ #[] 0 (Nat.le_refl _) (by unfold maxLen; omega) rfl)
  have HW := Lib.hid hwf
  have HC3 : Hid (0 + n ≤ maxLen) := Lib.hid (by unfold maxLen; omega)
  have HC4 : Hid ((0 + n) * 8 ≤ 140737488355328) := Lib.hid (by omega)
  have HLN : Hid ((xs.map (Value.int .i64)).length = n * 1) := Lib.hid (by simp [hn])
  have HNN := Lib.hid hn
  have qT : ∀ (w : World) (a : Option Addr) (n c n' c' : Nat), (binOp .eql 42 (.slice a n c) (.slice none n' c')).run Try.prog w = .ok (.bool a.isNone) w := fun w a n c n' c' => Lib.run_eql_slice_nil w _ _ a n c n' c' Try.underlying42
  clear hcell hrow hwf hn
  go_enter Try.func48, Try.ntmps48
  go_wp2_with (at_builtin; refine wpList_append_lies _ rfl _ _ 42 rfl w.heap.size 3 i0 (.int .i64 0) 1 8 Try.underlying42 hi hz0 hz1 hz2 rfl (by decide) _ 0 [] rfl HO.out ⟨b, off, none⟩ n cap (xs.map (Value.int .i64)) rfl HLN.out HNEWS.out (by intro u hu; simp only [List.mem_map] at hu; obtain ⟨z, _, rfl⟩ := hu; rfl) h1 HC3.out HC4.out (by simp) (w.heap.size + 1) (by simp) ?_)
  intro g cp w4 hown hgrow hat hlt4
  have HB4 := Lib.hid (Below.grown ((Below.refl w.heap.size w).alloc (Nat.le_refl _) _) hgrow (by simp) (fun j hj => (HO.out.lt j hj).1))
  have HOW := Lib.hid hown; clear hown hgrow hat
  go_wp2_with fail
  go_ret
  have ho := HOW.out
  have hz := (ho.lt g rfl).1
  try simp only [Nat.zero_add, List.nil_append] at ho
  refine ⟨g, cp, by simp, ?_, hz, HB4.out⟩
  rw [HNN.out] at ho
  have := ints_own ho HW.out
  rw [HNN.out]
  exact this

def R_TurnMachine (m : Mach) : Mach × Bool := if R_GoodMachine m = true then ((m.1, m.2.map (!·)), true) else (([], []), false)
theorem none_ow (w : World) : kMachine.ow [] w [.slice none 0 0, .slice none 0 0] ([], []) :=
  ⟨[], [], [.slice none 0 0], [.slice none 0 0], rfl, rfl, (Bd.nil (base := 0) w).ow, (Bd.nil (base := 0) w).ow⟩
theorem R_TurnMachine_ok (m : Mach) (_h : kMachine.wt m ≤ 1048576) : kMachine.cnt (R_TurnMachine m).1 ≤ 16777215 := by
  unfold R_TurnMachine
  split
  · have h1 := kMachine_ok.cwt m
    have e0 : kMachine.s ≤ 8 := by decide
    have e1 : ∀ xs : List Bool, sumL kBool.cnt (xs.map (!·)) = sumL kBool.cnt xs := by
      intro xs; induction xs with
      | nil => rfl
      | cons x r ih => rw [List.map_cons, sumL, sumL, ih]; rfl
    have e2 : kMachine.cnt (m.1, m.2.map (!·)) = kMachine.cnt m := by
      show kIntSS.cnt m.1 + sumL kBool.cnt (m.2.map (!·)) = kIntSS.cnt m.1 + sumL kBool.cnt m.2
      rw [e1]
    show kMachine.cnt (m.1, m.2.map (!·)) ≤ _
    rw [e2]; omega
  · show kMachine.cnt ([], []) ≤ _
    decide

set_option maxHeartbeats 8000000 in
theorem impl_TurnMachine (w : World) (cs0 : List Value) (a0 : Mach) (h0 : kMachine.rd w.heap.size w cs0 a0) (ht : kMachine.wt a0 ≤ 1048576) :
    Calls Try.prog 19 #[.agg cs0.toArray] w (Made kMachine (fun cs => .tuple #[.agg cs.toArray, .bool (R_TurnMachine a0).2]) (R_TurnMachine a0).1 w) := by
  obtain ⟨i1, hi1, hy0, hy1, hy2⟩ := info_parts Try.infoHIntSS
  obtain ⟨i2, hi2, hx0, hx1, hx2⟩ := info_parts Try.infoHBoolS
  obtain ⟨i0, hi, hz0, hz1, hz2⟩ := info_parts Try.infoHIntS
  obtain ⟨ea, ecap, eb, ecap', rfl, hn, he⟩ := Machine_rd h0
  have HG := Lib.hid (fun wx (hb : Below w.heap.size w wx) => impl_GoodMachine wx _ a0 (kMachine_ok.later h0 hb) ht)
  have HN := Lib.hid hn; have HE := Lib.hid he
  have hl1 := (sl_len hn).2; have hl2 := (sl_len he).2
  have HB0 := Lib.hid (box2_start w (.cells #[.slice ea a0.1.length ecap, .slice eb a0.2.length ecap'] 28) (.cells #[.slice none 0 0, .slice none 0 0] 28))
  clear hn he h0
  cases g0 : R_GoodMachine a0 with
  | false =>
    have hR : R_TurnMachine a0 = (([], []), false) := by unfold R_TurnMachine; rw [if_neg (by rw [g0]; simp)]
    rw [hR]; rw [g0] at HG
    clear hR g0
    go_enter Try.func19, Try.ntmps19
    go_wp2_with fail
    refine (HG.out _ (box2_below HB0.out)).mono ?_
    rintro e w1 ⟨rfl, hb⟩
    have HB1 := Lib.hid (box2_step HB0.out hb); clear hb
    have k0 : w1.cell? ⟨w.heap.size + 1, 0, none⟩ = some (.slice none 0 0) := box2_b HB1.out 0
    have k1 : w1.cell? ⟨w.heap.size + 1, 1, none⟩ = some (.slice none 0 0) := box2_b HB1.out 1
    have z0 : w1.frozen? ⟨w.heap.size + 1, 0, none⟩ = false := (HB1.out.frozen (p := ⟨w.heap.size + 1, 0, none⟩) (by simp)).trans (by go_simp)
    have z1 : w1.frozen? ⟨w.heap.size + 1, 1, none⟩ = false := (HB1.out.frozen (p := ⟨w.heap.size + 1, 1, none⟩) (by simp)).trans (by go_simp)
    go_wp2_with fail
    refine bodyPost_ret (v := .tuple #[.agg #[.slice none 0 0, .slice none 0 0], .bool false]) (by simp [results, Try.results19, go_sem, k0, k1]) rfl ⟨[.slice none 0 0, .slice none 0 0], [], rfl, none_ow _, List.nodup_nil, by simp, ?_⟩
    exact ((box2_below HB1.out).setCell (p := ⟨w.heap.size + 1, 0, none⟩) (by show w.heap.size ≤ w.heap.size + 1; omega) _).setCell (p := ⟨w.heap.size + 1, 1, none⟩) (by show w.heap.size ≤ w.heap.size + 1; omega) _
  | true =>
    have hR : R_TurnMachine a0 = ((a0.1, a0.2.map (!·)), true) := by unfold R_TurnMachine; rw [if_pos g0]
    have HM := Lib.hid (good_of g0)
    rw [hR]; rw [g0] at HG
    clear hR g0
    go_enter Try.func19, Try.ntmps19
    go_wp2_with fail
    refine (HG.out _ (box2_below HB0.out)).mono ?_
    rintro e w1 ⟨rfl, hb⟩
    have HB1 := Lib.hid (box2_step HB0.out hb); clear hb
    have ma : w1.cell? ⟨w.heap.size, 0, none⟩ = some (.slice ea a0.1.length ecap) := box2_a HB1.out 0
    have hs1 : w.heap.size + 2 ≤ w1.heap.size := by have := HB1.out.size; simp at this; omega
    have hs2 : w.heap.size < w1.heap.size := by omega
    have HBW1 := Lib.hid (box2_below HB1.out)
    have hn12 := HM.out.n12
    go_wp2_with fail
    go_loopw [15] (fun iv wr => ∃ (i : Nat) (v1 v2 : Value) (fp1 fp2 : List Nat), i ≤ a0.1.length ∧ iv = .int .i64 (i : Int) ∧ Hid (wr.cell? ⟨w1.heap.size, 0, none⟩ = some v1 ∧ wr.cell? ⟨w1.heap.size, 1, none⟩ = some v2 ∧ wr.frozen? ⟨w1.heap.size, 0, none⟩ = false ∧ wr.frozen? ⟨w1.heap.size, 1, none⟩ = false ∧ w1.heap.size < wr.heap.size) ∧ Hid (Bd 42 kIntS (w1.heap.size + 1) fp1 wr v1 (a0.1.take i)) ∧ Hid (Bd 4 kBool (w1.heap.size + 1) fp2 wr v2 ((a0.2.map (!·)).take i)) ∧ Hid (∀ b ∈ fp1, b ∉ fp2) ∧ Hid (Below w1.heap.size w1 wr)) (fun iv _ => a0.1.length - (intOf iv).toNat)
    case atStart => exact ⟨0, _, _, [], [], by omega, rfl, ⟨by go_simp, by go_simp, by go_simp, by go_simp, by simp⟩, Lib.hid (Bd.nil _), Lib.hid (Bd.nil _), Lib.hid (by simp), Lib.hid ((Below.refl _ _).alloc (Nat.le_refl _) _)⟩
    case round =>
      obtain ⟨i, v1, v2, fp1, fp2, hil, rfl, HCL, BD1, BD2, DIS, HBR⟩ := hrel
      obtain ⟨co0, co1, zo0, zo1, hlo⟩ := HCL.out
      have HBW := Lib.hid (HBW1.out.trans (HBR.out.mono (by omega)))
      by_cases hlt : i < a0.1.length
      case neg =>
        obtain rfl : i = a0.1.length := by omega
        have k0 : wr.cell? ⟨w.heap.size + 1, 0, none⟩ = some (.slice none 0 0) := below_later HBR.out (box2_b HB1.out 0)
        have k1 : wr.cell? ⟨w.heap.size + 1, 1, none⟩ = some (.slice none 0 0) := below_later HBR.out (box2_b HB1.out 1)
        have z0 : wr.frozen? ⟨w.heap.size + 1, 0, none⟩ = false := (HBR.out.frozen (p := ⟨w.heap.size + 1, 0, none⟩) (by show w.heap.size + 1 < w1.heap.size; omega)).trans ((HB1.out.frozen (p := ⟨w.heap.size + 1, 0, none⟩) (by simp)).trans (by go_simp))
        have z1 : wr.frozen? ⟨w.heap.size + 1, 1, none⟩ = false := (HBR.out.frozen (p := ⟨w.heap.size + 1, 1, none⟩) (by show w.heap.size + 1 < w1.heap.size; omega)).trans ((HB1.out.frozen (p := ⟨w.heap.size + 1, 1, none⟩) (by simp)).trans (by go_simp))
        have hq1 : a0.1.take a0.1.length = a0.1 := List.take_length
        have hq2 : (a0.2.map (!·)).take a0.1.length = a0.2.map (!·) := by rw [← HM.out.ends, ← List.length_map (f := fun x => !x)]; exact List.take_length
        rw [hq1] at BD1; rw [hq2] at BD2
        obtain ⟨a1, c1, rfl⟩ := BD1.out.form
        obtain ⟨a2, c2, rfl⟩ : ∃ a cap, v2 = .slice a a0.2.length cap := by obtain ⟨a, c, h⟩ := BD2.out.form; exact ⟨a, c, by rw [h, List.length_map]⟩
        clear hq1 hq2
        go_wp2_with fail
        refine bodyPost_ret (v := .tuple #[.agg #[.slice a1 a0.1.length c1, .slice a2 a0.2.length c2], .bool true]) (by simp [results, Try.results19, go_sem, k0, k1]) rfl ?_
        have b1 := BD1.out; have b2 := BD2.out
        have c1' := (b1.setCell kIntS_ok (a := ⟨w.heap.size + 1, 0, none⟩) (by show w.heap.size + 1 < w1.heap.size + 1; omega) (.slice a1 a0.1.length c1)).setCell kIntS_ok (a := ⟨w.heap.size + 1, 1, none⟩) (by show w.heap.size + 1 < w1.heap.size + 1; omega) (.slice a2 a0.2.length c2)
        have c2' := (b2.setCell kBool_ok (a := ⟨w.heap.size + 1, 0, none⟩) (by show w.heap.size + 1 < w1.heap.size + 1; omega) (.slice a1 a0.1.length c1)).setCell kBool_ok (a := ⟨w.heap.size + 1, 1, none⟩) (by show w.heap.size + 1 < w1.heap.size + 1; omega) (.slice a2 a0.2.length c2)
        refine ⟨[.slice a1 a0.1.length c1, .slice a2 a0.2.length c2], fp1 ++ fp2, rfl, ⟨fp1, fp2, [_], [_], rfl, rfl, c1'.ow, c2'.ow⟩, List.nodup_append.2 ⟨b1.nodup, b2.nodup, fun x hx y hy hxy => DIS.out x hx (by rw [hxy]; exact hy)⟩, ?_, ?_⟩
        · intro b hb
          rcases List.mem_append.1 hb with hb | hb
          · have := b1.ge b hb; omega
          · have := b2.ge b hb; omega
        · exact (HBW.out.setCell (p := ⟨w.heap.size + 1, 0, none⟩) (by show w.heap.size ≤ w.heap.size + 1; omega) _).setCell (p := ⟨w.heap.size + 1, 1, none⟩) (by show w.heap.size ≤ w.heap.size + 1; omega) _
      obtain ⟨l, hx⟩ : ∃ x, a0.1[i]? = some x := ⟨a0.1[i], List.getElem?_eq_getElem hlt⟩
      have hlt2 : i < a0.2.length := by have := HM.out.ends; omega
      obtain ⟨y, hy⟩ : ∃ x, a0.2[i]? = some x := ⟨a0.2[i], List.getElem?_eq_getElem hlt2⟩
      have hl3 := (HM.out.row i l hx).1
      obtain ⟨u, b, off, hu, rfl, hbl, hc⟩ := sl_one kIntS_ok rfl HN.out hx
      obtain ⟨al, acap, hu2⟩ := kSl_form hu
      simp only [List.cons.injEq, and_true] at hu2
      subst hu2
      obtain ⟨u2, be, offe, hue, rfl, hble, hce⟩ := sl_one kBool_ok rfl HE.out hy
      obtain ⟨hue, _⟩ := hue
      simp only [List.cons.injEq, and_true] at hue
      subst hue
      have c0 : wr.cell? ⟨b, off + i, none⟩ = some (.slice al l.length acap) := below_cellk HBW.out hc hbl
      have ce : wr.cell? ⟨be, offe + i, none⟩ = some (.bool y) := below_cellk HBW.out hce hble
      have me : wr.cell? ⟨w.heap.size, 1, none⟩ = some (.slice (some ⟨be, offe, none⟩) a0.2.length ecap') := below_later HBR.out (box2_a HB1.out 1)
      have HCL2 := Lib.hid (fun wx (hb : Below w.heap.size w wx) => clone_ints (w := wx) (kIntS_ok.later hu hb) rfl (by omega) (by omega))
      have HU := Lib.hid hu
      have HT1 : Hid (a0.1.take i ++ [l] = a0.1.take (i + 1)) := Lib.hid (take_next a0.1 i l hx).symm
      have HT2 : Hid ((a0.2.map (!·)).take i ++ [!y] = (a0.2.map (!·)).take (i + 1)) := Lib.hid (take_next _ i _ (by simp [hy])).symm
      have HLT1 : Hid ((a0.1.take i).length = i) := Lib.hid (by simp; omega)
      have HLT2 : Hid (((a0.2.map (!·)).take i).length = i) := Lib.hid (by simp; omega)
      have HC3 : Hid (i + 1 ≤ maxLen) := Lib.hid (by unfold maxLen; omega)
      have HC4 : Hid ((i + 1) * 24 ≤ 140737488355328) := Lib.hid (by omega)
      have HC5 : Hid (i + 1 ≤ maxLen) := Lib.hid (by unfold maxLen; omega)
      have HC6 : Hid ((i + 1) * 1 ≤ 140737488355328) := Lib.hid (by omega)
      have HL3 := Lib.hid hl3
      have zi0 : (0 : Int) ≤ (i : Int) := Int.natCast_nonneg _
      have zi1 : (i : Int) < (a0.2.length : Int) := by omega
      clear hc hce hx hy hu hl3
      go_wp2_with fail
      have hb_1 : Below wr.heap.size wr wr.drew := (Below.refl _ _).drew
      have hz_2 : wr.heap.size ≤ wr.heap.size := by have := (hb_1).size; first | omega | (simp at this; omega)
      have c_3 : wr.drew.cell? ⟨w1.heap.size, 0, none⟩ = some (v1) := below_later hb_1 co0
      have c_4 : wr.drew.cell? ⟨w1.heap.size, 1, none⟩ = some (v2) := below_later hb_1 co1
      have z_5 : wr.drew.frozen? ⟨w1.heap.size, 0, none⟩ = false := (Below.frozen hb_1 (p := ⟨w1.heap.size, 0, none⟩) (by show w1.heap.size < _; first | omega | (simp; done) | (simp; omega))).trans zo0
      have z_6 : wr.drew.frozen? ⟨w1.heap.size, 1, none⟩ = false := (Below.frozen hb_1 (p := ⟨w1.heap.size, 1, none⟩) (by show w1.heap.size < _; first | omega | (simp; done) | (simp; omega))).trans zo1
      have c_7 : wr.drew.cell? ⟨w.heap.size, 1, none⟩ = some (.slice (some ⟨be, offe, none⟩) a0.2.length ecap') := below_later hb_1 me
      have c_8 : wr.drew.cell? ⟨be, offe + i, none⟩ = some (.bool y) := below_later hb_1 ce
      have hz_9 : w1.heap.size + 1 ≤ wr.heap.size := Nat.le_trans hlo hz_2
      have BD_10 := Lib.hid (BD1.out.later kIntS_ok hb_1)
      have BD_11 := Lib.hid (BD2.out.later kBool_ok hb_1)
      have BL_12 := Lib.hid (Below.trans HBR.out (Below.mono hb_1 (by have := (HBR.out).size; first | omega | (simp at this; omega) | (simp at this ⊢; omega))))
      have BL_13 := Lib.hid (Below.trans HBW.out (Below.mono hb_1 (by have := (HBW.out).size; first | omega | (simp at this; omega) | (simp at this ⊢; omega))))
      clear hb_1
      refine wp_region_G [15] (fun w' => w'.cell? ⟨w1.heap.size, 0, none⟩ = some (v1) ∧ w'.cell? ⟨w1.heap.size, 1, none⟩ = some (v2) ∧ w'.cell? ⟨w.heap.size, 1, none⟩ = some (.slice (some ⟨be, offe, none⟩) a0.2.length ecap') ∧ w'.cell? ⟨be, offe + i, none⟩ = some (.bool y)) (by kernel_rfl) ?_ (fun hHeld => ?_)
      · exact ⟨c_3, c_4, c_7, c_8⟩
      refine wpG_pure (i := 0) (oi := { dst := some 20, op := Go.Op.fieldAddr 28 (Go.Operand.tmp 4) 0, type := 0, pos := "l12_machine.go:198", after := #[], guard := none }) (v := ?vg1) rfl (by kernel_rfl) (fun _ _ _ h => h) (Or.inr hHeld) (Or.inl ⟨by rfl, ?yg1⟩) ?_
      case yg1 => (intro wS _; go_simp <;> with_reducible rfl)
      try simp only [Act.put, List.setIfInBounds_toArray, List.set_cons_zero, List.set_cons_succ]
      refine wpG_load (i := 1) (oi := { dst := some 21, op := Go.Op.load 22 (Go.Operand.tmp 20), type := 22, pos := "l12_machine.go:198", after := #[{ on := 0, ground := Go.Ground.data }], guard := none }) (v := ?vg2) [[15, 5, 1]] rfl (by kernel_rfl) (fun _ _ _ h => h) hHeld (Or.inl ⟨by rfl, ?yg2⟩) ?_
      case yg2 => (intro wS hSw; (try dsimp only at hSw); go_simp <;> with_reducible rfl)
      try simp only [Act.put, List.setIfInBounds_toArray, List.set_cons_zero, List.set_cons_succ]
      refine wpG_pure (i := 2) (oi := { dst := some 22, op := Go.Op.move (Go.Operand.tmp 6), type := 42, pos := "l12_machine.go:198", after := #[], guard := none }) (v := ?vg3) rfl (by kernel_rfl) (fun _ _ _ h => h) (Or.inr hHeld) (Or.inl ⟨by rfl, ?yg3⟩) ?_
      case yg3 => (intro wS _; go_simp <;> with_reducible rfl)
      try simp only [Act.put, List.setIfInBounds_toArray, List.set_cons_zero, List.set_cons_succ]
      refine wpG_pure (i := 6) (oi := { dst := some 26, op := Go.Op.fieldAddr 28 (Go.Operand.tmp 4) 1, type := 0, pos := "l12_machine.go:198", after := #[], guard := none }) (v := ?vg4) rfl (by kernel_rfl) (fun _ _ _ h => h) (Or.inr hHeld) (Or.inl ⟨by rfl, ?yg4⟩) ?_
      case yg4 => (intro wS _; go_simp <;> with_reducible rfl)
      try simp only [Act.put, List.setIfInBounds_toArray, List.set_cons_zero, List.set_cons_succ]
      refine wpG_load (i := 7) (oi := { dst := some 27, op := Go.Op.load 23 (Go.Operand.tmp 26), type := 23, pos := "l12_machine.go:198", after := #[{ on := 6, ground := Go.Ground.data }], guard := none }) (v := ?vg5) [[15, 7]] rfl (by kernel_rfl) (fun _ _ _ h => h) hHeld (Or.inl ⟨by rfl, ?yg5⟩) ?_
      case yg5 => (intro wS hSw; (try dsimp only at hSw); go_simp <;> with_reducible rfl)
      try simp only [Act.put, List.setIfInBounds_toArray, List.set_cons_zero, List.set_cons_succ]
      refine wpG_pure (i := 8) (oi := { dst := some 28, op := Go.Op.fieldAddr 28 (Go.Operand.tmp 1) 1, type := 0, pos := "l12_machine.go:198", after := #[], guard := none }) (v := ?vg6) rfl (by kernel_rfl) (fun _ _ _ h => h) (Or.inr hHeld) (Or.inl ⟨by rfl, ?yg6⟩) ?_
      case yg6 => (intro wS _; go_simp <;> with_reducible rfl)
      try simp only [Act.put, List.setIfInBounds_toArray, List.set_cons_zero, List.set_cons_succ]
      refine wpG_load (i := 9) (oi := { dst := some 29, op := Go.Op.load 23 (Go.Operand.tmp 28), type := 23, pos := "l12_machine.go:198", after := #[{ on := 8, ground := Go.Ground.data }], guard := none }) (v := ?vg7) [[15, 14, 13, 12, 11, 9]] rfl (by kernel_rfl) (fun _ _ _ h => h) hHeld (Or.inl ⟨by rfl, ?yg7⟩) ?_
      case yg7 => (intro wS hSw; (try dsimp only at hSw); go_simp <;> with_reducible rfl)
      try simp only [Act.put, List.setIfInBounds_toArray, List.set_cons_zero, List.set_cons_succ]
      refine wpG_pure (i := 10) (oi := { dst := some 30, op := Go.Op.move (Go.Operand.tmp 5), type := 3, pos := "l12_machine.go:198", after := #[], guard := none }) (v := ?vg8) rfl (by kernel_rfl) (fun _ _ _ h => h) (Or.inr hHeld) (Or.inl ⟨by rfl, ?yg8⟩) ?_
      case yg8 => (intro wS _; go_simp <;> with_reducible rfl)
      try simp only [Act.put, List.setIfInBounds_toArray, List.set_cons_zero, List.set_cons_succ]
      refine wpG_pure (i := 11) (oi := { dst := some 31, op := Go.Op.indexAddr 23 (Go.Operand.tmp 29) (Go.Operand.tmp 30), type := 0, pos := "l12_machine.go:198", after := #[{ on := 9, ground := Go.Ground.data }, { on := 10, ground := Go.Ground.data }], guard := none }) (v := ?vg9) rfl (by kernel_rfl) (fun _ _ _ h => h) (Or.inr hHeld) (Or.inl ⟨by rfl, ?yg9⟩) ?_
      case yg9 => (intro wS _; go_simp <;> with_reducible rfl)
      try simp only [Act.put, List.setIfInBounds_toArray, List.set_cons_zero, List.set_cons_succ]
      refine wpG_load (i := 12) (oi := { dst := some 32, op := Go.Op.load 4 (Go.Operand.tmp 31), type := 4, pos := "l12_machine.go:198", after := #[{ on := 11, ground := Go.Ground.data }], guard := none }) (v := ?vg10) [[15, 14, 13, 12]] rfl (by kernel_rfl) (fun _ _ _ h => h) hHeld (Or.inl ⟨by rfl, ?yg10⟩) ?_
      case yg10 => (intro wS hSw; (try dsimp only at hSw); go_simp <;> with_reducible rfl)
      try simp only [Act.put, List.setIfInBounds_toArray, List.set_cons_zero, List.set_cons_succ]
      refine wpG_pure (i := 13) (oi := { dst := some 33, op := Go.Op.unOp Go.UnOp.not 4 (Go.Operand.tmp 32), type := 4, pos := "l12_machine.go:198", after := #[{ on := 12, ground := Go.Ground.data }], guard := none }) (v := ?vg11) rfl (by kernel_rfl) (fun _ _ _ h => h) (Or.inr hHeld) (Or.inl ⟨by rfl, ?yg11⟩) ?_
      case yg11 => (intro wS _; go_simp <;> with_reducible rfl)
      try simp only [Act.put, List.setIfInBounds_toArray, List.set_cons_zero, List.set_cons_succ]
      refine wpG_two (i := 3) (j := 14) (o := { dst := some 23, op := Go.Op.call { callee := Go.Callee.value (Go.Operand.func 48), args := #[Go.Operand.tmp 22], argTypes := #[42] }, type := 42, pos := "l12_machine.go:198", after := #[{ on := 2, ground := Go.Ground.data }], guard := none }) (o' := { dst := some 34, op := Go.Op.buildSlice 23 1 #[(0, Go.Operand.tmp 33)], type := 23, pos := "l12_machine.go:198", after := #[{ on := 13, ground := Go.Ground.data }], guard := none }) rfl rfl (by kernel_rfl) (fun K hK => ?_) (fun K hK => ?_)
      · skip
        go_simp
        refine (HCL2.out _ BL_13.out).mono ?_
        rintro e w5 ⟨gq, cq, rfl, hoq, hgq, hb5⟩
        have hgeq : ∀ b ∈ [gq], wr.heap.size ≤ b := fun b hb => by rw [List.mem_singleton] at hb; subst hb; first | exact hgq | (simp at hgq; omega)
        have LT_14 : Hid (∀ b ∈ fp1, b < wr.heap.size) := Lib.hid (fun b hm => by have := (BD_10.out.lt kIntS_ok b hm); first | exact this | omega | (simp at this; omega))
        have LT_15 : Hid (∀ b ∈ fp2, b < wr.heap.size) := Lib.hid (fun b hm => by have := (BD_11.out.lt kBool_ok b hm); first | exact this | omega | (simp at this; omega))
        have hb_16 : Below wr.drew.heap.size wr.drew w5 := hb5
        have hz_17 : wr.heap.size ≤ w5.heap.size := by have := (hb_16).size; first | omega | (simp at this; omega)
        have c_18 : w5.cell? ⟨w1.heap.size, 0, none⟩ = some (v1) := below_later hb_16 c_3; clear c_3
        have c_19 : w5.cell? ⟨w1.heap.size, 1, none⟩ = some (v2) := below_later hb_16 c_4; clear c_4
        have z_20 : w5.frozen? ⟨w1.heap.size, 0, none⟩ = false := (Below.frozen hb_16 (p := ⟨w1.heap.size, 0, none⟩) (by show w1.heap.size < _; first | omega | (simp; done) | (simp; omega))).trans z_5
        have z_21 : w5.frozen? ⟨w1.heap.size, 1, none⟩ = false := (Below.frozen hb_16 (p := ⟨w1.heap.size, 1, none⟩) (by show w1.heap.size < _; first | omega | (simp; done) | (simp; omega))).trans z_6
        have c_22 : w5.cell? ⟨w.heap.size, 1, none⟩ = some (.slice (some ⟨be, offe, none⟩) a0.2.length ecap') := below_later hb_16 c_7; clear c_7
        have c_23 : w5.cell? ⟨be, offe + i, none⟩ = some (.bool y) := below_later hb_16 c_8; clear c_8
        have hz_24 : w1.heap.size + 1 ≤ w5.heap.size := Nat.le_trans hz_9 hz_17
        have BD_25 := Lib.hid (BD_10.out.later kIntS_ok hb_16)
        have BD_26 := Lib.hid (BD_11.out.later kBool_ok hb_16)
        have BL_27 := Lib.hid (Below.trans BL_12.out (Below.mono hb_16 (by have := (BL_12.out).size; first | omega | (simp at this; omega) | (simp at this ⊢; omega))))
        have BL_28 := Lib.hid (Below.trans BL_13.out (Below.mono hb_16 (by have := (BL_13.out).size; first | omega | (simp at this; omega) | (simp at this ⊢; omega))))
        clear hb_16
        have OW_29 := Lib.hid hoq
        have ND_30 : Hid (∀ b ∈ [gq], b ∉ fp1) := Lib.hid (by intro b hb hm; have := hgeq b hb; have := LT_14.out b hm; first | omega | (simp at this; omega))
        have ND_31 : Hid (∀ b ∈ [gq], b ∉ fp2) := Lib.hid (by intro b hb hm; have := hgeq b hb; have := LT_15.out b hm; first | omega | (simp at this; omega))
        refine hK.out _ _ (Or.inr ?khHeld12) (fun hHeld12S => ?_)
        case khHeld12 => exact ⟨c_18, c_19, c_22, c_23⟩
        have hHeld12 := hHeld12S.held (by kernel_rfl)
        clear hK K
        try simp only [Act.put, List.setIfInBounds_toArray, List.set_cons_zero, List.set_cons_succ]
        refine wpG_two (i := 4) (j := 14) (o := { dst := some 24, op := Go.Op.buildSlice 22 1 #[(0, Go.Operand.tmp 23)], type := 22, pos := "l12_machine.go:198", after := #[{ on := 3, ground := Go.Ground.data }], guard := none }) (o' := { dst := some 34, op := Go.Op.buildSlice 23 1 #[(0, Go.Operand.tmp 33)], type := 23, pos := "l12_machine.go:198", after := #[{ on := 13, ground := Go.Ground.data }], guard := none }) rfl rfl (by kernel_rfl) (fun K hK => ?_) (fun K hK => ?_)
        · skip
          go_simp
          have LT_32 : Hid (∀ b ∈ fp1, b < w5.heap.size) := Lib.hid (fun b hm => by have := (BD_25.out.lt kIntS_ok b hm); first | exact this | omega | (simp at this; omega))
          have LT_33 : Hid (∀ b ∈ fp2, b < w5.heap.size) := Lib.hid (fun b hm => by have := (BD_26.out.lt kBool_ok b hm); first | exact this | omega | (simp at this; omega))
          have LT_34 : Hid (∀ b ∈ [gq], b < w5.heap.size) := Lib.hid (fun b hm => by have := (kIntS_ok.olt OW_29.out b hm); first | exact this | omega | (simp at this; omega))
          have hb_35 : Below w5.heap.size w5 (w5.alloc (.cells #[.slice (some ⟨gq, 0, none⟩) l.length cq] 42)) := (Below.refl _ _).alloc (Nat.le_refl _) _
          have hz_36 : w5.heap.size ≤ w5.heap.size + 1 := by have := (hb_35).size; first | omega | (simp at this; omega)
          have c_37 : (w5.alloc (.cells #[.slice (some ⟨gq, 0, none⟩) l.length cq] 42)).cell? ⟨w1.heap.size, 0, none⟩ = some (v1) := below_later hb_35 c_18; clear c_18
          have c_38 : (w5.alloc (.cells #[.slice (some ⟨gq, 0, none⟩) l.length cq] 42)).cell? ⟨w1.heap.size, 1, none⟩ = some (v2) := below_later hb_35 c_19; clear c_19
          have z_39 : (w5.alloc (.cells #[.slice (some ⟨gq, 0, none⟩) l.length cq] 42)).frozen? ⟨w1.heap.size, 0, none⟩ = false := (Below.frozen hb_35 (p := ⟨w1.heap.size, 0, none⟩) (by show w1.heap.size < _; first | omega | (simp; done) | (simp; omega))).trans z_20
          have z_40 : (w5.alloc (.cells #[.slice (some ⟨gq, 0, none⟩) l.length cq] 42)).frozen? ⟨w1.heap.size, 1, none⟩ = false := (Below.frozen hb_35 (p := ⟨w1.heap.size, 1, none⟩) (by show w1.heap.size < _; first | omega | (simp; done) | (simp; omega))).trans z_21
          have c_41 : (w5.alloc (.cells #[.slice (some ⟨gq, 0, none⟩) l.length cq] 42)).cell? ⟨w.heap.size, 1, none⟩ = some (.slice (some ⟨be, offe, none⟩) a0.2.length ecap') := below_later hb_35 c_22; clear c_22
          have c_42 : (w5.alloc (.cells #[.slice (some ⟨gq, 0, none⟩) l.length cq] 42)).cell? ⟨be, offe + i, none⟩ = some (.bool y) := below_later hb_35 c_23; clear c_23
          have hz_43 : w1.heap.size + 1 ≤ w5.heap.size + 1 := Nat.le_trans hz_24 hz_36
          have BD_44 := Lib.hid (BD_25.out.later kIntS_ok hb_35)
          have BD_45 := Lib.hid (BD_26.out.later kBool_ok hb_35)
          have BL_46 := Lib.hid (Below.trans BL_27.out (Below.mono hb_35 (by have := (BL_27.out).size; first | omega | (simp at this; omega) | (simp at this ⊢; omega))))
          have BL_47 := Lib.hid (Below.trans BL_28.out (Below.mono hb_35 (by have := (BL_28.out).size; first | omega | (simp at this; omega) | (simp at this ⊢; omega))))
          have OW_48 := Lib.hid (kIntS_ok.oframe OW_29.out (w' := (w5.alloc (.cells #[.slice (some ⟨gq, 0, none⟩) l.length cq] 42))) fun b hm => (hb_35).block b (kIntS_ok.olt OW_29.out b hm))
          clear hb_35
          have c_49 : (w5.alloc (.cells #[.slice (some ⟨gq, 0, none⟩) l.length cq] 42)).cell? ⟨w5.heap.size, 0, none⟩ = some (.slice (some ⟨gq, 0, none⟩) l.length cq) := by go_simp
          have z_50 : (w5.alloc (.cells #[.slice (some ⟨gq, 0, none⟩) l.length cq] 42)).frozen? ⟨w5.heap.size, 0, none⟩ = false := by go_simp
          have hz_51 : w5.heap.size < w5.heap.size + 1 := by omega
          have ND_52 : Hid (∀ b ∈ [w5.heap.size], b ∉ fp1) := Lib.hid (by intro b hb hm; simp only [List.mem_singleton] at hb; subst hb; have := (LT_32.out _ hm); first | omega | (simp at this; omega))
          have ND_53 : Hid (∀ b ∈ [w5.heap.size], b ∉ fp2) := Lib.hid (by intro b hb hm; simp only [List.mem_singleton] at hb; subst hb; have := (LT_33.out _ hm); first | omega | (simp at this; omega))
          have ND_54 : Hid (∀ b ∈ [w5.heap.size], b ∉ [gq]) := Lib.hid (by intro b hb hm; simp only [List.mem_singleton] at hb; subst hb; have := (LT_34.out _ hm); first | omega | (simp at this; omega))
          refine hK.out _ _ (Or.inr ?khHeld13) (fun hHeld13S => ?_)
          case khHeld13 => exact ⟨c_37, c_38, c_41, c_42⟩
          have hHeld13 := hHeld13S.held (by kernel_rfl)
          clear hK K
          try simp only [Act.put, List.setIfInBounds_toArray, List.set_cons_zero, List.set_cons_succ]
          refine wpG_two (i := 5) (j := 14) (o := { dst := some 25, op := Go.Op.call { callee := Go.Callee.builtin Go.Builtin.append, args := #[Go.Operand.tmp 21, Go.Operand.tmp 24], argTypes := #[22, 22] }, type := 22, pos := "l12_machine.go:198", after := #[{ on := 1, ground := Go.Ground.data }, { on := 4, ground := Go.Ground.data }, { on := 3, ground := Go.Ground.chain }], guard := none }) (o' := { dst := some 34, op := Go.Op.buildSlice 23 1 #[(0, Go.Operand.tmp 33)], type := 23, pos := "l12_machine.go:198", after := #[{ on := 13, ground := Go.Ground.data }], guard := none }) rfl rfl (by kernel_rfl) (fun K hK => ?_) (fun K hK => ?_)
          · skip
            obtain ⟨vss_55, fps_55, hrow, howl, hfp, hnd, hge⟩ := BD_44.out
            rw [HLT1.out] at hrow
            have ROW_55 := Lib.hid hrow; have OWL_55 := Lib.hid howl; have NDU_55 := Lib.hid (hfp ▸ hnd); have GE_55 := Lib.hid (fun b hb => hge b (hfp ▸ hb)); have FPE_55 := Lib.hid hfp; clear hrow howl hnd hge hfp
            refine step_append_lies _ rfl (.tmp 21) (.tmp 24) 22 rfl (w1.heap.size + 1) 42 i1 (.slice none 0 0) 1 24 Try.underlying22 hi1 hy0 hy1 hy2 rfl (by decide) v1 i vss_55.flatten rfl ROW_55.out ⟨w5.heap.size, 0, none⟩ 1 1 [.slice (some ⟨gq, 0, none⟩) l.length cq] rfl rfl (news_at c_49) (by simp [Value.oneCell']) (by omega) HC3.out HC4.out (by first | omega | (simp; omega)) _ rfl ?_
            intro g7 cp7 w7 hown hgrow hat hlt4
            have HG_56 := Lib.hid hgrow; have HATHG_56 := Lib.hid hat; have HONHG_56 := Lib.hid hown
            clear hgrow hat hown
            have hz_57 : w5.heap.size + 1 ≤ w7.heap.size := by have := HG_56.out.size; first | omega | (simp at this; omega)
            have LT_58 : Hid (∀ b ∈ fp1, b < w5.heap.size + 1) := Lib.hid (fun b hm => by have := (BD_44.out.lt kIntS_ok b hm); first | exact this | omega | (simp at this; omega))
            have LT_59 : Hid (∀ b ∈ fp2, b < w5.heap.size + 1) := Lib.hid (fun b hm => by have := (BD_45.out.lt kBool_ok b hm); first | exact this | omega | (simp at this; omega))
            have LT_60 : Hid (∀ b ∈ [gq], b < w5.heap.size + 1) := Lib.hid (fun b hm => by have := (kIntS_ok.olt OW_48.out b hm); first | exact this | omega | (simp at this; omega))
            have BD_61 := Lib.hid (Bd.app HLT1.out kIntS_ok ROW_55.out OWL_55.out NDU_55.out GE_55.out OW_48.out (by simp) (fun b hb hm => ND_30.out b hb (FPE_55.out ▸ hm)) (fun b hb => by have := hgeq b hb; omega) HONHG_56.out HG_56.out HATHG_56.out (by first | omega | (simp; done) | (simp; omega)))
            have c_62 : w7.cell? ⟨w1.heap.size, 0, none⟩ = some (v1) := BD_44.out.cell_grown HG_56.out c_37 (by first | omega | (simp; done) | (simp; omega))
            have c_63 : w7.cell? ⟨w1.heap.size, 1, none⟩ = some (v2) := BD_44.out.cell_grown HG_56.out c_38 (by first | omega | (simp; done) | (simp; omega))
            have z_64 : w7.frozen? ⟨w1.heap.size, 0, none⟩ = false := BD_44.out.frozen_grown HG_56.out (by first | omega | (simp; done) | (simp; omega)) z_39 (by first | omega | (simp; done) | (simp; omega))
            have z_65 : w7.frozen? ⟨w1.heap.size, 1, none⟩ = false := BD_44.out.frozen_grown HG_56.out (by first | omega | (simp; done) | (simp; omega)) z_40 (by first | omega | (simp; done) | (simp; omega))
            have c_66 : w7.cell? ⟨w.heap.size, 1, none⟩ = some (.slice (some ⟨be, offe, none⟩) a0.2.length ecap') := BD_44.out.cell_grown HG_56.out c_41 (by first | omega | (simp; done) | (simp; omega))
            have c_67 : w7.cell? ⟨be, offe + i, none⟩ = some (.bool y) := BD_44.out.cell_grown HG_56.out c_42 (by first | omega | (simp; done) | (simp; omega))
            have hz_68 : w1.heap.size + 1 ≤ w7.heap.size := Nat.le_trans hz_43 hz_57
            have BD_69 := Lib.hid (BD_45.out.grown kBool_ok HG_56.out (fun k hk hm => DIS.out k (BD_44.out.own_mem k hk) hm))
            have ND_70 : Hid (∀ b ∈ (g7 :: (fps_55.flatten ++ [gq])), b ∉ fp2) := Lib.hid (fun b hm hs => (app_in HATHG_56.out hm).elim (fun h => DIS.out b (FPE_55.out ▸ h) hs) (fun h => h.elim (fun h => by exact ND_31.out b h hs) (fun h => by have := LT_59.out b hs; first | omega | (simp at h; omega))))
            have BL_71 := Lib.hid (Below.grown BL_46.out HG_56.out (by have := (BL_46.out).size; first | omega | (simp at this; omega) | (simp at this ⊢; omega)) (fun k hk => Nat.le_trans (by first | omega | (simp; done) | (simp; omega)) (BD_44.out.own_ge k hk)))
            have BL_72 := Lib.hid (Below.grown BL_47.out HG_56.out (by have := (BL_47.out).size; first | omega | (simp at this; omega) | (simp at this ⊢; omega)) (fun k hk => Nat.le_trans (by first | omega | (simp; done) | (simp; omega)) (BD_44.out.own_ge k hk)))
            have c_73 : w7.cell? ⟨w5.heap.size, 0, none⟩ = some (.slice (some ⟨gq, 0, none⟩) l.length cq) := (HG_56.out.cell_far ⟨w5.heap.size, 0, none⟩ (World.block_lt_of_cell? _ _ c_49) (fun he => ND_52.out _ (by simp) (BD_44.out.own_mem _ he.symm))).trans c_49
            have z_74 : w7.frozen? ⟨w5.heap.size, 0, none⟩ = false := (HG_56.out.frozen_far ⟨w5.heap.size, 0, none⟩ (by first | omega | (simp; done) | (simp; omega)) (fun he => ND_52.out _ (by simp) (BD_44.out.own_mem _ he.symm))).trans z_50
            have hz_75 : w5.heap.size + 1 ≤ w7.heap.size := Nat.le_trans hz_51 hz_57
            refine hK.out _ _ (Or.inr ?khHeld14) (fun hHeld14S => ?_)
            case khHeld14 => exact ⟨c_62, c_63, c_66, c_67⟩
            have hHeld14 := hHeld14S.held (by kernel_rfl)
            clear hK K
            try simp only [Act.put, List.setIfInBounds_toArray, List.set_cons_zero, List.set_cons_succ]
            refine wpG_pure (i := 16) (oi := { dst := some 36, op := Go.Op.fieldAddr 28 (Go.Operand.tmp 4) 0, type := 0, pos := "l12_machine.go:198", after := #[{ on := 0, ground := Go.Ground.phase }, { on := 1, ground := Go.Ground.phase }, { on := 2, ground := Go.Ground.phase }, { on := 3, ground := Go.Ground.phase }, { on := 4, ground := Go.Ground.phase }, { on := 5, ground := Go.Ground.phase }, { on := 6, ground := Go.Ground.phase }, { on := 7, ground := Go.Ground.phase }, { on := 8, ground := Go.Ground.textOnly Go.Departure.lateStores }, { on := 9, ground := Go.Ground.textOnly Go.Departure.lateStores }, { on := 10, ground := Go.Ground.textOnly Go.Departure.lateStores }, { on := 11, ground := Go.Ground.textOnly Go.Departure.lateStores }, { on := 12, ground := Go.Ground.textOnly Go.Departure.lateStores }, { on := 13, ground := Go.Ground.textOnly Go.Departure.lateStores }, { on := 14, ground := Go.Ground.textOnly Go.Departure.lateStores }, { on := 15, ground := Go.Ground.textOnly Go.Departure.lateStoresUnsure }], guard := none }) (v := ?vg15) rfl (by kernel_rfl) (fun _ _ _ h => h) (Or.inr hHeld14) (Or.inl ⟨by rfl, ?yg15⟩) ?_
            case yg15 => (intro wS _; go_simp <;> with_reducible rfl)
            try simp only [Act.put, List.setIfInBounds_toArray, List.set_cons_zero, List.set_cons_succ]
            refine wpG_one (i := 14) (o := { dst := some 34, op := Go.Op.buildSlice 23 1 #[(0, Go.Operand.tmp 33)], type := 23, pos := "l12_machine.go:198", after := #[{ on := 13, ground := Go.Ground.data }], guard := none }) rfl (by kernel_rfl) (fun K hK => ?_)
            go_simp
            have LT_76 : Hid (∀ b ∈ (g7 :: (fps_55.flatten ++ [gq])), b < w7.heap.size) := Lib.hid (fun b hm => by have := (BD_61.out.lt kIntS_ok b hm); first | exact this | omega | (simp at this; omega))
            have LT_77 : Hid (∀ b ∈ fp2, b < w7.heap.size) := Lib.hid (fun b hm => by have := (BD_69.out.lt kBool_ok b hm); first | exact this | omega | (simp at this; omega))
            have hb_78 : Below w7.heap.size w7 (w7.alloc (.cells #[.bool (!y)] 4)) := (Below.refl _ _).alloc (Nat.le_refl _) _
            have hz_79 : w7.heap.size ≤ w7.heap.size + 1 := by have := (hb_78).size; first | omega | (simp at this; omega)
            have c_80 : (w7.alloc (.cells #[.bool (!y)] 4)).cell? ⟨w1.heap.size, 0, none⟩ = some (v1) := below_later hb_78 c_62; clear c_62
            have c_81 : (w7.alloc (.cells #[.bool (!y)] 4)).cell? ⟨w1.heap.size, 1, none⟩ = some (v2) := below_later hb_78 c_63; clear c_63
            have z_82 : (w7.alloc (.cells #[.bool (!y)] 4)).frozen? ⟨w1.heap.size, 0, none⟩ = false := (Below.frozen hb_78 (p := ⟨w1.heap.size, 0, none⟩) (by show w1.heap.size < _; first | omega | (simp; done) | (simp; omega))).trans z_64
            have z_83 : (w7.alloc (.cells #[.bool (!y)] 4)).frozen? ⟨w1.heap.size, 1, none⟩ = false := (Below.frozen hb_78 (p := ⟨w1.heap.size, 1, none⟩) (by show w1.heap.size < _; first | omega | (simp; done) | (simp; omega))).trans z_65
            have c_84 : (w7.alloc (.cells #[.bool (!y)] 4)).cell? ⟨w.heap.size, 1, none⟩ = some (.slice (some ⟨be, offe, none⟩) a0.2.length ecap') := below_later hb_78 c_66; clear c_66
            have c_85 : (w7.alloc (.cells #[.bool (!y)] 4)).cell? ⟨be, offe + i, none⟩ = some (.bool y) := below_later hb_78 c_67; clear c_67
            have hz_86 : w1.heap.size + 1 ≤ w7.heap.size + 1 := Nat.le_trans hz_68 hz_79
            have BD_87 := Lib.hid (BD_61.out.later kIntS_ok hb_78)
            have BD_88 := Lib.hid (BD_69.out.later kBool_ok hb_78)
            have BL_89 := Lib.hid (Below.trans BL_71.out (Below.mono hb_78 (by have := (BL_71.out).size; first | omega | (simp at this; omega) | (simp at this ⊢; omega))))
            have BL_90 := Lib.hid (Below.trans BL_72.out (Below.mono hb_78 (by have := (BL_72.out).size; first | omega | (simp at this; omega) | (simp at this ⊢; omega))))
            clear hb_78
            have c_91 : (w7.alloc (.cells #[.bool (!y)] 4)).cell? ⟨w7.heap.size, 0, none⟩ = some (.bool (!y)) := by go_simp
            have z_92 : (w7.alloc (.cells #[.bool (!y)] 4)).frozen? ⟨w7.heap.size, 0, none⟩ = false := by go_simp
            have hz_93 : w7.heap.size < w7.heap.size + 1 := by omega
            have ND_94 : Hid (∀ b ∈ [w7.heap.size], b ∉ (g7 :: (fps_55.flatten ++ [gq]))) := Lib.hid (by intro b hb hm; simp only [List.mem_singleton] at hb; subst hb; have := (LT_76.out _ hm); first | omega | (simp at this; omega))
            have ND_95 : Hid (∀ b ∈ [w7.heap.size], b ∉ fp2) := Lib.hid (by intro b hb hm; simp only [List.mem_singleton] at hb; subst hb; have := (LT_77.out _ hm); first | omega | (simp at this; omega))
            refine hK.out _ _ (Or.inr ?khHeld16) (fun hHeld16S => ?_)
            case khHeld16 => exact ⟨c_80, c_81, c_84, c_85⟩
            have hHeld16 := hHeld16S.held (by kernel_rfl)
            clear hK K
            try simp only [Act.put, List.setIfInBounds_toArray, List.set_cons_zero, List.set_cons_succ]
            refine wpG_one (i := 15) (o := { dst := some 35, op := Go.Op.call { callee := Go.Callee.builtin Go.Builtin.append, args := #[Go.Operand.tmp 27, Go.Operand.tmp 34], argTypes := #[23, 23] }, type := 23, pos := "l12_machine.go:198", after := #[{ on := 7, ground := Go.Ground.data }, { on := 14, ground := Go.Ground.data }, { on := 5, ground := Go.Ground.chain }], guard := none }) rfl (by kernel_rfl) (fun K hK => ?_)
            obtain ⟨vss_96, fps_96, hrow, howl, hfp, hnd, hge⟩ := BD_88.out
            rw [HLT2.out] at hrow
            have ROW_96 := Lib.hid hrow; have OWL_96 := Lib.hid howl; have NDU_96 := Lib.hid (hfp ▸ hnd); have GE_96 := Lib.hid (fun b hb => hge b (hfp ▸ hb)); have FPE_96 := Lib.hid hfp; clear hrow howl hnd hge hfp
            refine step_append_lies _ rfl (.tmp 27) (.tmp 34) 23 rfl (w1.heap.size + 1) 4 i2 (.bool false) 1 1 Try.underlying23 hi2 hx0 hx1 hx2 rfl (by decide) v2 i vss_96.flatten rfl ROW_96.out ⟨w7.heap.size, 0, none⟩ 1 1 [.bool (!y)] rfl rfl (news_at c_91) (by simp [Value.oneCell']) (by omega) HC5.out HC6.out (by first | omega | (simp; omega)) _ rfl ?_
            intro g9 cp9 w9 hown hgrow hat hlt4
            have HG_97 := Lib.hid hgrow; have HATHG_97 := Lib.hid hat; have HONHG_97 := Lib.hid hown
            clear hgrow hat hown
            have hz_98 : w7.heap.size + 1 ≤ w9.heap.size := by have := HG_97.out.size; first | omega | (simp at this; omega)
            have LT_99 : Hid (∀ b ∈ (g7 :: (fps_55.flatten ++ [gq])), b < w7.heap.size + 1) := Lib.hid (fun b hm => by have := (BD_87.out.lt kIntS_ok b hm); first | exact this | omega | (simp at this; omega))
            have LT_100 : Hid (∀ b ∈ fp2, b < w7.heap.size + 1) := Lib.hid (fun b hm => by have := (BD_88.out.lt kBool_ok b hm); first | exact this | omega | (simp at this; omega))
            have BD_101 := Lib.hid (Bd.app HLT2.out kBool_ok ROW_96.out OWL_96.out NDU_96.out GE_96.out ⟨rfl, rfl, trivial⟩ List.nodup_nil (fun b hb => absurd hb (by simp)) (fun b hb => absurd hb (by simp)) HONHG_97.out HG_97.out HATHG_97.out (by first | omega | (simp; done) | (simp; omega)))
            have c_102 : w9.cell? ⟨w1.heap.size, 0, none⟩ = some (v1) := BD_88.out.cell_grown HG_97.out c_80 (by first | omega | (simp; done) | (simp; omega))
            have c_103 : w9.cell? ⟨w1.heap.size, 1, none⟩ = some (v2) := BD_88.out.cell_grown HG_97.out c_81 (by first | omega | (simp; done) | (simp; omega))
            have z_104 : w9.frozen? ⟨w1.heap.size, 0, none⟩ = false := BD_88.out.frozen_grown HG_97.out (by first | omega | (simp; done) | (simp; omega)) z_82 (by first | omega | (simp; done) | (simp; omega))
            have z_105 : w9.frozen? ⟨w1.heap.size, 1, none⟩ = false := BD_88.out.frozen_grown HG_97.out (by first | omega | (simp; done) | (simp; omega)) z_83 (by first | omega | (simp; done) | (simp; omega))
            have c_106 : w9.cell? ⟨w.heap.size, 1, none⟩ = some (.slice (some ⟨be, offe, none⟩) a0.2.length ecap') := BD_88.out.cell_grown HG_97.out c_84 (by first | omega | (simp; done) | (simp; omega))
            have c_107 : w9.cell? ⟨be, offe + i, none⟩ = some (.bool y) := BD_88.out.cell_grown HG_97.out c_85 (by first | omega | (simp; done) | (simp; omega))
            have hz_108 : w1.heap.size + 1 ≤ w9.heap.size := Nat.le_trans hz_86 hz_98
            have BD_109 := Lib.hid (BD_87.out.grown kIntS_ok HG_97.out (fun k hk hm => (fun x hx hy => ND_70.out x hy hx) k (BD_88.out.own_mem k hk) hm))
            have ND_110 : Hid (∀ b ∈ (g9 :: (fps_96.flatten ++ [])), b ∉ (g7 :: (fps_55.flatten ++ [gq]))) := Lib.hid (fun b hm hs => (app_in HATHG_97.out hm).elim (fun h => (fun x hx hy => ND_70.out x hy hx) b (FPE_96.out ▸ h) hs) (fun h => h.elim (fun h => by simp at h) (fun h => by have := LT_99.out b hs; first | omega | (simp at h; omega))))
            have BL_111 := Lib.hid (Below.grown BL_89.out HG_97.out (by have := (BL_89.out).size; first | omega | (simp at this; omega) | (simp at this ⊢; omega)) (fun k hk => Nat.le_trans (by first | omega | (simp; done) | (simp; omega)) (BD_88.out.own_ge k hk)))
            have BL_112 := Lib.hid (Below.grown BL_90.out HG_97.out (by have := (BL_90.out).size; first | omega | (simp at this; omega) | (simp at this ⊢; omega)) (fun k hk => Nat.le_trans (by first | omega | (simp; done) | (simp; omega)) (BD_88.out.own_ge k hk)))
            have c_113 : w9.cell? ⟨w7.heap.size, 0, none⟩ = some (.bool (!y)) := (HG_97.out.cell_far ⟨w7.heap.size, 0, none⟩ (World.block_lt_of_cell? _ _ c_91) (fun he => ND_95.out _ (by simp) (BD_88.out.own_mem _ he.symm))).trans c_91
            have z_114 : w9.frozen? ⟨w7.heap.size, 0, none⟩ = false := (HG_97.out.frozen_far ⟨w7.heap.size, 0, none⟩ (by first | omega | (simp; done) | (simp; omega)) (fun he => ND_95.out _ (by simp) (BD_88.out.own_mem _ he.symm))).trans z_92
            have hz_115 : w7.heap.size + 1 ≤ w9.heap.size := Nat.le_trans hz_93 hz_98
            refine hK.out _ _ (Or.inl (by kernel_rfl)) (fun _ => ?_)
            clear hK K
            try simp only [Act.put, List.setIfInBounds_toArray, List.set_cons_zero, List.set_cons_succ]
            refine wpG_one (i := 17) (o := { dst := none, op := Go.Op.store 22 (Go.Operand.tmp 36) (Go.Operand.tmp 25), type := 0, pos := "l12_machine.go:198", after := #[{ on := 16, ground := Go.Ground.data }, { on := 5, ground := Go.Ground.data }, { on := 15, ground := Go.Ground.chain }, { on := 0, ground := Go.Ground.phase }, { on := 1, ground := Go.Ground.phase }, { on := 2, ground := Go.Ground.phase }, { on := 3, ground := Go.Ground.phase }, { on := 4, ground := Go.Ground.phase }, { on := 5, ground := Go.Ground.phase }, { on := 6, ground := Go.Ground.phase }, { on := 7, ground := Go.Ground.phase }, { on := 8, ground := Go.Ground.textOnly Go.Departure.lateStores }, { on := 9, ground := Go.Ground.textOnly Go.Departure.lateStores }, { on := 10, ground := Go.Ground.textOnly Go.Departure.lateStores }, { on := 11, ground := Go.Ground.textOnly Go.Departure.lateStores }, { on := 12, ground := Go.Ground.textOnly Go.Departure.lateStores }, { on := 13, ground := Go.Ground.textOnly Go.Departure.lateStores }, { on := 14, ground := Go.Ground.textOnly Go.Departure.lateStores }, { on := 15, ground := Go.Ground.textOnly Go.Departure.lateStoresUnsure }], guard := none }) rfl (by kernel_rfl) (fun K hK => ?_)
            go_simp
            refine hK.out _ _ (Or.inl (by kernel_rfl)) (fun _ => ?_)
            clear hK K
            try simp only [Act.put, List.setIfInBounds_toArray, List.set_cons_zero, List.set_cons_succ]
            refine wpG_pure (i := 18) (oi := { dst := some 37, op := Go.Op.fieldAddr 28 (Go.Operand.tmp 4) 1, type := 0, pos := "l12_machine.go:198", after := #[{ on := 0, ground := Go.Ground.phase }, { on := 1, ground := Go.Ground.phase }, { on := 2, ground := Go.Ground.phase }, { on := 3, ground := Go.Ground.phase }, { on := 4, ground := Go.Ground.phase }, { on := 5, ground := Go.Ground.phase }, { on := 6, ground := Go.Ground.phase }, { on := 7, ground := Go.Ground.phase }, { on := 8, ground := Go.Ground.phase }, { on := 9, ground := Go.Ground.phase }, { on := 10, ground := Go.Ground.phase }, { on := 11, ground := Go.Ground.phase }, { on := 12, ground := Go.Ground.phase }, { on := 13, ground := Go.Ground.phase }, { on := 14, ground := Go.Ground.phase }, { on := 15, ground := Go.Ground.phase }, { on := 16, ground := Go.Ground.phase }, { on := 17, ground := Go.Ground.phase }], guard := none }) (v := ?vg19) rfl (by kernel_rfl) (fun _ _ _ h => h) (Or.inl (by kernel_rfl)) (Or.inl ⟨by rfl, ?yg19⟩) ?_
            case yg19 => (intro wS _; go_simp <;> with_reducible rfl)
            try simp only [Act.put, List.setIfInBounds_toArray, List.set_cons_zero, List.set_cons_succ]
            refine wpG_one (i := 19) (o := { dst := none, op := Go.Op.store 23 (Go.Operand.tmp 37) (Go.Operand.tmp 35), type := 0, pos := "l12_machine.go:198", after := #[{ on := 18, ground := Go.Ground.data }, { on := 15, ground := Go.Ground.data }, { on := 17, ground := Go.Ground.chain }, { on := 0, ground := Go.Ground.phase }, { on := 1, ground := Go.Ground.phase }, { on := 2, ground := Go.Ground.phase }, { on := 3, ground := Go.Ground.phase }, { on := 4, ground := Go.Ground.phase }, { on := 5, ground := Go.Ground.phase }, { on := 6, ground := Go.Ground.phase }, { on := 7, ground := Go.Ground.phase }, { on := 8, ground := Go.Ground.phase }, { on := 9, ground := Go.Ground.phase }, { on := 10, ground := Go.Ground.phase }, { on := 11, ground := Go.Ground.phase }, { on := 12, ground := Go.Ground.phase }, { on := 13, ground := Go.Ground.phase }, { on := 14, ground := Go.Ground.phase }, { on := 15, ground := Go.Ground.phase }, { on := 16, ground := Go.Ground.phase }, { on := 17, ground := Go.Ground.phase }], guard := none }) rfl (by kernel_rfl) (fun K hK => ?_)
            go_simp
            refine hK.out _ _ (Or.inl (by kernel_rfl)) (fun _ => ?_)
            clear hK K
            try simp only [Act.put, List.setIfInBounds_toArray, List.set_cons_zero, List.set_cons_succ]
            refine wpG_done (by kernel_rfl) ?_
            go_wp2_with fail
            go_roundw
            case rel =>
              have hb1 := (BD_109.out.setCell kIntS_ok (a := ⟨w1.heap.size, 0, none⟩) (by show w1.heap.size < w1.heap.size + 1; omega) (.slice (some ⟨g7, 0, none⟩) (i + 1) cp7)).setCell kIntS_ok (a := ⟨w1.heap.size, 1, none⟩) (by show w1.heap.size < w1.heap.size + 1; omega) (.slice (some ⟨g9, 0, none⟩) (i + 1) cp9)
              have hb2 := (BD_101.out.setCell kBool_ok (a := ⟨w1.heap.size, 0, none⟩) (by show w1.heap.size < w1.heap.size + 1; omega) (.slice (some ⟨g7, 0, none⟩) (i + 1) cp7)).setCell kBool_ok (a := ⟨w1.heap.size, 1, none⟩) (by show w1.heap.size < w1.heap.size + 1; omega) (.slice (some ⟨g9, 0, none⟩) (i + 1) cp9)
              rw [HT1.out] at hb1; rw [HT2.out] at hb2
              refine ⟨i + 1, _, _, _, _, by omega, by go_num, Lib.hid ⟨?_, ?_, ?_, ?_, ?_⟩, Lib.hid hb1, Lib.hid hb2, Lib.hid (fun x hx hy => ND_110.out x hy hx), Lib.hid ((BL_111.out.setCell (p := ⟨w1.heap.size, 0, none⟩) (Nat.le_refl _) _).setCell (p := ⟨w1.heap.size, 1, none⟩) (Nat.le_refl _) _)⟩
              · go_simp
              · go_simp
              · go_simp
              · go_simp
              · rw [World.size_setCell, World.size_setCell]; omega
            case measure => simp [intOf]; omega
          · skip
            go_simp
            have LT_116 : Hid (∀ b ∈ fp1, b < w5.heap.size + 1) := Lib.hid (fun b hm => by have := (BD_44.out.lt kIntS_ok b hm); first | exact this | omega | (simp at this; omega))
            have LT_117 : Hid (∀ b ∈ fp2, b < w5.heap.size + 1) := Lib.hid (fun b hm => by have := (BD_45.out.lt kBool_ok b hm); first | exact this | omega | (simp at this; omega))
            have LT_118 : Hid (∀ b ∈ [gq], b < w5.heap.size + 1) := Lib.hid (fun b hm => by have := (kIntS_ok.olt OW_48.out b hm); first | exact this | omega | (simp at this; omega))
            have hb_119 : Below (w5.alloc (.cells #[.slice (some ⟨gq, 0, none⟩) l.length cq] 42)).heap.size (w5.alloc (.cells #[.slice (some ⟨gq, 0, none⟩) l.length cq] 42)) ((w5.alloc (.cells #[.slice (some ⟨gq, 0, none⟩) l.length cq] 42)).alloc (.cells #[.bool (!y)] 4)) := (Below.refl _ _).alloc (Nat.le_refl _) _
            have hz_120 : w5.heap.size + 1 ≤ w5.heap.size + 1 + 1 := by have := (hb_119).size; first | omega | (simp at this; omega)
            have c_121 : ((w5.alloc (.cells #[.slice (some ⟨gq, 0, none⟩) l.length cq] 42)).alloc (.cells #[.bool (!y)] 4)).cell? ⟨w1.heap.size, 0, none⟩ = some (v1) := below_later hb_119 c_37; clear c_37
            have c_122 : ((w5.alloc (.cells #[.slice (some ⟨gq, 0, none⟩) l.length cq] 42)).alloc (.cells #[.bool (!y)] 4)).cell? ⟨w1.heap.size, 1, none⟩ = some (v2) := below_later hb_119 c_38; clear c_38
            have z_123 : ((w5.alloc (.cells #[.slice (some ⟨gq, 0, none⟩) l.length cq] 42)).alloc (.cells #[.bool (!y)] 4)).frozen? ⟨w1.heap.size, 0, none⟩ = false := (Below.frozen hb_119 (p := ⟨w1.heap.size, 0, none⟩) (by show w1.heap.size < _; first | omega | (simp; done) | (simp; omega))).trans z_39
            have z_124 : ((w5.alloc (.cells #[.slice (some ⟨gq, 0, none⟩) l.length cq] 42)).alloc (.cells #[.bool (!y)] 4)).frozen? ⟨w1.heap.size, 1, none⟩ = false := (Below.frozen hb_119 (p := ⟨w1.heap.size, 1, none⟩) (by show w1.heap.size < _; first | omega | (simp; done) | (simp; omega))).trans z_40
            have c_125 : ((w5.alloc (.cells #[.slice (some ⟨gq, 0, none⟩) l.length cq] 42)).alloc (.cells #[.bool (!y)] 4)).cell? ⟨w.heap.size, 1, none⟩ = some (.slice (some ⟨be, offe, none⟩) a0.2.length ecap') := below_later hb_119 c_41; clear c_41
            have c_126 : ((w5.alloc (.cells #[.slice (some ⟨gq, 0, none⟩) l.length cq] 42)).alloc (.cells #[.bool (!y)] 4)).cell? ⟨be, offe + i, none⟩ = some (.bool y) := below_later hb_119 c_42; clear c_42
            have hz_127 : w1.heap.size + 1 ≤ w5.heap.size + 1 + 1 := Nat.le_trans hz_43 hz_120
            have BD_128 := Lib.hid (BD_44.out.later kIntS_ok hb_119)
            have BD_129 := Lib.hid (BD_45.out.later kBool_ok hb_119)
            have BL_130 := Lib.hid (Below.trans BL_46.out (Below.mono hb_119 (by have := (BL_46.out).size; first | omega | (simp at this; omega) | (simp at this ⊢; omega))))
            have BL_131 := Lib.hid (Below.trans BL_47.out (Below.mono hb_119 (by have := (BL_47.out).size; first | omega | (simp at this; omega) | (simp at this ⊢; omega))))
            have OW_132 := Lib.hid (kIntS_ok.oframe OW_48.out (w' := ((w5.alloc (.cells #[.slice (some ⟨gq, 0, none⟩) l.length cq] 42)).alloc (.cells #[.bool (!y)] 4))) fun b hm => (hb_119).block b (kIntS_ok.olt OW_48.out b hm))
            have c_133 : ((w5.alloc (.cells #[.slice (some ⟨gq, 0, none⟩) l.length cq] 42)).alloc (.cells #[.bool (!y)] 4)).cell? ⟨w5.heap.size, 0, none⟩ = some (.slice (some ⟨gq, 0, none⟩) l.length cq) := below_later hb_119 c_49; clear c_49
            have z_134 : ((w5.alloc (.cells #[.slice (some ⟨gq, 0, none⟩) l.length cq] 42)).alloc (.cells #[.bool (!y)] 4)).frozen? ⟨w5.heap.size, 0, none⟩ = false := (Below.frozen hb_119 (p := ⟨w5.heap.size, 0, none⟩) (by show w5.heap.size < _; first | omega | (simp; done) | (simp; omega))).trans z_50
            have hz_135 : w5.heap.size + 1 ≤ w5.heap.size + 1 + 1 := Nat.le_trans hz_51 hz_120
            clear hb_119
            have c_136 : ((w5.alloc (.cells #[.slice (some ⟨gq, 0, none⟩) l.length cq] 42)).alloc (.cells #[.bool (!y)] 4)).cell? ⟨w5.heap.size + 1, 0, none⟩ = some (.bool (!y)) := by go_simp
            have z_137 : ((w5.alloc (.cells #[.slice (some ⟨gq, 0, none⟩) l.length cq] 42)).alloc (.cells #[.bool (!y)] 4)).frozen? ⟨w5.heap.size + 1, 0, none⟩ = false := by go_simp
            have hz_138 : w5.heap.size + 1 < w5.heap.size + 1 + 1 := by omega
            have ND_139 : Hid (∀ b ∈ [w5.heap.size + 1], b ∉ fp1) := Lib.hid (by intro b hb hm; simp only [List.mem_singleton] at hb; subst hb; have := (LT_116.out _ hm); first | omega | (simp at this; omega))
            have ND_140 : Hid (∀ b ∈ [w5.heap.size + 1], b ∉ fp2) := Lib.hid (by intro b hb hm; simp only [List.mem_singleton] at hb; subst hb; have := (LT_117.out _ hm); first | omega | (simp at this; omega))
            have ND_141 : Hid (∀ b ∈ [w5.heap.size + 1], b ∉ [gq]) := Lib.hid (by intro b hb hm; simp only [List.mem_singleton] at hb; subst hb; have := (LT_118.out _ hm); first | omega | (simp at this; omega))
            refine hK.out _ _ (Or.inr ?khHeld21) (fun hHeld21S => ?_)
            case khHeld21 => exact ⟨c_121, c_122, c_125, c_126⟩
            have hHeld21 := hHeld21S.held (by kernel_rfl)
            clear hK K
            try simp only [Act.put, List.setIfInBounds_toArray, List.set_cons_zero, List.set_cons_succ]
            refine wpG_one (i := 5) (o := { dst := some 25, op := Go.Op.call { callee := Go.Callee.builtin Go.Builtin.append, args := #[Go.Operand.tmp 21, Go.Operand.tmp 24], argTypes := #[22, 22] }, type := 22, pos := "l12_machine.go:198", after := #[{ on := 1, ground := Go.Ground.data }, { on := 4, ground := Go.Ground.data }, { on := 3, ground := Go.Ground.chain }], guard := none }) rfl (by kernel_rfl) (fun K hK => ?_)
            obtain ⟨vss_142, fps_142, hrow, howl, hfp, hnd, hge⟩ := BD_128.out
            rw [HLT1.out] at hrow
            have ROW_142 := Lib.hid hrow; have OWL_142 := Lib.hid howl; have NDU_142 := Lib.hid (hfp ▸ hnd); have GE_142 := Lib.hid (fun b hb => hge b (hfp ▸ hb)); have FPE_142 := Lib.hid hfp; clear hrow howl hnd hge hfp
            refine step_append_lies _ rfl (.tmp 21) (.tmp 24) 22 rfl (w1.heap.size + 1) 42 i1 (.slice none 0 0) 1 24 Try.underlying22 hi1 hy0 hy1 hy2 rfl (by decide) v1 i vss_142.flatten rfl ROW_142.out ⟨w5.heap.size, 0, none⟩ 1 1 [.slice (some ⟨gq, 0, none⟩) l.length cq] rfl rfl (news_at c_133) (by simp [Value.oneCell']) (by omega) HC3.out HC4.out (by first | omega | (simp; omega)) _ rfl ?_
            intro g7 cp7 w7 hown hgrow hat hlt4
            have HG_143 := Lib.hid hgrow; have HATHG_143 := Lib.hid hat; have HONHG_143 := Lib.hid hown
            clear hgrow hat hown
            have hz_144 : w5.heap.size + 1 + 1 ≤ w7.heap.size := by have := HG_143.out.size; first | omega | (simp at this; omega)
            have LT_145 : Hid (∀ b ∈ fp1, b < w5.heap.size + 1 + 1) := Lib.hid (fun b hm => by have := (BD_128.out.lt kIntS_ok b hm); first | exact this | omega | (simp at this; omega))
            have LT_146 : Hid (∀ b ∈ fp2, b < w5.heap.size + 1 + 1) := Lib.hid (fun b hm => by have := (BD_129.out.lt kBool_ok b hm); first | exact this | omega | (simp at this; omega))
            have LT_147 : Hid (∀ b ∈ [gq], b < w5.heap.size + 1 + 1) := Lib.hid (fun b hm => by have := (kIntS_ok.olt OW_132.out b hm); first | exact this | omega | (simp at this; omega))
            have BD_148 := Lib.hid (Bd.app HLT1.out kIntS_ok ROW_142.out OWL_142.out NDU_142.out GE_142.out OW_132.out (by simp) (fun b hb hm => ND_30.out b hb (FPE_142.out ▸ hm)) (fun b hb => by have := hgeq b hb; omega) HONHG_143.out HG_143.out HATHG_143.out (by first | omega | (simp; done) | (simp; omega)))
            have c_149 : w7.cell? ⟨w1.heap.size, 0, none⟩ = some (v1) := BD_128.out.cell_grown HG_143.out c_121 (by first | omega | (simp; done) | (simp; omega))
            have c_150 : w7.cell? ⟨w1.heap.size, 1, none⟩ = some (v2) := BD_128.out.cell_grown HG_143.out c_122 (by first | omega | (simp; done) | (simp; omega))
            have z_151 : w7.frozen? ⟨w1.heap.size, 0, none⟩ = false := BD_128.out.frozen_grown HG_143.out (by first | omega | (simp; done) | (simp; omega)) z_123 (by first | omega | (simp; done) | (simp; omega))
            have z_152 : w7.frozen? ⟨w1.heap.size, 1, none⟩ = false := BD_128.out.frozen_grown HG_143.out (by first | omega | (simp; done) | (simp; omega)) z_124 (by first | omega | (simp; done) | (simp; omega))
            have c_153 : w7.cell? ⟨w.heap.size, 1, none⟩ = some (.slice (some ⟨be, offe, none⟩) a0.2.length ecap') := BD_128.out.cell_grown HG_143.out c_125 (by first | omega | (simp; done) | (simp; omega))
            have c_154 : w7.cell? ⟨be, offe + i, none⟩ = some (.bool y) := BD_128.out.cell_grown HG_143.out c_126 (by first | omega | (simp; done) | (simp; omega))
            have hz_155 : w1.heap.size + 1 ≤ w7.heap.size := Nat.le_trans hz_127 hz_144
            have BD_156 := Lib.hid (BD_129.out.grown kBool_ok HG_143.out (fun k hk hm => DIS.out k (BD_128.out.own_mem k hk) hm))
            have ND_157 : Hid (∀ b ∈ (g7 :: (fps_142.flatten ++ [gq])), b ∉ fp2) := Lib.hid (fun b hm hs => (app_in HATHG_143.out hm).elim (fun h => DIS.out b (FPE_142.out ▸ h) hs) (fun h => h.elim (fun h => by exact ND_31.out b h hs) (fun h => by have := LT_146.out b hs; first | omega | (simp at h; omega))))
            have BL_158 := Lib.hid (Below.grown BL_130.out HG_143.out (by have := (BL_130.out).size; first | omega | (simp at this; omega) | (simp at this ⊢; omega)) (fun k hk => Nat.le_trans (by first | omega | (simp; done) | (simp; omega)) (BD_128.out.own_ge k hk)))
            have BL_159 := Lib.hid (Below.grown BL_131.out HG_143.out (by have := (BL_131.out).size; first | omega | (simp at this; omega) | (simp at this ⊢; omega)) (fun k hk => Nat.le_trans (by first | omega | (simp; done) | (simp; omega)) (BD_128.out.own_ge k hk)))
            have c_160 : w7.cell? ⟨w5.heap.size, 0, none⟩ = some (.slice (some ⟨gq, 0, none⟩) l.length cq) := (HG_143.out.cell_far ⟨w5.heap.size, 0, none⟩ (World.block_lt_of_cell? _ _ c_133) (fun he => ND_52.out _ (by simp) (BD_128.out.own_mem _ he.symm))).trans c_133
            have z_161 : w7.frozen? ⟨w5.heap.size, 0, none⟩ = false := (HG_143.out.frozen_far ⟨w5.heap.size, 0, none⟩ (by first | omega | (simp; done) | (simp; omega)) (fun he => ND_52.out _ (by simp) (BD_128.out.own_mem _ he.symm))).trans z_134
            have hz_162 : w5.heap.size + 1 ≤ w7.heap.size := Nat.le_trans hz_135 hz_144
            have c_163 : w7.cell? ⟨w5.heap.size + 1, 0, none⟩ = some (.bool (!y)) := (HG_143.out.cell_far ⟨w5.heap.size + 1, 0, none⟩ (World.block_lt_of_cell? _ _ c_136) (fun he => ND_139.out _ (by simp) (BD_128.out.own_mem _ he.symm))).trans c_136
            have z_164 : w7.frozen? ⟨w5.heap.size + 1, 0, none⟩ = false := (HG_143.out.frozen_far ⟨w5.heap.size + 1, 0, none⟩ (by first | omega | (simp; done) | (simp; omega)) (fun he => ND_139.out _ (by simp) (BD_128.out.own_mem _ he.symm))).trans z_137
            have hz_165 : w5.heap.size + 1 + 1 ≤ w7.heap.size := Nat.le_trans hz_138 hz_144
            refine hK.out _ _ (Or.inr ?khHeld22) (fun hHeld22S => ?_)
            case khHeld22 => exact ⟨c_149, c_150, c_153, c_154⟩
            have hHeld22 := hHeld22S.held (by kernel_rfl)
            clear hK K
            try simp only [Act.put, List.setIfInBounds_toArray, List.set_cons_zero, List.set_cons_succ]
            refine wpG_pure (i := 16) (oi := { dst := some 36, op := Go.Op.fieldAddr 28 (Go.Operand.tmp 4) 0, type := 0, pos := "l12_machine.go:198", after := #[{ on := 0, ground := Go.Ground.phase }, { on := 1, ground := Go.Ground.phase }, { on := 2, ground := Go.Ground.phase }, { on := 3, ground := Go.Ground.phase }, { on := 4, ground := Go.Ground.phase }, { on := 5, ground := Go.Ground.phase }, { on := 6, ground := Go.Ground.phase }, { on := 7, ground := Go.Ground.phase }, { on := 8, ground := Go.Ground.textOnly Go.Departure.lateStores }, { on := 9, ground := Go.Ground.textOnly Go.Departure.lateStores }, { on := 10, ground := Go.Ground.textOnly Go.Departure.lateStores }, { on := 11, ground := Go.Ground.textOnly Go.Departure.lateStores }, { on := 12, ground := Go.Ground.textOnly Go.Departure.lateStores }, { on := 13, ground := Go.Ground.textOnly Go.Departure.lateStores }, { on := 14, ground := Go.Ground.textOnly Go.Departure.lateStores }, { on := 15, ground := Go.Ground.textOnly Go.Departure.lateStoresUnsure }], guard := none }) (v := ?vg23) rfl (by kernel_rfl) (fun _ _ _ h => h) (Or.inr hHeld22) (Or.inl ⟨by rfl, ?yg23⟩) ?_
            case yg23 => (intro wS _; go_simp <;> with_reducible rfl)
            try simp only [Act.put, List.setIfInBounds_toArray, List.set_cons_zero, List.set_cons_succ]
            refine wpG_one (i := 15) (o := { dst := some 35, op := Go.Op.call { callee := Go.Callee.builtin Go.Builtin.append, args := #[Go.Operand.tmp 27, Go.Operand.tmp 34], argTypes := #[23, 23] }, type := 23, pos := "l12_machine.go:198", after := #[{ on := 7, ground := Go.Ground.data }, { on := 14, ground := Go.Ground.data }, { on := 5, ground := Go.Ground.chain }], guard := none }) rfl (by kernel_rfl) (fun K hK => ?_)
            obtain ⟨vss_166, fps_166, hrow, howl, hfp, hnd, hge⟩ := BD_156.out
            rw [HLT2.out] at hrow
            have ROW_166 := Lib.hid hrow; have OWL_166 := Lib.hid howl; have NDU_166 := Lib.hid (hfp ▸ hnd); have GE_166 := Lib.hid (fun b hb => hge b (hfp ▸ hb)); have FPE_166 := Lib.hid hfp; clear hrow howl hnd hge hfp
            refine step_append_lies _ rfl (.tmp 27) (.tmp 34) 23 rfl (w1.heap.size + 1) 4 i2 (.bool false) 1 1 Try.underlying23 hi2 hx0 hx1 hx2 rfl (by decide) v2 i vss_166.flatten rfl ROW_166.out ⟨w5.heap.size + 1, 0, none⟩ 1 1 [.bool (!y)] rfl rfl (news_at c_163) (by simp [Value.oneCell']) (by omega) HC5.out HC6.out (by first | omega | (simp; omega)) _ rfl ?_
            intro g9 cp9 w9 hown hgrow hat hlt4
            have HG_167 := Lib.hid hgrow; have HATHG_167 := Lib.hid hat; have HONHG_167 := Lib.hid hown
            clear hgrow hat hown
            have hz_168 : w7.heap.size ≤ w9.heap.size := by have := HG_167.out.size; first | omega | (simp at this; omega)
            have LT_169 : Hid (∀ b ∈ (g7 :: (fps_142.flatten ++ [gq])), b < w7.heap.size) := Lib.hid (fun b hm => by have := (BD_148.out.lt kIntS_ok b hm); first | exact this | omega | (simp at this; omega))
            have LT_170 : Hid (∀ b ∈ fp2, b < w7.heap.size) := Lib.hid (fun b hm => by have := (BD_156.out.lt kBool_ok b hm); first | exact this | omega | (simp at this; omega))
            have BD_171 := Lib.hid (Bd.app HLT2.out kBool_ok ROW_166.out OWL_166.out NDU_166.out GE_166.out ⟨rfl, rfl, trivial⟩ List.nodup_nil (fun b hb => absurd hb (by simp)) (fun b hb => absurd hb (by simp)) HONHG_167.out HG_167.out HATHG_167.out (by first | omega | (simp; done) | (simp; omega)))
            have c_172 : w9.cell? ⟨w1.heap.size, 0, none⟩ = some (v1) := BD_156.out.cell_grown HG_167.out c_149 (by first | omega | (simp; done) | (simp; omega))
            have c_173 : w9.cell? ⟨w1.heap.size, 1, none⟩ = some (v2) := BD_156.out.cell_grown HG_167.out c_150 (by first | omega | (simp; done) | (simp; omega))
            have z_174 : w9.frozen? ⟨w1.heap.size, 0, none⟩ = false := BD_156.out.frozen_grown HG_167.out (by first | omega | (simp; done) | (simp; omega)) z_151 (by first | omega | (simp; done) | (simp; omega))
            have z_175 : w9.frozen? ⟨w1.heap.size, 1, none⟩ = false := BD_156.out.frozen_grown HG_167.out (by first | omega | (simp; done) | (simp; omega)) z_152 (by first | omega | (simp; done) | (simp; omega))
            have c_176 : w9.cell? ⟨w.heap.size, 1, none⟩ = some (.slice (some ⟨be, offe, none⟩) a0.2.length ecap') := BD_156.out.cell_grown HG_167.out c_153 (by first | omega | (simp; done) | (simp; omega))
            have c_177 : w9.cell? ⟨be, offe + i, none⟩ = some (.bool y) := BD_156.out.cell_grown HG_167.out c_154 (by first | omega | (simp; done) | (simp; omega))
            have hz_178 : w1.heap.size + 1 ≤ w9.heap.size := Nat.le_trans hz_155 hz_168
            have BD_179 := Lib.hid (BD_148.out.grown kIntS_ok HG_167.out (fun k hk hm => (fun x hx hy => ND_157.out x hy hx) k (BD_156.out.own_mem k hk) hm))
            have ND_180 : Hid (∀ b ∈ (g9 :: (fps_166.flatten ++ [])), b ∉ (g7 :: (fps_142.flatten ++ [gq]))) := Lib.hid (fun b hm hs => (app_in HATHG_167.out hm).elim (fun h => (fun x hx hy => ND_157.out x hy hx) b (FPE_166.out ▸ h) hs) (fun h => h.elim (fun h => by simp at h) (fun h => by have := LT_169.out b hs; first | omega | (simp at h; omega))))
            have BL_181 := Lib.hid (Below.grown BL_158.out HG_167.out (by have := (BL_158.out).size; first | omega | (simp at this; omega) | (simp at this ⊢; omega)) (fun k hk => Nat.le_trans (by first | omega | (simp; done) | (simp; omega)) (BD_156.out.own_ge k hk)))
            have BL_182 := Lib.hid (Below.grown BL_159.out HG_167.out (by have := (BL_159.out).size; first | omega | (simp at this; omega) | (simp at this ⊢; omega)) (fun k hk => Nat.le_trans (by first | omega | (simp; done) | (simp; omega)) (BD_156.out.own_ge k hk)))
            have c_183 : w9.cell? ⟨w5.heap.size + 1, 0, none⟩ = some (.bool (!y)) := (HG_167.out.cell_far ⟨w5.heap.size + 1, 0, none⟩ (World.block_lt_of_cell? _ _ c_163) (fun he => ND_140.out _ (by simp) (BD_156.out.own_mem _ he.symm))).trans c_163
            have z_184 : w9.frozen? ⟨w5.heap.size + 1, 0, none⟩ = false := (HG_167.out.frozen_far ⟨w5.heap.size + 1, 0, none⟩ (by first | omega | (simp; done) | (simp; omega)) (fun he => ND_140.out _ (by simp) (BD_156.out.own_mem _ he.symm))).trans z_164
            have hz_185 : w5.heap.size + 1 + 1 ≤ w9.heap.size := Nat.le_trans hz_165 hz_168
            refine hK.out _ _ (Or.inl (by kernel_rfl)) (fun _ => ?_)
            clear hK K
            try simp only [Act.put, List.setIfInBounds_toArray, List.set_cons_zero, List.set_cons_succ]
            refine wpG_one (i := 17) (o := { dst := none, op := Go.Op.store 22 (Go.Operand.tmp 36) (Go.Operand.tmp 25), type := 0, pos := "l12_machine.go:198", after := #[{ on := 16, ground := Go.Ground.data }, { on := 5, ground := Go.Ground.data }, { on := 15, ground := Go.Ground.chain }, { on := 0, ground := Go.Ground.phase }, { on := 1, ground := Go.Ground.phase }, { on := 2, ground := Go.Ground.phase }, { on := 3, ground := Go.Ground.phase }, { on := 4, ground := Go.Ground.phase }, { on := 5, ground := Go.Ground.phase }, { on := 6, ground := Go.Ground.phase }, { on := 7, ground := Go.Ground.phase }, { on := 8, ground := Go.Ground.textOnly Go.Departure.lateStores }, { on := 9, ground := Go.Ground.textOnly Go.Departure.lateStores }, { on := 10, ground := Go.Ground.textOnly Go.Departure.lateStores }, { on := 11, ground := Go.Ground.textOnly Go.Departure.lateStores }, { on := 12, ground := Go.Ground.textOnly Go.Departure.lateStores }, { on := 13, ground := Go.Ground.textOnly Go.Departure.lateStores }, { on := 14, ground := Go.Ground.textOnly Go.Departure.lateStores }, { on := 15, ground := Go.Ground.textOnly Go.Departure.lateStoresUnsure }], guard := none }) rfl (by kernel_rfl) (fun K hK => ?_)
            go_simp
            refine hK.out _ _ (Or.inl (by kernel_rfl)) (fun _ => ?_)
            clear hK K
            try simp only [Act.put, List.setIfInBounds_toArray, List.set_cons_zero, List.set_cons_succ]
            refine wpG_pure (i := 18) (oi := { dst := some 37, op := Go.Op.fieldAddr 28 (Go.Operand.tmp 4) 1, type := 0, pos := "l12_machine.go:198", after := #[{ on := 0, ground := Go.Ground.phase }, { on := 1, ground := Go.Ground.phase }, { on := 2, ground := Go.Ground.phase }, { on := 3, ground := Go.Ground.phase }, { on := 4, ground := Go.Ground.phase }, { on := 5, ground := Go.Ground.phase }, { on := 6, ground := Go.Ground.phase }, { on := 7, ground := Go.Ground.phase }, { on := 8, ground := Go.Ground.phase }, { on := 9, ground := Go.Ground.phase }, { on := 10, ground := Go.Ground.phase }, { on := 11, ground := Go.Ground.phase }, { on := 12, ground := Go.Ground.phase }, { on := 13, ground := Go.Ground.phase }, { on := 14, ground := Go.Ground.phase }, { on := 15, ground := Go.Ground.phase }, { on := 16, ground := Go.Ground.phase }, { on := 17, ground := Go.Ground.phase }], guard := none }) (v := ?vg26) rfl (by kernel_rfl) (fun _ _ _ h => h) (Or.inl (by kernel_rfl)) (Or.inl ⟨by rfl, ?yg26⟩) ?_
            case yg26 => (intro wS _; go_simp <;> with_reducible rfl)
            try simp only [Act.put, List.setIfInBounds_toArray, List.set_cons_zero, List.set_cons_succ]
            refine wpG_one (i := 19) (o := { dst := none, op := Go.Op.store 23 (Go.Operand.tmp 37) (Go.Operand.tmp 35), type := 0, pos := "l12_machine.go:198", after := #[{ on := 18, ground := Go.Ground.data }, { on := 15, ground := Go.Ground.data }, { on := 17, ground := Go.Ground.chain }, { on := 0, ground := Go.Ground.phase }, { on := 1, ground := Go.Ground.phase }, { on := 2, ground := Go.Ground.phase }, { on := 3, ground := Go.Ground.phase }, { on := 4, ground := Go.Ground.phase }, { on := 5, ground := Go.Ground.phase }, { on := 6, ground := Go.Ground.phase }, { on := 7, ground := Go.Ground.phase }, { on := 8, ground := Go.Ground.phase }, { on := 9, ground := Go.Ground.phase }, { on := 10, ground := Go.Ground.phase }, { on := 11, ground := Go.Ground.phase }, { on := 12, ground := Go.Ground.phase }, { on := 13, ground := Go.Ground.phase }, { on := 14, ground := Go.Ground.phase }, { on := 15, ground := Go.Ground.phase }, { on := 16, ground := Go.Ground.phase }, { on := 17, ground := Go.Ground.phase }], guard := none }) rfl (by kernel_rfl) (fun K hK => ?_)
            go_simp
            refine hK.out _ _ (Or.inl (by kernel_rfl)) (fun _ => ?_)
            clear hK K
            try simp only [Act.put, List.setIfInBounds_toArray, List.set_cons_zero, List.set_cons_succ]
            refine wpG_done (by kernel_rfl) ?_
            go_wp2_with fail
            go_roundw
            case rel =>
              have hb1 := (BD_179.out.setCell kIntS_ok (a := ⟨w1.heap.size, 0, none⟩) (by show w1.heap.size < w1.heap.size + 1; omega) (.slice (some ⟨g7, 0, none⟩) (i + 1) cp7)).setCell kIntS_ok (a := ⟨w1.heap.size, 1, none⟩) (by show w1.heap.size < w1.heap.size + 1; omega) (.slice (some ⟨g9, 0, none⟩) (i + 1) cp9)
              have hb2 := (BD_171.out.setCell kBool_ok (a := ⟨w1.heap.size, 0, none⟩) (by show w1.heap.size < w1.heap.size + 1; omega) (.slice (some ⟨g7, 0, none⟩) (i + 1) cp7)).setCell kBool_ok (a := ⟨w1.heap.size, 1, none⟩) (by show w1.heap.size < w1.heap.size + 1; omega) (.slice (some ⟨g9, 0, none⟩) (i + 1) cp9)
              rw [HT1.out] at hb1; rw [HT2.out] at hb2
              refine ⟨i + 1, _, _, _, _, by omega, by go_num, Lib.hid ⟨?_, ?_, ?_, ?_, ?_⟩, Lib.hid hb1, Lib.hid hb2, Lib.hid (fun x hx hy => ND_180.out x hy hx), Lib.hid ((BL_181.out.setCell (p := ⟨w1.heap.size, 0, none⟩) (Nat.le_refl _) _).setCell (p := ⟨w1.heap.size, 1, none⟩) (Nat.le_refl _) _)⟩
              · go_simp
              · go_simp
              · go_simp
              · go_simp
              · rw [World.size_setCell, World.size_setCell]; omega
            case measure => simp [intOf]; omega
        · skip
          go_simp
          have LT_186 : Hid (∀ b ∈ fp1, b < w5.heap.size) := Lib.hid (fun b hm => by have := (BD_25.out.lt kIntS_ok b hm); first | exact this | omega | (simp at this; omega))
          have LT_187 : Hid (∀ b ∈ fp2, b < w5.heap.size) := Lib.hid (fun b hm => by have := (BD_26.out.lt kBool_ok b hm); first | exact this | omega | (simp at this; omega))
          have LT_188 : Hid (∀ b ∈ [gq], b < w5.heap.size) := Lib.hid (fun b hm => by have := (kIntS_ok.olt OW_29.out b hm); first | exact this | omega | (simp at this; omega))
          have hb_189 : Below w5.heap.size w5 (w5.alloc (.cells #[.bool (!y)] 4)) := (Below.refl _ _).alloc (Nat.le_refl _) _
          have hz_190 : w5.heap.size ≤ w5.heap.size + 1 := by have := (hb_189).size; first | omega | (simp at this; omega)
          have c_191 : (w5.alloc (.cells #[.bool (!y)] 4)).cell? ⟨w1.heap.size, 0, none⟩ = some (v1) := below_later hb_189 c_18; clear c_18
          have c_192 : (w5.alloc (.cells #[.bool (!y)] 4)).cell? ⟨w1.heap.size, 1, none⟩ = some (v2) := below_later hb_189 c_19; clear c_19
          have z_193 : (w5.alloc (.cells #[.bool (!y)] 4)).frozen? ⟨w1.heap.size, 0, none⟩ = false := (Below.frozen hb_189 (p := ⟨w1.heap.size, 0, none⟩) (by show w1.heap.size < _; first | omega | (simp; done) | (simp; omega))).trans z_20
          have z_194 : (w5.alloc (.cells #[.bool (!y)] 4)).frozen? ⟨w1.heap.size, 1, none⟩ = false := (Below.frozen hb_189 (p := ⟨w1.heap.size, 1, none⟩) (by show w1.heap.size < _; first | omega | (simp; done) | (simp; omega))).trans z_21
          have c_195 : (w5.alloc (.cells #[.bool (!y)] 4)).cell? ⟨w.heap.size, 1, none⟩ = some (.slice (some ⟨be, offe, none⟩) a0.2.length ecap') := below_later hb_189 c_22; clear c_22
          have c_196 : (w5.alloc (.cells #[.bool (!y)] 4)).cell? ⟨be, offe + i, none⟩ = some (.bool y) := below_later hb_189 c_23; clear c_23
          have hz_197 : w1.heap.size + 1 ≤ w5.heap.size + 1 := Nat.le_trans hz_24 hz_190
          have BD_198 := Lib.hid (BD_25.out.later kIntS_ok hb_189)
          have BD_199 := Lib.hid (BD_26.out.later kBool_ok hb_189)
          have BL_200 := Lib.hid (Below.trans BL_27.out (Below.mono hb_189 (by have := (BL_27.out).size; first | omega | (simp at this; omega) | (simp at this ⊢; omega))))
          have BL_201 := Lib.hid (Below.trans BL_28.out (Below.mono hb_189 (by have := (BL_28.out).size; first | omega | (simp at this; omega) | (simp at this ⊢; omega))))
          have OW_202 := Lib.hid (kIntS_ok.oframe OW_29.out (w' := (w5.alloc (.cells #[.bool (!y)] 4))) fun b hm => (hb_189).block b (kIntS_ok.olt OW_29.out b hm))
          clear hb_189
          have c_203 : (w5.alloc (.cells #[.bool (!y)] 4)).cell? ⟨w5.heap.size, 0, none⟩ = some (.bool (!y)) := by go_simp
          have z_204 : (w5.alloc (.cells #[.bool (!y)] 4)).frozen? ⟨w5.heap.size, 0, none⟩ = false := by go_simp
          have hz_205 : w5.heap.size < w5.heap.size + 1 := by omega
          have ND_206 : Hid (∀ b ∈ [w5.heap.size], b ∉ fp1) := Lib.hid (by intro b hb hm; simp only [List.mem_singleton] at hb; subst hb; have := (LT_186.out _ hm); first | omega | (simp at this; omega))
          have ND_207 : Hid (∀ b ∈ [w5.heap.size], b ∉ fp2) := Lib.hid (by intro b hb hm; simp only [List.mem_singleton] at hb; subst hb; have := (LT_187.out _ hm); first | omega | (simp at this; omega))
          have ND_208 : Hid (∀ b ∈ [w5.heap.size], b ∉ [gq]) := Lib.hid (by intro b hb hm; simp only [List.mem_singleton] at hb; subst hb; have := (LT_188.out _ hm); first | omega | (simp at this; omega))
          refine hK.out _ _ (Or.inr ?khHeld28) (fun hHeld28S => ?_)
          case khHeld28 => exact ⟨c_191, c_192, c_195, c_196⟩
          have hHeld28 := hHeld28S.held (by kernel_rfl)
          clear hK K
          try simp only [Act.put, List.setIfInBounds_toArray, List.set_cons_zero, List.set_cons_succ]
          refine wpG_one (i := 4) (o := { dst := some 24, op := Go.Op.buildSlice 22 1 #[(0, Go.Operand.tmp 23)], type := 22, pos := "l12_machine.go:198", after := #[{ on := 3, ground := Go.Ground.data }], guard := none }) rfl (by kernel_rfl) (fun K hK => ?_)
          go_simp
          have LT_209 : Hid (∀ b ∈ fp1, b < w5.heap.size + 1) := Lib.hid (fun b hm => by have := (BD_198.out.lt kIntS_ok b hm); first | exact this | omega | (simp at this; omega))
          have LT_210 : Hid (∀ b ∈ fp2, b < w5.heap.size + 1) := Lib.hid (fun b hm => by have := (BD_199.out.lt kBool_ok b hm); first | exact this | omega | (simp at this; omega))
          have LT_211 : Hid (∀ b ∈ [gq], b < w5.heap.size + 1) := Lib.hid (fun b hm => by have := (kIntS_ok.olt OW_202.out b hm); first | exact this | omega | (simp at this; omega))
          have hb_212 : Below (w5.alloc (.cells #[.bool (!y)] 4)).heap.size (w5.alloc (.cells #[.bool (!y)] 4)) ((w5.alloc (.cells #[.bool (!y)] 4)).alloc (.cells #[.slice (some ⟨gq, 0, none⟩) l.length cq] 42)) := (Below.refl _ _).alloc (Nat.le_refl _) _
          have hz_213 : w5.heap.size + 1 ≤ w5.heap.size + 1 + 1 := by have := (hb_212).size; first | omega | (simp at this; omega)
          have c_214 : ((w5.alloc (.cells #[.bool (!y)] 4)).alloc (.cells #[.slice (some ⟨gq, 0, none⟩) l.length cq] 42)).cell? ⟨w1.heap.size, 0, none⟩ = some (v1) := below_later hb_212 c_191; clear c_191
          have c_215 : ((w5.alloc (.cells #[.bool (!y)] 4)).alloc (.cells #[.slice (some ⟨gq, 0, none⟩) l.length cq] 42)).cell? ⟨w1.heap.size, 1, none⟩ = some (v2) := below_later hb_212 c_192; clear c_192
          have z_216 : ((w5.alloc (.cells #[.bool (!y)] 4)).alloc (.cells #[.slice (some ⟨gq, 0, none⟩) l.length cq] 42)).frozen? ⟨w1.heap.size, 0, none⟩ = false := (Below.frozen hb_212 (p := ⟨w1.heap.size, 0, none⟩) (by show w1.heap.size < _; first | omega | (simp; done) | (simp; omega))).trans z_193
          have z_217 : ((w5.alloc (.cells #[.bool (!y)] 4)).alloc (.cells #[.slice (some ⟨gq, 0, none⟩) l.length cq] 42)).frozen? ⟨w1.heap.size, 1, none⟩ = false := (Below.frozen hb_212 (p := ⟨w1.heap.size, 1, none⟩) (by show w1.heap.size < _; first | omega | (simp; done) | (simp; omega))).trans z_194
          have c_218 : ((w5.alloc (.cells #[.bool (!y)] 4)).alloc (.cells #[.slice (some ⟨gq, 0, none⟩) l.length cq] 42)).cell? ⟨w.heap.size, 1, none⟩ = some (.slice (some ⟨be, offe, none⟩) a0.2.length ecap') := below_later hb_212 c_195; clear c_195
          have c_219 : ((w5.alloc (.cells #[.bool (!y)] 4)).alloc (.cells #[.slice (some ⟨gq, 0, none⟩) l.length cq] 42)).cell? ⟨be, offe + i, none⟩ = some (.bool y) := below_later hb_212 c_196; clear c_196
          have hz_220 : w1.heap.size + 1 ≤ w5.heap.size + 1 + 1 := Nat.le_trans hz_197 hz_213
          have BD_221 := Lib.hid (BD_198.out.later kIntS_ok hb_212)
          have BD_222 := Lib.hid (BD_199.out.later kBool_ok hb_212)
          have BL_223 := Lib.hid (Below.trans BL_200.out (Below.mono hb_212 (by have := (BL_200.out).size; first | omega | (simp at this; omega) | (simp at this ⊢; omega))))
          have BL_224 := Lib.hid (Below.trans BL_201.out (Below.mono hb_212 (by have := (BL_201.out).size; first | omega | (simp at this; omega) | (simp at this ⊢; omega))))
          have OW_225 := Lib.hid (kIntS_ok.oframe OW_202.out (w' := ((w5.alloc (.cells #[.bool (!y)] 4)).alloc (.cells #[.slice (some ⟨gq, 0, none⟩) l.length cq] 42))) fun b hm => (hb_212).block b (kIntS_ok.olt OW_202.out b hm))
          have c_226 : ((w5.alloc (.cells #[.bool (!y)] 4)).alloc (.cells #[.slice (some ⟨gq, 0, none⟩) l.length cq] 42)).cell? ⟨w5.heap.size, 0, none⟩ = some (.bool (!y)) := below_later hb_212 c_203; clear c_203
          have z_227 : ((w5.alloc (.cells #[.bool (!y)] 4)).alloc (.cells #[.slice (some ⟨gq, 0, none⟩) l.length cq] 42)).frozen? ⟨w5.heap.size, 0, none⟩ = false := (Below.frozen hb_212 (p := ⟨w5.heap.size, 0, none⟩) (by show w5.heap.size < _; first | omega | (simp; done) | (simp; omega))).trans z_204
          have hz_228 : w5.heap.size + 1 ≤ w5.heap.size + 1 + 1 := Nat.le_trans hz_205 hz_213
          clear hb_212
          have c_229 : ((w5.alloc (.cells #[.bool (!y)] 4)).alloc (.cells #[.slice (some ⟨gq, 0, none⟩) l.length cq] 42)).cell? ⟨w5.heap.size + 1, 0, none⟩ = some (.slice (some ⟨gq, 0, none⟩) l.length cq) := by go_simp
          have z_230 : ((w5.alloc (.cells #[.bool (!y)] 4)).alloc (.cells #[.slice (some ⟨gq, 0, none⟩) l.length cq] 42)).frozen? ⟨w5.heap.size + 1, 0, none⟩ = false := by go_simp
          have hz_231 : w5.heap.size + 1 < w5.heap.size + 1 + 1 := by omega
          have ND_232 : Hid (∀ b ∈ [w5.heap.size + 1], b ∉ fp1) := Lib.hid (by intro b hb hm; simp only [List.mem_singleton] at hb; subst hb; have := (LT_209.out _ hm); first | omega | (simp at this; omega))
          have ND_233 : Hid (∀ b ∈ [w5.heap.size + 1], b ∉ fp2) := Lib.hid (by intro b hb hm; simp only [List.mem_singleton] at hb; subst hb; have := (LT_210.out _ hm); first | omega | (simp at this; omega))
          have ND_234 : Hid (∀ b ∈ [w5.heap.size + 1], b ∉ [gq]) := Lib.hid (by intro b hb hm; simp only [List.mem_singleton] at hb; subst hb; have := (LT_211.out _ hm); first | omega | (simp at this; omega))
          refine hK.out _ _ (Or.inr ?khHeld29) (fun hHeld29S => ?_)
          case khHeld29 => exact ⟨c_214, c_215, c_218, c_219⟩
          have hHeld29 := hHeld29S.held (by kernel_rfl)
          clear hK K
          try simp only [Act.put, List.setIfInBounds_toArray, List.set_cons_zero, List.set_cons_succ]
          refine wpG_one (i := 5) (o := { dst := some 25, op := Go.Op.call { callee := Go.Callee.builtin Go.Builtin.append, args := #[Go.Operand.tmp 21, Go.Operand.tmp 24], argTypes := #[22, 22] }, type := 22, pos := "l12_machine.go:198", after := #[{ on := 1, ground := Go.Ground.data }, { on := 4, ground := Go.Ground.data }, { on := 3, ground := Go.Ground.chain }], guard := none }) rfl (by kernel_rfl) (fun K hK => ?_)
          obtain ⟨vss_235, fps_235, hrow, howl, hfp, hnd, hge⟩ := BD_221.out
          rw [HLT1.out] at hrow
          have ROW_235 := Lib.hid hrow; have OWL_235 := Lib.hid howl; have NDU_235 := Lib.hid (hfp ▸ hnd); have GE_235 := Lib.hid (fun b hb => hge b (hfp ▸ hb)); have FPE_235 := Lib.hid hfp; clear hrow howl hnd hge hfp
          refine step_append_lies _ rfl (.tmp 21) (.tmp 24) 22 rfl (w1.heap.size + 1) 42 i1 (.slice none 0 0) 1 24 Try.underlying22 hi1 hy0 hy1 hy2 rfl (by decide) v1 i vss_235.flatten rfl ROW_235.out ⟨w5.heap.size + 1, 0, none⟩ 1 1 [.slice (some ⟨gq, 0, none⟩) l.length cq] rfl rfl (news_at c_229) (by simp [Value.oneCell']) (by omega) HC3.out HC4.out (by first | omega | (simp; omega)) _ rfl ?_
          intro g7 cp7 w7 hown hgrow hat hlt4
          have HG_236 := Lib.hid hgrow; have HATHG_236 := Lib.hid hat; have HONHG_236 := Lib.hid hown
          clear hgrow hat hown
          have hz_237 : w5.heap.size + 1 + 1 ≤ w7.heap.size := by have := HG_236.out.size; first | omega | (simp at this; omega)
          have LT_238 : Hid (∀ b ∈ fp1, b < w5.heap.size + 1 + 1) := Lib.hid (fun b hm => by have := (BD_221.out.lt kIntS_ok b hm); first | exact this | omega | (simp at this; omega))
          have LT_239 : Hid (∀ b ∈ fp2, b < w5.heap.size + 1 + 1) := Lib.hid (fun b hm => by have := (BD_222.out.lt kBool_ok b hm); first | exact this | omega | (simp at this; omega))
          have LT_240 : Hid (∀ b ∈ [gq], b < w5.heap.size + 1 + 1) := Lib.hid (fun b hm => by have := (kIntS_ok.olt OW_225.out b hm); first | exact this | omega | (simp at this; omega))
          have BD_241 := Lib.hid (Bd.app HLT1.out kIntS_ok ROW_235.out OWL_235.out NDU_235.out GE_235.out OW_225.out (by simp) (fun b hb hm => ND_30.out b hb (FPE_235.out ▸ hm)) (fun b hb => by have := hgeq b hb; omega) HONHG_236.out HG_236.out HATHG_236.out (by first | omega | (simp; done) | (simp; omega)))
          have c_242 : w7.cell? ⟨w1.heap.size, 0, none⟩ = some (v1) := BD_221.out.cell_grown HG_236.out c_214 (by first | omega | (simp; done) | (simp; omega))
          have c_243 : w7.cell? ⟨w1.heap.size, 1, none⟩ = some (v2) := BD_221.out.cell_grown HG_236.out c_215 (by first | omega | (simp; done) | (simp; omega))
          have z_244 : w7.frozen? ⟨w1.heap.size, 0, none⟩ = false := BD_221.out.frozen_grown HG_236.out (by first | omega | (simp; done) | (simp; omega)) z_216 (by first | omega | (simp; done) | (simp; omega))
          have z_245 : w7.frozen? ⟨w1.heap.size, 1, none⟩ = false := BD_221.out.frozen_grown HG_236.out (by first | omega | (simp; done) | (simp; omega)) z_217 (by first | omega | (simp; done) | (simp; omega))
          have c_246 : w7.cell? ⟨w.heap.size, 1, none⟩ = some (.slice (some ⟨be, offe, none⟩) a0.2.length ecap') := BD_221.out.cell_grown HG_236.out c_218 (by first | omega | (simp; done) | (simp; omega))
          have c_247 : w7.cell? ⟨be, offe + i, none⟩ = some (.bool y) := BD_221.out.cell_grown HG_236.out c_219 (by first | omega | (simp; done) | (simp; omega))
          have hz_248 : w1.heap.size + 1 ≤ w7.heap.size := Nat.le_trans hz_220 hz_237
          have BD_249 := Lib.hid (BD_222.out.grown kBool_ok HG_236.out (fun k hk hm => DIS.out k (BD_221.out.own_mem k hk) hm))
          have ND_250 : Hid (∀ b ∈ (g7 :: (fps_235.flatten ++ [gq])), b ∉ fp2) := Lib.hid (fun b hm hs => (app_in HATHG_236.out hm).elim (fun h => DIS.out b (FPE_235.out ▸ h) hs) (fun h => h.elim (fun h => by exact ND_31.out b h hs) (fun h => by have := LT_239.out b hs; first | omega | (simp at h; omega))))
          have BL_251 := Lib.hid (Below.grown BL_223.out HG_236.out (by have := (BL_223.out).size; first | omega | (simp at this; omega) | (simp at this ⊢; omega)) (fun k hk => Nat.le_trans (by first | omega | (simp; done) | (simp; omega)) (BD_221.out.own_ge k hk)))
          have BL_252 := Lib.hid (Below.grown BL_224.out HG_236.out (by have := (BL_224.out).size; first | omega | (simp at this; omega) | (simp at this ⊢; omega)) (fun k hk => Nat.le_trans (by first | omega | (simp; done) | (simp; omega)) (BD_221.out.own_ge k hk)))
          have c_253 : w7.cell? ⟨w5.heap.size, 0, none⟩ = some (.bool (!y)) := (HG_236.out.cell_far ⟨w5.heap.size, 0, none⟩ (World.block_lt_of_cell? _ _ c_226) (fun he => ND_206.out _ (by simp) (BD_221.out.own_mem _ he.symm))).trans c_226
          have z_254 : w7.frozen? ⟨w5.heap.size, 0, none⟩ = false := (HG_236.out.frozen_far ⟨w5.heap.size, 0, none⟩ (by first | omega | (simp; done) | (simp; omega)) (fun he => ND_206.out _ (by simp) (BD_221.out.own_mem _ he.symm))).trans z_227
          have hz_255 : w5.heap.size + 1 ≤ w7.heap.size := Nat.le_trans hz_228 hz_237
          have c_256 : w7.cell? ⟨w5.heap.size + 1, 0, none⟩ = some (.slice (some ⟨gq, 0, none⟩) l.length cq) := (HG_236.out.cell_far ⟨w5.heap.size + 1, 0, none⟩ (World.block_lt_of_cell? _ _ c_229) (fun he => ND_232.out _ (by simp) (BD_221.out.own_mem _ he.symm))).trans c_229
          have z_257 : w7.frozen? ⟨w5.heap.size + 1, 0, none⟩ = false := (HG_236.out.frozen_far ⟨w5.heap.size + 1, 0, none⟩ (by first | omega | (simp; done) | (simp; omega)) (fun he => ND_232.out _ (by simp) (BD_221.out.own_mem _ he.symm))).trans z_230
          have hz_258 : w5.heap.size + 1 + 1 ≤ w7.heap.size := Nat.le_trans hz_231 hz_237
          refine hK.out _ _ (Or.inr ?khHeld30) (fun hHeld30S => ?_)
          case khHeld30 => exact ⟨c_242, c_243, c_246, c_247⟩
          have hHeld30 := hHeld30S.held (by kernel_rfl)
          clear hK K
          try simp only [Act.put, List.setIfInBounds_toArray, List.set_cons_zero, List.set_cons_succ]
          refine wpG_pure (i := 16) (oi := { dst := some 36, op := Go.Op.fieldAddr 28 (Go.Operand.tmp 4) 0, type := 0, pos := "l12_machine.go:198", after := #[{ on := 0, ground := Go.Ground.phase }, { on := 1, ground := Go.Ground.phase }, { on := 2, ground := Go.Ground.phase }, { on := 3, ground := Go.Ground.phase }, { on := 4, ground := Go.Ground.phase }, { on := 5, ground := Go.Ground.phase }, { on := 6, ground := Go.Ground.phase }, { on := 7, ground := Go.Ground.phase }, { on := 8, ground := Go.Ground.textOnly Go.Departure.lateStores }, { on := 9, ground := Go.Ground.textOnly Go.Departure.lateStores }, { on := 10, ground := Go.Ground.textOnly Go.Departure.lateStores }, { on := 11, ground := Go.Ground.textOnly Go.Departure.lateStores }, { on := 12, ground := Go.Ground.textOnly Go.Departure.lateStores }, { on := 13, ground := Go.Ground.textOnly Go.Departure.lateStores }, { on := 14, ground := Go.Ground.textOnly Go.Departure.lateStores }, { on := 15, ground := Go.Ground.textOnly Go.Departure.lateStoresUnsure }], guard := none }) (v := ?vg31) rfl (by kernel_rfl) (fun _ _ _ h => h) (Or.inr hHeld30) (Or.inl ⟨by rfl, ?yg31⟩) ?_
          case yg31 => (intro wS _; go_simp <;> with_reducible rfl)
          try simp only [Act.put, List.setIfInBounds_toArray, List.set_cons_zero, List.set_cons_succ]
          refine wpG_one (i := 15) (o := { dst := some 35, op := Go.Op.call { callee := Go.Callee.builtin Go.Builtin.append, args := #[Go.Operand.tmp 27, Go.Operand.tmp 34], argTypes := #[23, 23] }, type := 23, pos := "l12_machine.go:198", after := #[{ on := 7, ground := Go.Ground.data }, { on := 14, ground := Go.Ground.data }, { on := 5, ground := Go.Ground.chain }], guard := none }) rfl (by kernel_rfl) (fun K hK => ?_)
          obtain ⟨vss_259, fps_259, hrow, howl, hfp, hnd, hge⟩ := BD_249.out
          rw [HLT2.out] at hrow
          have ROW_259 := Lib.hid hrow; have OWL_259 := Lib.hid howl; have NDU_259 := Lib.hid (hfp ▸ hnd); have GE_259 := Lib.hid (fun b hb => hge b (hfp ▸ hb)); have FPE_259 := Lib.hid hfp; clear hrow howl hnd hge hfp
          refine step_append_lies _ rfl (.tmp 27) (.tmp 34) 23 rfl (w1.heap.size + 1) 4 i2 (.bool false) 1 1 Try.underlying23 hi2 hx0 hx1 hx2 rfl (by decide) v2 i vss_259.flatten rfl ROW_259.out ⟨w5.heap.size, 0, none⟩ 1 1 [.bool (!y)] rfl rfl (news_at c_253) (by simp [Value.oneCell']) (by omega) HC5.out HC6.out (by first | omega | (simp; omega)) _ rfl ?_
          intro g9 cp9 w9 hown hgrow hat hlt4
          have HG_260 := Lib.hid hgrow; have HATHG_260 := Lib.hid hat; have HONHG_260 := Lib.hid hown
          clear hgrow hat hown
          have hz_261 : w7.heap.size ≤ w9.heap.size := by have := HG_260.out.size; first | omega | (simp at this; omega)
          have LT_262 : Hid (∀ b ∈ (g7 :: (fps_235.flatten ++ [gq])), b < w7.heap.size) := Lib.hid (fun b hm => by have := (BD_241.out.lt kIntS_ok b hm); first | exact this | omega | (simp at this; omega))
          have LT_263 : Hid (∀ b ∈ fp2, b < w7.heap.size) := Lib.hid (fun b hm => by have := (BD_249.out.lt kBool_ok b hm); first | exact this | omega | (simp at this; omega))
          have BD_264 := Lib.hid (Bd.app HLT2.out kBool_ok ROW_259.out OWL_259.out NDU_259.out GE_259.out ⟨rfl, rfl, trivial⟩ List.nodup_nil (fun b hb => absurd hb (by simp)) (fun b hb => absurd hb (by simp)) HONHG_260.out HG_260.out HATHG_260.out (by first | omega | (simp; done) | (simp; omega)))
          have c_265 : w9.cell? ⟨w1.heap.size, 0, none⟩ = some (v1) := BD_249.out.cell_grown HG_260.out c_242 (by first | omega | (simp; done) | (simp; omega))
          have c_266 : w9.cell? ⟨w1.heap.size, 1, none⟩ = some (v2) := BD_249.out.cell_grown HG_260.out c_243 (by first | omega | (simp; done) | (simp; omega))
          have z_267 : w9.frozen? ⟨w1.heap.size, 0, none⟩ = false := BD_249.out.frozen_grown HG_260.out (by first | omega | (simp; done) | (simp; omega)) z_244 (by first | omega | (simp; done) | (simp; omega))
          have z_268 : w9.frozen? ⟨w1.heap.size, 1, none⟩ = false := BD_249.out.frozen_grown HG_260.out (by first | omega | (simp; done) | (simp; omega)) z_245 (by first | omega | (simp; done) | (simp; omega))
          have c_269 : w9.cell? ⟨w.heap.size, 1, none⟩ = some (.slice (some ⟨be, offe, none⟩) a0.2.length ecap') := BD_249.out.cell_grown HG_260.out c_246 (by first | omega | (simp; done) | (simp; omega))
          have c_270 : w9.cell? ⟨be, offe + i, none⟩ = some (.bool y) := BD_249.out.cell_grown HG_260.out c_247 (by first | omega | (simp; done) | (simp; omega))
          have hz_271 : w1.heap.size + 1 ≤ w9.heap.size := Nat.le_trans hz_248 hz_261
          have BD_272 := Lib.hid (BD_241.out.grown kIntS_ok HG_260.out (fun k hk hm => (fun x hx hy => ND_250.out x hy hx) k (BD_249.out.own_mem k hk) hm))
          have ND_273 : Hid (∀ b ∈ (g9 :: (fps_259.flatten ++ [])), b ∉ (g7 :: (fps_235.flatten ++ [gq]))) := Lib.hid (fun b hm hs => (app_in HATHG_260.out hm).elim (fun h => (fun x hx hy => ND_250.out x hy hx) b (FPE_259.out ▸ h) hs) (fun h => h.elim (fun h => by simp at h) (fun h => by have := LT_262.out b hs; first | omega | (simp at h; omega))))
          have BL_274 := Lib.hid (Below.grown BL_251.out HG_260.out (by have := (BL_251.out).size; first | omega | (simp at this; omega) | (simp at this ⊢; omega)) (fun k hk => Nat.le_trans (by first | omega | (simp; done) | (simp; omega)) (BD_249.out.own_ge k hk)))
          have BL_275 := Lib.hid (Below.grown BL_252.out HG_260.out (by have := (BL_252.out).size; first | omega | (simp at this; omega) | (simp at this ⊢; omega)) (fun k hk => Nat.le_trans (by first | omega | (simp; done) | (simp; omega)) (BD_249.out.own_ge k hk)))
          have c_276 : w9.cell? ⟨w5.heap.size, 0, none⟩ = some (.bool (!y)) := (HG_260.out.cell_far ⟨w5.heap.size, 0, none⟩ (World.block_lt_of_cell? _ _ c_253) (fun he => ND_207.out _ (by simp) (BD_249.out.own_mem _ he.symm))).trans c_253
          have z_277 : w9.frozen? ⟨w5.heap.size, 0, none⟩ = false := (HG_260.out.frozen_far ⟨w5.heap.size, 0, none⟩ (by first | omega | (simp; done) | (simp; omega)) (fun he => ND_207.out _ (by simp) (BD_249.out.own_mem _ he.symm))).trans z_254
          have hz_278 : w5.heap.size + 1 ≤ w9.heap.size := Nat.le_trans hz_255 hz_261
          refine hK.out _ _ (Or.inl (by kernel_rfl)) (fun _ => ?_)
          clear hK K
          try simp only [Act.put, List.setIfInBounds_toArray, List.set_cons_zero, List.set_cons_succ]
          refine wpG_one (i := 17) (o := { dst := none, op := Go.Op.store 22 (Go.Operand.tmp 36) (Go.Operand.tmp 25), type := 0, pos := "l12_machine.go:198", after := #[{ on := 16, ground := Go.Ground.data }, { on := 5, ground := Go.Ground.data }, { on := 15, ground := Go.Ground.chain }, { on := 0, ground := Go.Ground.phase }, { on := 1, ground := Go.Ground.phase }, { on := 2, ground := Go.Ground.phase }, { on := 3, ground := Go.Ground.phase }, { on := 4, ground := Go.Ground.phase }, { on := 5, ground := Go.Ground.phase }, { on := 6, ground := Go.Ground.phase }, { on := 7, ground := Go.Ground.phase }, { on := 8, ground := Go.Ground.textOnly Go.Departure.lateStores }, { on := 9, ground := Go.Ground.textOnly Go.Departure.lateStores }, { on := 10, ground := Go.Ground.textOnly Go.Departure.lateStores }, { on := 11, ground := Go.Ground.textOnly Go.Departure.lateStores }, { on := 12, ground := Go.Ground.textOnly Go.Departure.lateStores }, { on := 13, ground := Go.Ground.textOnly Go.Departure.lateStores }, { on := 14, ground := Go.Ground.textOnly Go.Departure.lateStores }, { on := 15, ground := Go.Ground.textOnly Go.Departure.lateStoresUnsure }], guard := none }) rfl (by kernel_rfl) (fun K hK => ?_)
          go_simp
          refine hK.out _ _ (Or.inl (by kernel_rfl)) (fun _ => ?_)
          clear hK K
          try simp only [Act.put, List.setIfInBounds_toArray, List.set_cons_zero, List.set_cons_succ]
          refine wpG_pure (i := 18) (oi := { dst := some 37, op := Go.Op.fieldAddr 28 (Go.Operand.tmp 4) 1, type := 0, pos := "l12_machine.go:198", after := #[{ on := 0, ground := Go.Ground.phase }, { on := 1, ground := Go.Ground.phase }, { on := 2, ground := Go.Ground.phase }, { on := 3, ground := Go.Ground.phase }, { on := 4, ground := Go.Ground.phase }, { on := 5, ground := Go.Ground.phase }, { on := 6, ground := Go.Ground.phase }, { on := 7, ground := Go.Ground.phase }, { on := 8, ground := Go.Ground.phase }, { on := 9, ground := Go.Ground.phase }, { on := 10, ground := Go.Ground.phase }, { on := 11, ground := Go.Ground.phase }, { on := 12, ground := Go.Ground.phase }, { on := 13, ground := Go.Ground.phase }, { on := 14, ground := Go.Ground.phase }, { on := 15, ground := Go.Ground.phase }, { on := 16, ground := Go.Ground.phase }, { on := 17, ground := Go.Ground.phase }], guard := none }) (v := ?vg34) rfl (by kernel_rfl) (fun _ _ _ h => h) (Or.inl (by kernel_rfl)) (Or.inl ⟨by rfl, ?yg34⟩) ?_
          case yg34 => (intro wS _; go_simp <;> with_reducible rfl)
          try simp only [Act.put, List.setIfInBounds_toArray, List.set_cons_zero, List.set_cons_succ]
          refine wpG_one (i := 19) (o := { dst := none, op := Go.Op.store 23 (Go.Operand.tmp 37) (Go.Operand.tmp 35), type := 0, pos := "l12_machine.go:198", after := #[{ on := 18, ground := Go.Ground.data }, { on := 15, ground := Go.Ground.data }, { on := 17, ground := Go.Ground.chain }, { on := 0, ground := Go.Ground.phase }, { on := 1, ground := Go.Ground.phase }, { on := 2, ground := Go.Ground.phase }, { on := 3, ground := Go.Ground.phase }, { on := 4, ground := Go.Ground.phase }, { on := 5, ground := Go.Ground.phase }, { on := 6, ground := Go.Ground.phase }, { on := 7, ground := Go.Ground.phase }, { on := 8, ground := Go.Ground.phase }, { on := 9, ground := Go.Ground.phase }, { on := 10, ground := Go.Ground.phase }, { on := 11, ground := Go.Ground.phase }, { on := 12, ground := Go.Ground.phase }, { on := 13, ground := Go.Ground.phase }, { on := 14, ground := Go.Ground.phase }, { on := 15, ground := Go.Ground.phase }, { on := 16, ground := Go.Ground.phase }, { on := 17, ground := Go.Ground.phase }], guard := none }) rfl (by kernel_rfl) (fun K hK => ?_)
          go_simp
          refine hK.out _ _ (Or.inl (by kernel_rfl)) (fun _ => ?_)
          clear hK K
          try simp only [Act.put, List.setIfInBounds_toArray, List.set_cons_zero, List.set_cons_succ]
          refine wpG_done (by kernel_rfl) ?_
          go_wp2_with fail
          go_roundw
          case rel =>
            have hb1 := (BD_272.out.setCell kIntS_ok (a := ⟨w1.heap.size, 0, none⟩) (by show w1.heap.size < w1.heap.size + 1; omega) (.slice (some ⟨g7, 0, none⟩) (i + 1) cp7)).setCell kIntS_ok (a := ⟨w1.heap.size, 1, none⟩) (by show w1.heap.size < w1.heap.size + 1; omega) (.slice (some ⟨g9, 0, none⟩) (i + 1) cp9)
            have hb2 := (BD_264.out.setCell kBool_ok (a := ⟨w1.heap.size, 0, none⟩) (by show w1.heap.size < w1.heap.size + 1; omega) (.slice (some ⟨g7, 0, none⟩) (i + 1) cp7)).setCell kBool_ok (a := ⟨w1.heap.size, 1, none⟩) (by show w1.heap.size < w1.heap.size + 1; omega) (.slice (some ⟨g9, 0, none⟩) (i + 1) cp9)
            rw [HT1.out] at hb1; rw [HT2.out] at hb2
            refine ⟨i + 1, _, _, _, _, by omega, by go_num, Lib.hid ⟨?_, ?_, ?_, ?_, ?_⟩, Lib.hid hb1, Lib.hid hb2, Lib.hid (fun x hx hy => ND_273.out x hy hx), Lib.hid ((BL_274.out.setCell (p := ⟨w1.heap.size, 0, none⟩) (Nat.le_refl _) _).setCell (p := ⟨w1.heap.size, 1, none⟩) (Nat.le_refl _) _)⟩
            · go_simp
            · go_simp
            · go_simp
            · go_simp
            · rw [World.size_setCell, World.size_setCell]; omega
          case measure => simp [intOf]; omega
      · skip
        go_simp
        have LT_279 : Hid (∀ b ∈ fp1, b < wr.heap.size) := Lib.hid (fun b hm => by have := (BD_10.out.lt kIntS_ok b hm); first | exact this | omega | (simp at this; omega))
        have LT_280 : Hid (∀ b ∈ fp2, b < wr.heap.size) := Lib.hid (fun b hm => by have := (BD_11.out.lt kBool_ok b hm); first | exact this | omega | (simp at this; omega))
        have hb_281 : Below wr.drew.heap.size wr.drew (wr.alloc (.cells #[.bool (!y)] 4)).drew := below_alloc_drew _ _
        have hz_282 : wr.heap.size ≤ wr.heap.size + 1 := by have := (hb_281).size; first | omega | (simp at this; omega)
        have c_283 : (wr.alloc (.cells #[.bool (!y)] 4)).drew.cell? ⟨w1.heap.size, 0, none⟩ = some (v1) := below_later hb_281 c_3; clear c_3
        have c_284 : (wr.alloc (.cells #[.bool (!y)] 4)).drew.cell? ⟨w1.heap.size, 1, none⟩ = some (v2) := below_later hb_281 c_4; clear c_4
        have z_285 : (wr.alloc (.cells #[.bool (!y)] 4)).drew.frozen? ⟨w1.heap.size, 0, none⟩ = false := (Below.frozen hb_281 (p := ⟨w1.heap.size, 0, none⟩) (by show w1.heap.size < _; first | omega | (simp; done) | (simp; omega))).trans z_5
        have z_286 : (wr.alloc (.cells #[.bool (!y)] 4)).drew.frozen? ⟨w1.heap.size, 1, none⟩ = false := (Below.frozen hb_281 (p := ⟨w1.heap.size, 1, none⟩) (by show w1.heap.size < _; first | omega | (simp; done) | (simp; omega))).trans z_6
        have c_287 : (wr.alloc (.cells #[.bool (!y)] 4)).drew.cell? ⟨w.heap.size, 1, none⟩ = some (.slice (some ⟨be, offe, none⟩) a0.2.length ecap') := below_later hb_281 c_7; clear c_7
        have c_288 : (wr.alloc (.cells #[.bool (!y)] 4)).drew.cell? ⟨be, offe + i, none⟩ = some (.bool y) := below_later hb_281 c_8; clear c_8
        have hz_289 : w1.heap.size + 1 ≤ wr.heap.size + 1 := Nat.le_trans hz_9 hz_282
        have BD_290 := Lib.hid (BD_10.out.later kIntS_ok hb_281)
        have BD_291 := Lib.hid (BD_11.out.later kBool_ok hb_281)
        have BL_292 := Lib.hid (Below.trans BL_12.out (Below.mono hb_281 (by have := (BL_12.out).size; first | omega | (simp at this; omega) | (simp at this ⊢; omega))))
        have BL_293 := Lib.hid (Below.trans BL_13.out (Below.mono hb_281 (by have := (BL_13.out).size; first | omega | (simp at this; omega) | (simp at this ⊢; omega))))
        clear hb_281
        have c_294 : (wr.alloc (.cells #[.bool (!y)] 4)).drew.cell? ⟨wr.heap.size, 0, none⟩ = some (.bool (!y)) := by go_simp
        have z_295 : (wr.alloc (.cells #[.bool (!y)] 4)).drew.frozen? ⟨wr.heap.size, 0, none⟩ = false := by go_simp
        have hz_296 : wr.heap.size < wr.heap.size + 1 := by omega
        have ND_297 : Hid (∀ b ∈ [wr.heap.size], b ∉ fp1) := Lib.hid (by intro b hb hm; simp only [List.mem_singleton] at hb; subst hb; have := (LT_279.out _ hm); first | omega | (simp at this; omega))
        have ND_298 : Hid (∀ b ∈ [wr.heap.size], b ∉ fp2) := Lib.hid (by intro b hb hm; simp only [List.mem_singleton] at hb; subst hb; have := (LT_280.out _ hm); first | omega | (simp at this; omega))
        refine hK.out _ _ (Or.inr ?khHeld36) (fun hHeld36S => ?_)
        case khHeld36 => exact ⟨c_283, c_284, c_287, c_288⟩
        have hHeld36 := hHeld36S.held (by kernel_rfl)
        clear hK K
        try simp only [Act.put, List.setIfInBounds_toArray, List.set_cons_zero, List.set_cons_succ]
        refine wpG_one (i := 3) (o := { dst := some 23, op := Go.Op.call { callee := Go.Callee.value (Go.Operand.func 48), args := #[Go.Operand.tmp 22], argTypes := #[42] }, type := 42, pos := "l12_machine.go:198", after := #[{ on := 2, ground := Go.Ground.data }], guard := none }) rfl (by kernel_rfl) (fun K hK => ?_)
        go_simp
        refine (HCL2.out _ BL_293.out).mono ?_
        rintro e w5 ⟨gq, cq, rfl, hoq, hgq, hb5⟩
        have hgeq : ∀ b ∈ [gq], wr.heap.size + 1 ≤ b := fun b hb => by rw [List.mem_singleton] at hb; subst hb; first | exact hgq | (simp at hgq; omega)
        have LT_299 : Hid (∀ b ∈ fp1, b < wr.heap.size + 1) := Lib.hid (fun b hm => by have := (BD_290.out.lt kIntS_ok b hm); first | exact this | omega | (simp at this; omega))
        have LT_300 : Hid (∀ b ∈ fp2, b < wr.heap.size + 1) := Lib.hid (fun b hm => by have := (BD_291.out.lt kBool_ok b hm); first | exact this | omega | (simp at this; omega))
        have hb_301 : Below (wr.alloc (.cells #[.bool (!y)] 4)).drew.heap.size (wr.alloc (.cells #[.bool (!y)] 4)).drew w5 := hb5
        have hz_302 : wr.heap.size + 1 ≤ w5.heap.size := by have := (hb_301).size; first | omega | (simp at this; omega)
        have c_303 : w5.cell? ⟨w1.heap.size, 0, none⟩ = some (v1) := below_later hb_301 c_283; clear c_283
        have c_304 : w5.cell? ⟨w1.heap.size, 1, none⟩ = some (v2) := below_later hb_301 c_284; clear c_284
        have z_305 : w5.frozen? ⟨w1.heap.size, 0, none⟩ = false := (Below.frozen hb_301 (p := ⟨w1.heap.size, 0, none⟩) (by show w1.heap.size < _; first | omega | (simp; done) | (simp; omega))).trans z_285
        have z_306 : w5.frozen? ⟨w1.heap.size, 1, none⟩ = false := (Below.frozen hb_301 (p := ⟨w1.heap.size, 1, none⟩) (by show w1.heap.size < _; first | omega | (simp; done) | (simp; omega))).trans z_286
        have c_307 : w5.cell? ⟨w.heap.size, 1, none⟩ = some (.slice (some ⟨be, offe, none⟩) a0.2.length ecap') := below_later hb_301 c_287; clear c_287
        have c_308 : w5.cell? ⟨be, offe + i, none⟩ = some (.bool y) := below_later hb_301 c_288; clear c_288
        have hz_309 : w1.heap.size + 1 ≤ w5.heap.size := Nat.le_trans hz_289 hz_302
        have BD_310 := Lib.hid (BD_290.out.later kIntS_ok hb_301)
        have BD_311 := Lib.hid (BD_291.out.later kBool_ok hb_301)
        have BL_312 := Lib.hid (Below.trans BL_292.out (Below.mono hb_301 (by have := (BL_292.out).size; first | omega | (simp at this; omega) | (simp at this ⊢; omega))))
        have BL_313 := Lib.hid (Below.trans BL_293.out (Below.mono hb_301 (by have := (BL_293.out).size; first | omega | (simp at this; omega) | (simp at this ⊢; omega))))
        have c_314 : w5.cell? ⟨wr.heap.size, 0, none⟩ = some (.bool (!y)) := below_later hb_301 c_294; clear c_294
        have z_315 : w5.frozen? ⟨wr.heap.size, 0, none⟩ = false := (Below.frozen hb_301 (p := ⟨wr.heap.size, 0, none⟩) (by show wr.heap.size < _; first | omega | (simp; done) | (simp; omega))).trans z_295
        have hz_316 : wr.heap.size + 1 ≤ w5.heap.size := Nat.le_trans hz_296 hz_302
        clear hb_301
        have OW_317 := Lib.hid hoq
        have ND_318 : Hid (∀ b ∈ [gq], b ∉ fp1) := Lib.hid (by intro b hb hm; have := hgeq b hb; have := LT_299.out b hm; first | omega | (simp at this; omega))
        have ND_319 : Hid (∀ b ∈ [gq], b ∉ fp2) := Lib.hid (by intro b hb hm; have := hgeq b hb; have := LT_300.out b hm; first | omega | (simp at this; omega))
        refine hK.out _ _ (Or.inr ?khHeld37) (fun hHeld37S => ?_)
        case khHeld37 => exact ⟨c_303, c_304, c_307, c_308⟩
        have hHeld37 := hHeld37S.held (by kernel_rfl)
        clear hK K
        try simp only [Act.put, List.setIfInBounds_toArray, List.set_cons_zero, List.set_cons_succ]
        refine wpG_one (i := 4) (o := { dst := some 24, op := Go.Op.buildSlice 22 1 #[(0, Go.Operand.tmp 23)], type := 22, pos := "l12_machine.go:198", after := #[{ on := 3, ground := Go.Ground.data }], guard := none }) rfl (by kernel_rfl) (fun K hK => ?_)
        go_simp
        have LT_320 : Hid (∀ b ∈ fp1, b < w5.heap.size) := Lib.hid (fun b hm => by have := (BD_310.out.lt kIntS_ok b hm); first | exact this | omega | (simp at this; omega))
        have LT_321 : Hid (∀ b ∈ fp2, b < w5.heap.size) := Lib.hid (fun b hm => by have := (BD_311.out.lt kBool_ok b hm); first | exact this | omega | (simp at this; omega))
        have LT_322 : Hid (∀ b ∈ [gq], b < w5.heap.size) := Lib.hid (fun b hm => by have := (kIntS_ok.olt OW_317.out b hm); first | exact this | omega | (simp at this; omega))
        have hb_323 : Below w5.heap.size w5 (w5.alloc (.cells #[.slice (some ⟨gq, 0, none⟩) l.length cq] 42)) := (Below.refl _ _).alloc (Nat.le_refl _) _
        have hz_324 : w5.heap.size ≤ w5.heap.size + 1 := by have := (hb_323).size; first | omega | (simp at this; omega)
        have c_325 : (w5.alloc (.cells #[.slice (some ⟨gq, 0, none⟩) l.length cq] 42)).cell? ⟨w1.heap.size, 0, none⟩ = some (v1) := below_later hb_323 c_303; clear c_303
        have c_326 : (w5.alloc (.cells #[.slice (some ⟨gq, 0, none⟩) l.length cq] 42)).cell? ⟨w1.heap.size, 1, none⟩ = some (v2) := below_later hb_323 c_304; clear c_304
        have z_327 : (w5.alloc (.cells #[.slice (some ⟨gq, 0, none⟩) l.length cq] 42)).frozen? ⟨w1.heap.size, 0, none⟩ = false := (Below.frozen hb_323 (p := ⟨w1.heap.size, 0, none⟩) (by show w1.heap.size < _; first | omega | (simp; done) | (simp; omega))).trans z_305
        have z_328 : (w5.alloc (.cells #[.slice (some ⟨gq, 0, none⟩) l.length cq] 42)).frozen? ⟨w1.heap.size, 1, none⟩ = false := (Below.frozen hb_323 (p := ⟨w1.heap.size, 1, none⟩) (by show w1.heap.size < _; first | omega | (simp; done) | (simp; omega))).trans z_306
        have c_329 : (w5.alloc (.cells #[.slice (some ⟨gq, 0, none⟩) l.length cq] 42)).cell? ⟨w.heap.size, 1, none⟩ = some (.slice (some ⟨be, offe, none⟩) a0.2.length ecap') := below_later hb_323 c_307; clear c_307
        have c_330 : (w5.alloc (.cells #[.slice (some ⟨gq, 0, none⟩) l.length cq] 42)).cell? ⟨be, offe + i, none⟩ = some (.bool y) := below_later hb_323 c_308; clear c_308
        have hz_331 : w1.heap.size + 1 ≤ w5.heap.size + 1 := Nat.le_trans hz_309 hz_324
        have BD_332 := Lib.hid (BD_310.out.later kIntS_ok hb_323)
        have BD_333 := Lib.hid (BD_311.out.later kBool_ok hb_323)
        have BL_334 := Lib.hid (Below.trans BL_312.out (Below.mono hb_323 (by have := (BL_312.out).size; first | omega | (simp at this; omega) | (simp at this ⊢; omega))))
        have BL_335 := Lib.hid (Below.trans BL_313.out (Below.mono hb_323 (by have := (BL_313.out).size; first | omega | (simp at this; omega) | (simp at this ⊢; omega))))
        have c_336 : (w5.alloc (.cells #[.slice (some ⟨gq, 0, none⟩) l.length cq] 42)).cell? ⟨wr.heap.size, 0, none⟩ = some (.bool (!y)) := below_later hb_323 c_314; clear c_314
        have z_337 : (w5.alloc (.cells #[.slice (some ⟨gq, 0, none⟩) l.length cq] 42)).frozen? ⟨wr.heap.size, 0, none⟩ = false := (Below.frozen hb_323 (p := ⟨wr.heap.size, 0, none⟩) (by show wr.heap.size < _; first | omega | (simp; done) | (simp; omega))).trans z_315
        have hz_338 : wr.heap.size + 1 ≤ w5.heap.size + 1 := Nat.le_trans hz_316 hz_324
        have OW_339 := Lib.hid (kIntS_ok.oframe OW_317.out (w' := (w5.alloc (.cells #[.slice (some ⟨gq, 0, none⟩) l.length cq] 42))) fun b hm => (hb_323).block b (kIntS_ok.olt OW_317.out b hm))
        clear hb_323
        have c_340 : (w5.alloc (.cells #[.slice (some ⟨gq, 0, none⟩) l.length cq] 42)).cell? ⟨w5.heap.size, 0, none⟩ = some (.slice (some ⟨gq, 0, none⟩) l.length cq) := by go_simp
        have z_341 : (w5.alloc (.cells #[.slice (some ⟨gq, 0, none⟩) l.length cq] 42)).frozen? ⟨w5.heap.size, 0, none⟩ = false := by go_simp
        have hz_342 : w5.heap.size < w5.heap.size + 1 := by omega
        have ND_343 : Hid (∀ b ∈ [w5.heap.size], b ∉ fp1) := Lib.hid (by intro b hb hm; simp only [List.mem_singleton] at hb; subst hb; have := (LT_320.out _ hm); first | omega | (simp at this; omega))
        have ND_344 : Hid (∀ b ∈ [w5.heap.size], b ∉ fp2) := Lib.hid (by intro b hb hm; simp only [List.mem_singleton] at hb; subst hb; have := (LT_321.out _ hm); first | omega | (simp at this; omega))
        have ND_345 : Hid (∀ b ∈ [w5.heap.size], b ∉ [gq]) := Lib.hid (by intro b hb hm; simp only [List.mem_singleton] at hb; subst hb; have := (LT_322.out _ hm); first | omega | (simp at this; omega))
        refine hK.out _ _ (Or.inr ?khHeld38) (fun hHeld38S => ?_)
        case khHeld38 => exact ⟨c_325, c_326, c_329, c_330⟩
        have hHeld38 := hHeld38S.held (by kernel_rfl)
        clear hK K
        try simp only [Act.put, List.setIfInBounds_toArray, List.set_cons_zero, List.set_cons_succ]
        refine wpG_one (i := 5) (o := { dst := some 25, op := Go.Op.call { callee := Go.Callee.builtin Go.Builtin.append, args := #[Go.Operand.tmp 21, Go.Operand.tmp 24], argTypes := #[22, 22] }, type := 22, pos := "l12_machine.go:198", after := #[{ on := 1, ground := Go.Ground.data }, { on := 4, ground := Go.Ground.data }, { on := 3, ground := Go.Ground.chain }], guard := none }) rfl (by kernel_rfl) (fun K hK => ?_)
        obtain ⟨vss_346, fps_346, hrow, howl, hfp, hnd, hge⟩ := BD_332.out
        rw [HLT1.out] at hrow
        have ROW_346 := Lib.hid hrow; have OWL_346 := Lib.hid howl; have NDU_346 := Lib.hid (hfp ▸ hnd); have GE_346 := Lib.hid (fun b hb => hge b (hfp ▸ hb)); have FPE_346 := Lib.hid hfp; clear hrow howl hnd hge hfp
        refine step_append_lies _ rfl (.tmp 21) (.tmp 24) 22 rfl (w1.heap.size + 1) 42 i1 (.slice none 0 0) 1 24 Try.underlying22 hi1 hy0 hy1 hy2 rfl (by decide) v1 i vss_346.flatten rfl ROW_346.out ⟨w5.heap.size, 0, none⟩ 1 1 [.slice (some ⟨gq, 0, none⟩) l.length cq] rfl rfl (news_at c_340) (by simp [Value.oneCell']) (by omega) HC3.out HC4.out (by first | omega | (simp; omega)) _ rfl ?_
        intro g7 cp7 w7 hown hgrow hat hlt4
        have HG_347 := Lib.hid hgrow; have HATHG_347 := Lib.hid hat; have HONHG_347 := Lib.hid hown
        clear hgrow hat hown
        have hz_348 : w5.heap.size + 1 ≤ w7.heap.size := by have := HG_347.out.size; first | omega | (simp at this; omega)
        have LT_349 : Hid (∀ b ∈ fp1, b < w5.heap.size + 1) := Lib.hid (fun b hm => by have := (BD_332.out.lt kIntS_ok b hm); first | exact this | omega | (simp at this; omega))
        have LT_350 : Hid (∀ b ∈ fp2, b < w5.heap.size + 1) := Lib.hid (fun b hm => by have := (BD_333.out.lt kBool_ok b hm); first | exact this | omega | (simp at this; omega))
        have LT_351 : Hid (∀ b ∈ [gq], b < w5.heap.size + 1) := Lib.hid (fun b hm => by have := (kIntS_ok.olt OW_339.out b hm); first | exact this | omega | (simp at this; omega))
        have BD_352 := Lib.hid (Bd.app HLT1.out kIntS_ok ROW_346.out OWL_346.out NDU_346.out GE_346.out OW_339.out (by simp) (fun b hb hm => ND_318.out b hb (FPE_346.out ▸ hm)) (fun b hb => by have := hgeq b hb; omega) HONHG_347.out HG_347.out HATHG_347.out (by first | omega | (simp; done) | (simp; omega)))
        have c_353 : w7.cell? ⟨w1.heap.size, 0, none⟩ = some (v1) := BD_332.out.cell_grown HG_347.out c_325 (by first | omega | (simp; done) | (simp; omega))
        have c_354 : w7.cell? ⟨w1.heap.size, 1, none⟩ = some (v2) := BD_332.out.cell_grown HG_347.out c_326 (by first | omega | (simp; done) | (simp; omega))
        have z_355 : w7.frozen? ⟨w1.heap.size, 0, none⟩ = false := BD_332.out.frozen_grown HG_347.out (by first | omega | (simp; done) | (simp; omega)) z_327 (by first | omega | (simp; done) | (simp; omega))
        have z_356 : w7.frozen? ⟨w1.heap.size, 1, none⟩ = false := BD_332.out.frozen_grown HG_347.out (by first | omega | (simp; done) | (simp; omega)) z_328 (by first | omega | (simp; done) | (simp; omega))
        have c_357 : w7.cell? ⟨w.heap.size, 1, none⟩ = some (.slice (some ⟨be, offe, none⟩) a0.2.length ecap') := BD_332.out.cell_grown HG_347.out c_329 (by first | omega | (simp; done) | (simp; omega))
        have c_358 : w7.cell? ⟨be, offe + i, none⟩ = some (.bool y) := BD_332.out.cell_grown HG_347.out c_330 (by first | omega | (simp; done) | (simp; omega))
        have hz_359 : w1.heap.size + 1 ≤ w7.heap.size := Nat.le_trans hz_331 hz_348
        have BD_360 := Lib.hid (BD_333.out.grown kBool_ok HG_347.out (fun k hk hm => DIS.out k (BD_332.out.own_mem k hk) hm))
        have ND_361 : Hid (∀ b ∈ (g7 :: (fps_346.flatten ++ [gq])), b ∉ fp2) := Lib.hid (fun b hm hs => (app_in HATHG_347.out hm).elim (fun h => DIS.out b (FPE_346.out ▸ h) hs) (fun h => h.elim (fun h => by exact ND_319.out b h hs) (fun h => by have := LT_350.out b hs; first | omega | (simp at h; omega))))
        have BL_362 := Lib.hid (Below.grown BL_334.out HG_347.out (by have := (BL_334.out).size; first | omega | (simp at this; omega) | (simp at this ⊢; omega)) (fun k hk => Nat.le_trans (by first | omega | (simp; done) | (simp; omega)) (BD_332.out.own_ge k hk)))
        have BL_363 := Lib.hid (Below.grown BL_335.out HG_347.out (by have := (BL_335.out).size; first | omega | (simp at this; omega) | (simp at this ⊢; omega)) (fun k hk => Nat.le_trans (by first | omega | (simp; done) | (simp; omega)) (BD_332.out.own_ge k hk)))
        have c_364 : w7.cell? ⟨wr.heap.size, 0, none⟩ = some (.bool (!y)) := (HG_347.out.cell_far ⟨wr.heap.size, 0, none⟩ (World.block_lt_of_cell? _ _ c_336) (fun he => ND_297.out _ (by simp) (BD_332.out.own_mem _ he.symm))).trans c_336
        have z_365 : w7.frozen? ⟨wr.heap.size, 0, none⟩ = false := (HG_347.out.frozen_far ⟨wr.heap.size, 0, none⟩ (by first | omega | (simp; done) | (simp; omega)) (fun he => ND_297.out _ (by simp) (BD_332.out.own_mem _ he.symm))).trans z_337
        have hz_366 : wr.heap.size + 1 ≤ w7.heap.size := Nat.le_trans hz_338 hz_348
        have c_367 : w7.cell? ⟨w5.heap.size, 0, none⟩ = some (.slice (some ⟨gq, 0, none⟩) l.length cq) := (HG_347.out.cell_far ⟨w5.heap.size, 0, none⟩ (World.block_lt_of_cell? _ _ c_340) (fun he => ND_343.out _ (by simp) (BD_332.out.own_mem _ he.symm))).trans c_340
        have z_368 : w7.frozen? ⟨w5.heap.size, 0, none⟩ = false := (HG_347.out.frozen_far ⟨w5.heap.size, 0, none⟩ (by first | omega | (simp; done) | (simp; omega)) (fun he => ND_343.out _ (by simp) (BD_332.out.own_mem _ he.symm))).trans z_341
        have hz_369 : w5.heap.size + 1 ≤ w7.heap.size := Nat.le_trans hz_342 hz_348
        refine hK.out _ _ (Or.inr ?khHeld39) (fun hHeld39S => ?_)
        case khHeld39 => exact ⟨c_353, c_354, c_357, c_358⟩
        have hHeld39 := hHeld39S.held (by kernel_rfl)
        clear hK K
        try simp only [Act.put, List.setIfInBounds_toArray, List.set_cons_zero, List.set_cons_succ]
        refine wpG_pure (i := 16) (oi := { dst := some 36, op := Go.Op.fieldAddr 28 (Go.Operand.tmp 4) 0, type := 0, pos := "l12_machine.go:198", after := #[{ on := 0, ground := Go.Ground.phase }, { on := 1, ground := Go.Ground.phase }, { on := 2, ground := Go.Ground.phase }, { on := 3, ground := Go.Ground.phase }, { on := 4, ground := Go.Ground.phase }, { on := 5, ground := Go.Ground.phase }, { on := 6, ground := Go.Ground.phase }, { on := 7, ground := Go.Ground.phase }, { on := 8, ground := Go.Ground.textOnly Go.Departure.lateStores }, { on := 9, ground := Go.Ground.textOnly Go.Departure.lateStores }, { on := 10, ground := Go.Ground.textOnly Go.Departure.lateStores }, { on := 11, ground := Go.Ground.textOnly Go.Departure.lateStores }, { on := 12, ground := Go.Ground.textOnly Go.Departure.lateStores }, { on := 13, ground := Go.Ground.textOnly Go.Departure.lateStores }, { on := 14, ground := Go.Ground.textOnly Go.Departure.lateStores }, { on := 15, ground := Go.Ground.textOnly Go.Departure.lateStoresUnsure }], guard := none }) (v := ?vg40) rfl (by kernel_rfl) (fun _ _ _ h => h) (Or.inr hHeld39) (Or.inl ⟨by rfl, ?yg40⟩) ?_
        case yg40 => (intro wS _; go_simp <;> with_reducible rfl)
        try simp only [Act.put, List.setIfInBounds_toArray, List.set_cons_zero, List.set_cons_succ]
        refine wpG_one (i := 15) (o := { dst := some 35, op := Go.Op.call { callee := Go.Callee.builtin Go.Builtin.append, args := #[Go.Operand.tmp 27, Go.Operand.tmp 34], argTypes := #[23, 23] }, type := 23, pos := "l12_machine.go:198", after := #[{ on := 7, ground := Go.Ground.data }, { on := 14, ground := Go.Ground.data }, { on := 5, ground := Go.Ground.chain }], guard := none }) rfl (by kernel_rfl) (fun K hK => ?_)
        obtain ⟨vss_370, fps_370, hrow, howl, hfp, hnd, hge⟩ := BD_360.out
        rw [HLT2.out] at hrow
        have ROW_370 := Lib.hid hrow; have OWL_370 := Lib.hid howl; have NDU_370 := Lib.hid (hfp ▸ hnd); have GE_370 := Lib.hid (fun b hb => hge b (hfp ▸ hb)); have FPE_370 := Lib.hid hfp; clear hrow howl hnd hge hfp
        refine step_append_lies _ rfl (.tmp 27) (.tmp 34) 23 rfl (w1.heap.size + 1) 4 i2 (.bool false) 1 1 Try.underlying23 hi2 hx0 hx1 hx2 rfl (by decide) v2 i vss_370.flatten rfl ROW_370.out ⟨wr.heap.size, 0, none⟩ 1 1 [.bool (!y)] rfl rfl (news_at c_364) (by simp [Value.oneCell']) (by omega) HC5.out HC6.out (by first | omega | (simp; omega)) _ rfl ?_
        intro g9 cp9 w9 hown hgrow hat hlt4
        have HG_371 := Lib.hid hgrow; have HATHG_371 := Lib.hid hat; have HONHG_371 := Lib.hid hown
        clear hgrow hat hown
        have hz_372 : w7.heap.size ≤ w9.heap.size := by have := HG_371.out.size; first | omega | (simp at this; omega)
        have LT_373 : Hid (∀ b ∈ (g7 :: (fps_346.flatten ++ [gq])), b < w7.heap.size) := Lib.hid (fun b hm => by have := (BD_352.out.lt kIntS_ok b hm); first | exact this | omega | (simp at this; omega))
        have LT_374 : Hid (∀ b ∈ fp2, b < w7.heap.size) := Lib.hid (fun b hm => by have := (BD_360.out.lt kBool_ok b hm); first | exact this | omega | (simp at this; omega))
        have BD_375 := Lib.hid (Bd.app HLT2.out kBool_ok ROW_370.out OWL_370.out NDU_370.out GE_370.out ⟨rfl, rfl, trivial⟩ List.nodup_nil (fun b hb => absurd hb (by simp)) (fun b hb => absurd hb (by simp)) HONHG_371.out HG_371.out HATHG_371.out (by first | omega | (simp; done) | (simp; omega)))
        have c_376 : w9.cell? ⟨w1.heap.size, 0, none⟩ = some (v1) := BD_360.out.cell_grown HG_371.out c_353 (by first | omega | (simp; done) | (simp; omega))
        have c_377 : w9.cell? ⟨w1.heap.size, 1, none⟩ = some (v2) := BD_360.out.cell_grown HG_371.out c_354 (by first | omega | (simp; done) | (simp; omega))
        have z_378 : w9.frozen? ⟨w1.heap.size, 0, none⟩ = false := BD_360.out.frozen_grown HG_371.out (by first | omega | (simp; done) | (simp; omega)) z_355 (by first | omega | (simp; done) | (simp; omega))
        have z_379 : w9.frozen? ⟨w1.heap.size, 1, none⟩ = false := BD_360.out.frozen_grown HG_371.out (by first | omega | (simp; done) | (simp; omega)) z_356 (by first | omega | (simp; done) | (simp; omega))
        have c_380 : w9.cell? ⟨w.heap.size, 1, none⟩ = some (.slice (some ⟨be, offe, none⟩) a0.2.length ecap') := BD_360.out.cell_grown HG_371.out c_357 (by first | omega | (simp; done) | (simp; omega))
        have c_381 : w9.cell? ⟨be, offe + i, none⟩ = some (.bool y) := BD_360.out.cell_grown HG_371.out c_358 (by first | omega | (simp; done) | (simp; omega))
        have hz_382 : w1.heap.size + 1 ≤ w9.heap.size := Nat.le_trans hz_359 hz_372
        have BD_383 := Lib.hid (BD_352.out.grown kIntS_ok HG_371.out (fun k hk hm => (fun x hx hy => ND_361.out x hy hx) k (BD_360.out.own_mem k hk) hm))
        have ND_384 : Hid (∀ b ∈ (g9 :: (fps_370.flatten ++ [])), b ∉ (g7 :: (fps_346.flatten ++ [gq]))) := Lib.hid (fun b hm hs => (app_in HATHG_371.out hm).elim (fun h => (fun x hx hy => ND_361.out x hy hx) b (FPE_370.out ▸ h) hs) (fun h => h.elim (fun h => by simp at h) (fun h => by have := LT_373.out b hs; first | omega | (simp at h; omega))))
        have BL_385 := Lib.hid (Below.grown BL_362.out HG_371.out (by have := (BL_362.out).size; first | omega | (simp at this; omega) | (simp at this ⊢; omega)) (fun k hk => Nat.le_trans (by first | omega | (simp; done) | (simp; omega)) (BD_360.out.own_ge k hk)))
        have BL_386 := Lib.hid (Below.grown BL_363.out HG_371.out (by have := (BL_363.out).size; first | omega | (simp at this; omega) | (simp at this ⊢; omega)) (fun k hk => Nat.le_trans (by first | omega | (simp; done) | (simp; omega)) (BD_360.out.own_ge k hk)))
        have c_387 : w9.cell? ⟨wr.heap.size, 0, none⟩ = some (.bool (!y)) := (HG_371.out.cell_far ⟨wr.heap.size, 0, none⟩ (World.block_lt_of_cell? _ _ c_364) (fun he => ND_298.out _ (by simp) (BD_360.out.own_mem _ he.symm))).trans c_364
        have z_388 : w9.frozen? ⟨wr.heap.size, 0, none⟩ = false := (HG_371.out.frozen_far ⟨wr.heap.size, 0, none⟩ (by first | omega | (simp; done) | (simp; omega)) (fun he => ND_298.out _ (by simp) (BD_360.out.own_mem _ he.symm))).trans z_365
        have hz_389 : wr.heap.size + 1 ≤ w9.heap.size := Nat.le_trans hz_366 hz_372
        refine hK.out _ _ (Or.inl (by kernel_rfl)) (fun _ => ?_)
        clear hK K
        try simp only [Act.put, List.setIfInBounds_toArray, List.set_cons_zero, List.set_cons_succ]
        refine wpG_one (i := 17) (o := { dst := none, op := Go.Op.store 22 (Go.Operand.tmp 36) (Go.Operand.tmp 25), type := 0, pos := "l12_machine.go:198", after := #[{ on := 16, ground := Go.Ground.data }, { on := 5, ground := Go.Ground.data }, { on := 15, ground := Go.Ground.chain }, { on := 0, ground := Go.Ground.phase }, { on := 1, ground := Go.Ground.phase }, { on := 2, ground := Go.Ground.phase }, { on := 3, ground := Go.Ground.phase }, { on := 4, ground := Go.Ground.phase }, { on := 5, ground := Go.Ground.phase }, { on := 6, ground := Go.Ground.phase }, { on := 7, ground := Go.Ground.phase }, { on := 8, ground := Go.Ground.textOnly Go.Departure.lateStores }, { on := 9, ground := Go.Ground.textOnly Go.Departure.lateStores }, { on := 10, ground := Go.Ground.textOnly Go.Departure.lateStores }, { on := 11, ground := Go.Ground.textOnly Go.Departure.lateStores }, { on := 12, ground := Go.Ground.textOnly Go.Departure.lateStores }, { on := 13, ground := Go.Ground.textOnly Go.Departure.lateStores }, { on := 14, ground := Go.Ground.textOnly Go.Departure.lateStores }, { on := 15, ground := Go.Ground.textOnly Go.Departure.lateStoresUnsure }], guard := none }) rfl (by kernel_rfl) (fun K hK => ?_)
        go_simp
        refine hK.out _ _ (Or.inl (by kernel_rfl)) (fun _ => ?_)
        clear hK K
        try simp only [Act.put, List.setIfInBounds_toArray, List.set_cons_zero, List.set_cons_succ]
        refine wpG_pure (i := 18) (oi := { dst := some 37, op := Go.Op.fieldAddr 28 (Go.Operand.tmp 4) 1, type := 0, pos := "l12_machine.go:198", after := #[{ on := 0, ground := Go.Ground.phase }, { on := 1, ground := Go.Ground.phase }, { on := 2, ground := Go.Ground.phase }, { on := 3, ground := Go.Ground.phase }, { on := 4, ground := Go.Ground.phase }, { on := 5, ground := Go.Ground.phase }, { on := 6, ground := Go.Ground.phase }, { on := 7, ground := Go.Ground.phase }, { on := 8, ground := Go.Ground.phase }, { on := 9, ground := Go.Ground.phase }, { on := 10, ground := Go.Ground.phase }, { on := 11, ground := Go.Ground.phase }, { on := 12, ground := Go.Ground.phase }, { on := 13, ground := Go.Ground.phase }, { on := 14, ground := Go.Ground.phase }, { on := 15, ground := Go.Ground.phase }, { on := 16, ground := Go.Ground.phase }, { on := 17, ground := Go.Ground.phase }], guard := none }) (v := ?vg43) rfl (by kernel_rfl) (fun _ _ _ h => h) (Or.inl (by kernel_rfl)) (Or.inl ⟨by rfl, ?yg43⟩) ?_
        case yg43 => (intro wS _; go_simp <;> with_reducible rfl)
        try simp only [Act.put, List.setIfInBounds_toArray, List.set_cons_zero, List.set_cons_succ]
        refine wpG_one (i := 19) (o := { dst := none, op := Go.Op.store 23 (Go.Operand.tmp 37) (Go.Operand.tmp 35), type := 0, pos := "l12_machine.go:198", after := #[{ on := 18, ground := Go.Ground.data }, { on := 15, ground := Go.Ground.data }, { on := 17, ground := Go.Ground.chain }, { on := 0, ground := Go.Ground.phase }, { on := 1, ground := Go.Ground.phase }, { on := 2, ground := Go.Ground.phase }, { on := 3, ground := Go.Ground.phase }, { on := 4, ground := Go.Ground.phase }, { on := 5, ground := Go.Ground.phase }, { on := 6, ground := Go.Ground.phase }, { on := 7, ground := Go.Ground.phase }, { on := 8, ground := Go.Ground.phase }, { on := 9, ground := Go.Ground.phase }, { on := 10, ground := Go.Ground.phase }, { on := 11, ground := Go.Ground.phase }, { on := 12, ground := Go.Ground.phase }, { on := 13, ground := Go.Ground.phase }, { on := 14, ground := Go.Ground.phase }, { on := 15, ground := Go.Ground.phase }, { on := 16, ground := Go.Ground.phase }, { on := 17, ground := Go.Ground.phase }], guard := none }) rfl (by kernel_rfl) (fun K hK => ?_)
        go_simp
        refine hK.out _ _ (Or.inl (by kernel_rfl)) (fun _ => ?_)
        clear hK K
        try simp only [Act.put, List.setIfInBounds_toArray, List.set_cons_zero, List.set_cons_succ]
        refine wpG_done (by kernel_rfl) ?_
        go_wp2_with fail
        go_roundw
        case rel =>
          have hb1 := (BD_383.out.setCell kIntS_ok (a := ⟨w1.heap.size, 0, none⟩) (by show w1.heap.size < w1.heap.size + 1; omega) (.slice (some ⟨g7, 0, none⟩) (i + 1) cp7)).setCell kIntS_ok (a := ⟨w1.heap.size, 1, none⟩) (by show w1.heap.size < w1.heap.size + 1; omega) (.slice (some ⟨g9, 0, none⟩) (i + 1) cp9)
          have hb2 := (BD_375.out.setCell kBool_ok (a := ⟨w1.heap.size, 0, none⟩) (by show w1.heap.size < w1.heap.size + 1; omega) (.slice (some ⟨g7, 0, none⟩) (i + 1) cp7)).setCell kBool_ok (a := ⟨w1.heap.size, 1, none⟩) (by show w1.heap.size < w1.heap.size + 1; omega) (.slice (some ⟨g9, 0, none⟩) (i + 1) cp9)
          rw [HT1.out] at hb1; rw [HT2.out] at hb2
          refine ⟨i + 1, _, _, _, _, by omega, by go_num, Lib.hid ⟨?_, ?_, ?_, ?_, ?_⟩, Lib.hid hb1, Lib.hid hb2, Lib.hid (fun x hx hy => ND_384.out x hy hx), Lib.hid ((BL_385.out.setCell (p := ⟨w1.heap.size, 0, none⟩) (Nat.le_refl _) _).setCell (p := ⟨w1.heap.size, 1, none⟩) (Nat.le_refl _) _)⟩
          · go_simp
          · go_simp
          · go_simp
          · go_simp
          · rw [World.size_setCell, World.size_setCell]; omega
        case measure => simp [intOf]; omega

set_option maxHeartbeats 8000000 in
theorem spec_TurnMachine (w : World) (cs0 : List Value) (a0 : Mach) (h0 : kMachine.rd w.heap.size w cs0 a0) (ht : kMachine.wt a0 ≤ 1048576) :
    Calls Try.prog 18 #[.agg cs0.toArray] w (Made kMachine (fun cs => .tuple #[.agg cs.toArray, .bool (R_TurnMachine a0).2]) (R_TurnMachine a0).1 w) := by
  obtain ⟨i1, hi1, hy0, hy1, hy2⟩ := info_parts Try.infoHIntSS
  obtain ⟨i2, hi2, hx0, hx1, hx2⟩ := info_parts Try.infoHBoolS
  obtain ⟨i0, hi, hz0, hz1, hz2⟩ := info_parts Try.infoHIntS
  obtain ⟨ea, ecap, eb, ecap', rfl, hn, he⟩ := Machine_rd h0
  have HG := Lib.hid (fun wx (hb : Below w.heap.size w wx) => spec_GoodMachine wx _ a0 (kMachine_ok.later h0 hb) ht)
  have HN := Lib.hid hn; have HE := Lib.hid he
  have hl1 := (sl_len hn).2; have hl2 := (sl_len he).2
  have HB0 := Lib.hid (box2_start w (.cells #[.slice ea a0.1.length ecap, .slice eb a0.2.length ecap'] 28) (.cells #[.slice none 0 0, .slice none 0 0] 28))
  clear hn he h0
  cases g0 : R_GoodMachine a0 with
  | false =>
    have hR : R_TurnMachine a0 = (([], []), false) := by unfold R_TurnMachine; rw [if_neg (by rw [g0]; simp)]
    rw [hR]; rw [g0] at HG
    clear hR g0
    go_enter Try.func18, Try.ntmps18
    go_wp2_with fail
    refine (HG.out _ (box2_below HB0.out)).mono ?_
    rintro e w1 ⟨rfl, hb⟩
    have HB1 := Lib.hid (box2_step HB0.out hb); clear hb
    have k0 : w1.cell? ⟨w.heap.size + 1, 0, none⟩ = some (.slice none 0 0) := box2_b HB1.out 0
    have k1 : w1.cell? ⟨w.heap.size + 1, 1, none⟩ = some (.slice none 0 0) := box2_b HB1.out 1
    have z0 : w1.frozen? ⟨w.heap.size + 1, 0, none⟩ = false := (HB1.out.frozen (p := ⟨w.heap.size + 1, 0, none⟩) (by simp)).trans (by go_simp)
    have z1 : w1.frozen? ⟨w.heap.size + 1, 1, none⟩ = false := (HB1.out.frozen (p := ⟨w.heap.size + 1, 1, none⟩) (by simp)).trans (by go_simp)
    go_wp2_with fail
    refine bodyPost_ret (v := .tuple #[.agg #[.slice none 0 0, .slice none 0 0], .bool false]) (by simp [results, Try.results18, go_sem, k0, k1]) rfl ⟨[.slice none 0 0, .slice none 0 0], [], rfl, none_ow _, List.nodup_nil, by simp, ?_⟩
    exact ((box2_below HB1.out).setCell (p := ⟨w.heap.size + 1, 0, none⟩) (by show w.heap.size ≤ w.heap.size + 1; omega) _).setCell (p := ⟨w.heap.size + 1, 1, none⟩) (by show w.heap.size ≤ w.heap.size + 1; omega) _
  | true =>
    have hR : R_TurnMachine a0 = ((a0.1, a0.2.map (!·)), true) := by unfold R_TurnMachine; rw [if_pos g0]
    have HM := Lib.hid (good_of g0)
    rw [hR]; rw [g0] at HG
    clear hR g0
    go_enter Try.func18, Try.ntmps18
    go_wp2_with fail
    refine (HG.out _ (box2_below HB0.out)).mono ?_
    rintro e w1 ⟨rfl, hb⟩
    have HB1 := Lib.hid (box2_step HB0.out hb); clear hb
    have ma : w1.cell? ⟨w.heap.size, 0, none⟩ = some (.slice ea a0.1.length ecap) := box2_a HB1.out 0
    have hs1 : w.heap.size + 2 ≤ w1.heap.size := by have := HB1.out.size; simp at this; omega
    have hs2 : w.heap.size < w1.heap.size := by omega
    have HBW1 := Lib.hid (box2_below HB1.out)
    have hn12 := HM.out.n12
    go_wp2_with fail
    go_loopw [15] (fun iv wr => ∃ (i : Nat) (v1 v2 : Value) (fp1 fp2 : List Nat), i ≤ a0.1.length ∧ iv = .int .i64 (i : Int) ∧ Hid (wr.cell? ⟨w1.heap.size, 0, none⟩ = some v1 ∧ wr.cell? ⟨w1.heap.size, 1, none⟩ = some v2 ∧ wr.frozen? ⟨w1.heap.size, 0, none⟩ = false ∧ wr.frozen? ⟨w1.heap.size, 1, none⟩ = false ∧ w1.heap.size < wr.heap.size) ∧ Hid (Bd 42 kIntS (w1.heap.size + 1) fp1 wr v1 (a0.1.take i)) ∧ Hid (Bd 4 kBool (w1.heap.size + 1) fp2 wr v2 ((a0.2.map (!·)).take i)) ∧ Hid (∀ b ∈ fp1, b ∉ fp2) ∧ Hid (Below w1.heap.size w1 wr)) (fun iv _ => a0.1.length - (intOf iv).toNat)
    case atStart => exact ⟨0, _, _, [], [], by omega, rfl, ⟨by go_simp, by go_simp, by go_simp, by go_simp, by simp⟩, Lib.hid (Bd.nil _), Lib.hid (Bd.nil _), Lib.hid (by simp), Lib.hid ((Below.refl _ _).alloc (Nat.le_refl _) _)⟩
    case round =>
      obtain ⟨i, v1, v2, fp1, fp2, hil, rfl, HCL, BD1, BD2, DIS, HBR⟩ := hrel
      obtain ⟨co0, co1, zo0, zo1, hlo⟩ := HCL.out
      have HBW := Lib.hid (HBW1.out.trans (HBR.out.mono (by omega)))
      by_cases hlt : i < a0.1.length
      case neg =>
        obtain rfl : i = a0.1.length := by omega
        have k0 : wr.cell? ⟨w.heap.size + 1, 0, none⟩ = some (.slice none 0 0) := below_later HBR.out (box2_b HB1.out 0)
        have k1 : wr.cell? ⟨w.heap.size + 1, 1, none⟩ = some (.slice none 0 0) := below_later HBR.out (box2_b HB1.out 1)
        have z0 : wr.frozen? ⟨w.heap.size + 1, 0, none⟩ = false := (HBR.out.frozen (p := ⟨w.heap.size + 1, 0, none⟩) (by show w.heap.size + 1 < w1.heap.size; omega)).trans ((HB1.out.frozen (p := ⟨w.heap.size + 1, 0, none⟩) (by simp)).trans (by go_simp))
        have z1 : wr.frozen? ⟨w.heap.size + 1, 1, none⟩ = false := (HBR.out.frozen (p := ⟨w.heap.size + 1, 1, none⟩) (by show w.heap.size + 1 < w1.heap.size; omega)).trans ((HB1.out.frozen (p := ⟨w.heap.size + 1, 1, none⟩) (by simp)).trans (by go_simp))
        have hq1 : a0.1.take a0.1.length = a0.1 := List.take_length
        have hq2 : (a0.2.map (!·)).take a0.1.length = a0.2.map (!·) := by rw [← HM.out.ends, ← List.length_map (f := fun x => !x)]; exact List.take_length
        rw [hq1] at BD1; rw [hq2] at BD2
        obtain ⟨a1, c1, rfl⟩ := BD1.out.form
        obtain ⟨a2, c2, rfl⟩ : ∃ a cap, v2 = .slice a a0.2.length cap := by obtain ⟨a, c, h⟩ := BD2.out.form; exact ⟨a, c, by rw [h, List.length_map]⟩
        clear hq1 hq2
        go_wp2_with fail
        refine bodyPost_ret (v := .tuple #[.agg #[.slice a1 a0.1.length c1, .slice a2 a0.2.length c2], .bool true]) (by simp [results, Try.results18, go_sem, k0, k1]) rfl ?_
        have b1 := BD1.out; have b2 := BD2.out
        have c1' := (b1.setCell kIntS_ok (a := ⟨w.heap.size + 1, 0, none⟩) (by show w.heap.size + 1 < w1.heap.size + 1; omega) (.slice a1 a0.1.length c1)).setCell kIntS_ok (a := ⟨w.heap.size + 1, 1, none⟩) (by show w.heap.size + 1 < w1.heap.size + 1; omega) (.slice a2 a0.2.length c2)
        have c2' := (b2.setCell kBool_ok (a := ⟨w.heap.size + 1, 0, none⟩) (by show w.heap.size + 1 < w1.heap.size + 1; omega) (.slice a1 a0.1.length c1)).setCell kBool_ok (a := ⟨w.heap.size + 1, 1, none⟩) (by show w.heap.size + 1 < w1.heap.size + 1; omega) (.slice a2 a0.2.length c2)
        refine ⟨[.slice a1 a0.1.length c1, .slice a2 a0.2.length c2], fp1 ++ fp2, rfl, ⟨fp1, fp2, [_], [_], rfl, rfl, c1'.ow, c2'.ow⟩, List.nodup_append.2 ⟨b1.nodup, b2.nodup, fun x hx y hy hxy => DIS.out x hx (by rw [hxy]; exact hy)⟩, ?_, ?_⟩
        · intro b hb
          rcases List.mem_append.1 hb with hb | hb
          · have := b1.ge b hb; omega
          · have := b2.ge b hb; omega
        · exact (HBW.out.setCell (p := ⟨w.heap.size + 1, 0, none⟩) (by show w.heap.size ≤ w.heap.size + 1; omega) _).setCell (p := ⟨w.heap.size + 1, 1, none⟩) (by show w.heap.size ≤ w.heap.size + 1; omega) _
      obtain ⟨l, hx⟩ : ∃ x, a0.1[i]? = some x := ⟨a0.1[i], List.getElem?_eq_getElem hlt⟩
      have hlt2 : i < a0.2.length := by have := HM.out.ends; omega
      obtain ⟨y, hy⟩ : ∃ x, a0.2[i]? = some x := ⟨a0.2[i], List.getElem?_eq_getElem hlt2⟩
      have hl3 := (HM.out.row i l hx).1
      obtain ⟨u, b, off, hu, rfl, hbl, hc⟩ := sl_one kIntS_ok rfl HN.out hx
      obtain ⟨al, acap, hu2⟩ := kSl_form hu
      simp only [List.cons.injEq, and_true] at hu2
      subst hu2
      obtain ⟨u2, be, offe, hue, rfl, hble, hce⟩ := sl_one kBool_ok rfl HE.out hy
      obtain ⟨hue, _⟩ := hue
      simp only [List.cons.injEq, and_true] at hue
      subst hue
      have c0 : wr.cell? ⟨b, off + i, none⟩ = some (.slice al l.length acap) := below_cellk HBW.out hc hbl
      have ce : wr.cell? ⟨be, offe + i, none⟩ = some (.bool y) := below_cellk HBW.out hce hble
      have me : wr.cell? ⟨w.heap.size, 1, none⟩ = some (.slice (some ⟨be, offe, none⟩) a0.2.length ecap') := below_later HBR.out (box2_a HB1.out 1)
      have HCL2 := Lib.hid (fun wx (hb : Below w.heap.size w wx) => clone_ints (w := wx) (kIntS_ok.later hu hb) rfl (by omega) (by omega))
      have HU := Lib.hid hu
      have HT1 : Hid (a0.1.take i ++ [l] = a0.1.take (i + 1)) := Lib.hid (take_next a0.1 i l hx).symm
      have HT2 : Hid ((a0.2.map (!·)).take i ++ [!y] = (a0.2.map (!·)).take (i + 1)) := Lib.hid (take_next _ i _ (by simp [hy])).symm
      have HLT1 : Hid ((a0.1.take i).length = i) := Lib.hid (by simp; omega)
      have HLT2 : Hid (((a0.2.map (!·)).take i).length = i) := Lib.hid (by simp; omega)
      have HC3 : Hid (i + 1 ≤ maxLen) := Lib.hid (by unfold maxLen; omega)
      have HC4 : Hid ((i + 1) * 24 ≤ 140737488355328) := Lib.hid (by omega)
      have HC5 : Hid (i + 1 ≤ maxLen) := Lib.hid (by unfold maxLen; omega)
      have HC6 : Hid ((i + 1) * 1 ≤ 140737488355328) := Lib.hid (by omega)
      have HL3 := Lib.hid hl3
      have zi0 : (0 : Int) ≤ (i : Int) := Int.natCast_nonneg _
      have zi1 : (i : Int) < (a0.2.length : Int) := by omega
      clear hc hce hx hy hu hl3
      obtain ⟨bl, offl, rfl⟩ : ∃ b off, al = some ⟨b, off, none⟩ := by
        rcases (ints_rd HU.out).1 with h0 | ⟨b, off, h, _⟩
        · have h3 := HL3.out; rw [List.map_eq_nil_iff] at h0; rw [h0] at h3; exact absurd h3 (by decide)
        · exact ⟨b, off, h⟩
      have HLR := Lib.hid (kIntS_ok.rbelow HU.out HBW.out)
      have HWF := Lib.hid (ints_rd HU.out).2
      have hl1' : 0 < l.length := by have := HL3.out; omega
      have HC7 : Hid (0 + l.length ≤ maxLen) := Lib.hid (by have := HL3.out; unfold maxLen; omega)
      have HC8 : Hid ((0 + l.length) * 8 ≤ 140737488355328) := Lib.hid (by have := HL3.out; omega)
      go_wp2_with fail
      have hb_390 : Below wr.heap.size wr wr.drew := (Below.refl _ _).drew
      have hz_391 : wr.heap.size ≤ wr.heap.size := by have := (hb_390).size; first | omega | (simp at this; omega)
      have c_392 : wr.drew.cell? ⟨w1.heap.size, 0, none⟩ = some (v1) := below_later hb_390 co0
      have c_393 : wr.drew.cell? ⟨w1.heap.size, 1, none⟩ = some (v2) := below_later hb_390 co1
      have z_394 : wr.drew.frozen? ⟨w1.heap.size, 0, none⟩ = false := (Below.frozen hb_390 (p := ⟨w1.heap.size, 0, none⟩) (by show w1.heap.size < _; first | omega | (simp; done) | (simp; omega))).trans zo0
      have z_395 : wr.drew.frozen? ⟨w1.heap.size, 1, none⟩ = false := (Below.frozen hb_390 (p := ⟨w1.heap.size, 1, none⟩) (by show w1.heap.size < _; first | omega | (simp; done) | (simp; omega))).trans zo1
      have c_396 : wr.drew.cell? ⟨w.heap.size, 1, none⟩ = some (.slice (some ⟨be, offe, none⟩) a0.2.length ecap') := below_later hb_390 me
      have c_397 : wr.drew.cell? ⟨be, offe + i, none⟩ = some (.bool y) := below_later hb_390 ce
      have hz_398 : w1.heap.size + 1 ≤ wr.heap.size := Nat.le_trans hlo hz_391
      have BD_399 := Lib.hid (BD1.out.later kIntS_ok hb_390)
      have BD_400 := Lib.hid (BD2.out.later kBool_ok hb_390)
      have RD_401 := Lib.hid (kIntS_ok.rbelow HLR.out (Below.mono hb_390 (by first | omega | (simp; done) | (simp; omega))))
      have BL_402 := Lib.hid (Below.trans HBR.out (Below.mono hb_390 (by have := (HBR.out).size; first | omega | (simp at this; omega) | (simp at this ⊢; omega))))
      have BL_403 := Lib.hid (Below.trans HBW.out (Below.mono hb_390 (by have := (HBW.out).size; first | omega | (simp at this; omega) | (simp at this ⊢; omega))))
      clear hb_390
      refine wp_region_G [6] (fun w' => w'.cell? ⟨w1.heap.size, 0, none⟩ = some (v1)) (by kernel_rfl) ?_ (fun hHeld => ?_)
      · exact c_392
      refine wpG_pure (i := 0) (oi := { dst := some 20, op := Go.Op.fieldAddr 28 (Go.Operand.tmp 4) 0, type := 0, pos := "l12_machine.go:231", after := #[], guard := none }) (v := ?vg45) rfl (by kernel_rfl) (fun _ _ _ h => h) (Or.inr hHeld) (Or.inl ⟨by rfl, ?yg45⟩) ?_
      case yg45 => (intro wS _; go_simp <;> with_reducible rfl)
      try simp only [Act.put, List.setIfInBounds_toArray, List.set_cons_zero, List.set_cons_succ]
      refine wpG_load (i := 1) (oi := { dst := some 21, op := Go.Op.load 22 (Go.Operand.tmp 20), type := 22, pos := "l12_machine.go:231", after := #[{ on := 0, ground := Go.Ground.data }], guard := none }) (v := ?vg46) [[6, 1]] rfl (by kernel_rfl) (fun _ _ _ h => h) hHeld (Or.inl ⟨by rfl, ?yg46⟩) ?_
      case yg46 => (intro wS hSw; (try dsimp only at hSw); go_simp <;> with_reducible rfl)
      try simp only [Act.put, List.setIfInBounds_toArray, List.set_cons_zero, List.set_cons_succ]
      refine wpG_pure (i := 3) (oi := { dst := some 23, op := Go.Op.move (Go.Operand.tmp 6), type := 42, pos := "l12_machine.go:231", after := #[], guard := none }) (v := ?vg47) rfl (by kernel_rfl) (fun _ _ _ h => h) (Or.inr hHeld) (Or.inl ⟨by rfl, ?yg47⟩) ?_
      case yg47 => (intro wS _; go_simp <;> with_reducible rfl)
      try simp only [Act.put, List.setIfInBounds_toArray, List.set_cons_zero, List.set_cons_succ]
      refine wpG_one (i := 2) (o := { dst := some 22, op := Go.Op.buildSlice 42 0 #[], type := 42, pos := "l12_machine.go:231", after := #[], guard := none }) rfl (by kernel_rfl) (fun K hK => ?_)
      go_simp
      have LT_404 : Hid (∀ b ∈ fp1, b < wr.heap.size) := Lib.hid (fun b hm => by have := (BD_399.out.lt kIntS_ok b hm); first | exact this | omega | (simp at this; omega))
      have LT_405 : Hid (∀ b ∈ fp2, b < wr.heap.size) := Lib.hid (fun b hm => by have := (BD_400.out.lt kBool_ok b hm); first | exact this | omega | (simp at this; omega))
      have hb_406 : Below wr.drew.heap.size wr.drew (wr.alloc (.cells #[] 3)).drew := below_alloc_drew _ _
      have hz_407 : wr.heap.size ≤ wr.heap.size + 1 := by have := (hb_406).size; first | omega | (simp at this; omega)
      have c_408 : (wr.alloc (.cells #[] 3)).drew.cell? ⟨w1.heap.size, 0, none⟩ = some (v1) := below_later hb_406 c_392; clear c_392
      have c_409 : (wr.alloc (.cells #[] 3)).drew.cell? ⟨w1.heap.size, 1, none⟩ = some (v2) := below_later hb_406 c_393; clear c_393
      have z_410 : (wr.alloc (.cells #[] 3)).drew.frozen? ⟨w1.heap.size, 0, none⟩ = false := (Below.frozen hb_406 (p := ⟨w1.heap.size, 0, none⟩) (by show w1.heap.size < _; first | omega | (simp; done) | (simp; omega))).trans z_394
      have z_411 : (wr.alloc (.cells #[] 3)).drew.frozen? ⟨w1.heap.size, 1, none⟩ = false := (Below.frozen hb_406 (p := ⟨w1.heap.size, 1, none⟩) (by show w1.heap.size < _; first | omega | (simp; done) | (simp; omega))).trans z_395
      have c_412 : (wr.alloc (.cells #[] 3)).drew.cell? ⟨w.heap.size, 1, none⟩ = some (.slice (some ⟨be, offe, none⟩) a0.2.length ecap') := below_later hb_406 c_396; clear c_396
      have c_413 : (wr.alloc (.cells #[] 3)).drew.cell? ⟨be, offe + i, none⟩ = some (.bool y) := below_later hb_406 c_397; clear c_397
      have hz_414 : w1.heap.size + 1 ≤ wr.heap.size + 1 := Nat.le_trans hz_398 hz_407
      have BD_415 := Lib.hid (BD_399.out.later kIntS_ok hb_406)
      have BD_416 := Lib.hid (BD_400.out.later kBool_ok hb_406)
      have RD_417 := Lib.hid (kIntS_ok.rbelow RD_401.out (Below.mono hb_406 (by first | omega | (simp; done) | (simp; omega))))
      have BL_418 := Lib.hid (Below.trans BL_402.out (Below.mono hb_406 (by have := (BL_402.out).size; first | omega | (simp at this; omega) | (simp at this ⊢; omega))))
      have BL_419 := Lib.hid (Below.trans BL_403.out (Below.mono hb_406 (by have := (BL_403.out).size; first | omega | (simp at this; omega) | (simp at this ⊢; omega))))
      clear hb_406
      have hz_420 : wr.heap.size < wr.heap.size + 1 := by omega
      have ND_421 : Hid (∀ b ∈ [wr.heap.size], b ∉ fp1) := Lib.hid (by intro b hb hm; simp only [List.mem_singleton] at hb; subst hb; have := (LT_404.out _ hm); first | omega | (simp at this; omega))
      have ND_422 : Hid (∀ b ∈ [wr.heap.size], b ∉ fp2) := Lib.hid (by intro b hb hm; simp only [List.mem_singleton] at hb; subst hb; have := (LT_405.out _ hm); first | omega | (simp at this; omega))
      have BD_423 : Hid (Bd 3 kInt (w1.heap.size + 1) [wr.heap.size] (wr.alloc (.cells #[] 3)).drew (.slice (some ⟨wr.heap.size, 0, none⟩) 0 0) []) := Lib.hid (Bd.fresh (World.ownsRow_made _ #[] 0 (by first | omega | (simp; omega)) (by unfold maxLen; omega) rfl))
      refine hK.out _ _ (Or.inr ?khHeld48) (fun hHeld48S => ?_)
      case khHeld48 => exact c_408
      have hHeld48 := hHeld48S.held (by kernel_rfl)
      clear hK K
      try simp only [Act.put, List.setIfInBounds_toArray, List.set_cons_zero, List.set_cons_succ]
      refine wpG_one (i := 4) (o := { dst := some 24, op := Go.Op.call { callee := Go.Callee.builtin Go.Builtin.append, args := #[Go.Operand.tmp 22, Go.Operand.tmp 23], argTypes := #[42, 42] }, type := 42, pos := "l12_machine.go:231", after := #[{ on := 2, ground := Go.Ground.data }, { on := 3, ground := Go.Ground.data }], guard := none }) rfl (by kernel_rfl) (fun K hK => ?_)
      obtain ⟨vss_424, fps_424, hrow, howl, hfp, hnd, hge⟩ := BD_423.out
      have ROW_424 := Lib.hid hrow; have OWL_424 := Lib.hid howl; have NDU_424 := Lib.hid (hfp ▸ hnd); have GE_424 := Lib.hid (fun b hb => hge b (hfp ▸ hb)); have FPE_424 := Lib.hid hfp; clear hrow howl hnd hge hfp
      have HNL := Lib.hid (news_ints RD_417.out)
      refine step_append_lies _ rfl (.tmp 22) (.tmp 23) 42 rfl (w1.heap.size + 1) 3 i0 (.int .i64 0) 1 8 Try.underlying42 hi hz0 hz1 hz2 rfl (by decide) (.slice (some ⟨wr.heap.size, 0, none⟩) 0 0) 0 vss_424.flatten rfl ROW_424.out ⟨bl, offl, none⟩ l.length acap _ rfl (ints_len l) HNL.out (ints_cell l) hl1' HC7.out HC8.out (by first | omega | (simp; omega)) _ rfl ?_
      intro g4 cp4 w4 hown hgrow hat hlt4
      have HG_425 := Lib.hid hgrow; have HATHG_425 := Lib.hid hat; have HONHG_425 := Lib.hid hown
      clear hgrow hat hown
      have hz_426 : wr.heap.size + 1 ≤ w4.heap.size := by have := HG_425.out.size; first | omega | (simp at this; omega)
      have LT_427 : Hid (∀ b ∈ fp1, b < wr.heap.size + 1) := Lib.hid (fun b hm => by have := (BD_415.out.lt kIntS_ok b hm); first | exact this | omega | (simp at this; omega))
      have LT_428 : Hid (∀ b ∈ fp2, b < wr.heap.size + 1) := Lib.hid (fun b hm => by have := (BD_416.out.lt kBool_ok b hm); first | exact this | omega | (simp at this; omega))
      have LT_429 : Hid (∀ b ∈ [wr.heap.size], b < wr.heap.size + 1) := Lib.hid (fun b hm => by have := (BD_423.out.lt kInt_ok b hm); first | exact this | omega | (simp at this; omega))
      have BD_430 := Lib.hid (Bd.apps rfl kInt_ok ROW_424.out OWL_424.out NDU_424.out GE_424.out ⟨rfl, fun x hx w => ⟨rfl, rfl, HWF.out x hx⟩⟩ HONHG_425.out HG_425.out HATHG_425.out (by first | omega | (simp; done) | (simp; omega)))
      have c_431 : w4.cell? ⟨w1.heap.size, 0, none⟩ = some (v1) := BD_423.out.cell_grown HG_425.out c_408 (by first | omega | (simp; done) | (simp; omega))
      have c_432 : w4.cell? ⟨w1.heap.size, 1, none⟩ = some (v2) := BD_423.out.cell_grown HG_425.out c_409 (by first | omega | (simp; done) | (simp; omega))
      have z_433 : w4.frozen? ⟨w1.heap.size, 0, none⟩ = false := BD_423.out.frozen_grown HG_425.out (by first | omega | (simp; done) | (simp; omega)) z_410 (by first | omega | (simp; done) | (simp; omega))
      have z_434 : w4.frozen? ⟨w1.heap.size, 1, none⟩ = false := BD_423.out.frozen_grown HG_425.out (by first | omega | (simp; done) | (simp; omega)) z_411 (by first | omega | (simp; done) | (simp; omega))
      have c_435 : w4.cell? ⟨w.heap.size, 1, none⟩ = some (.slice (some ⟨be, offe, none⟩) a0.2.length ecap') := BD_423.out.cell_grown HG_425.out c_412 (by first | omega | (simp; done) | (simp; omega))
      have c_436 : w4.cell? ⟨be, offe + i, none⟩ = some (.bool y) := BD_423.out.cell_grown HG_425.out c_413 (by first | omega | (simp; done) | (simp; omega))
      have hz_437 : w1.heap.size + 1 ≤ w4.heap.size := Nat.le_trans hz_414 hz_426
      have BD_438 := Lib.hid (BD_415.out.grown kIntS_ok HG_425.out (fun k hk hm => ND_421.out k (BD_423.out.own_mem k hk) hm))
      have ND_439 : Hid (∀ b ∈ (g4 :: (fps_424.flatten ++ [])), b ∉ fp1) := Lib.hid (fun b hm hs => (app_in HATHG_425.out hm).elim (fun h => ND_421.out b (FPE_424.out ▸ h) hs) (fun h => h.elim (fun h => by simp at h) (fun h => by have := LT_427.out b hs; first | omega | (simp at h; omega))))
      have BD_440 := Lib.hid (BD_416.out.grown kBool_ok HG_425.out (fun k hk hm => ND_422.out k (BD_423.out.own_mem k hk) hm))
      have ND_441 : Hid (∀ b ∈ (g4 :: (fps_424.flatten ++ [])), b ∉ fp2) := Lib.hid (fun b hm hs => (app_in HATHG_425.out hm).elim (fun h => ND_422.out b (FPE_424.out ▸ h) hs) (fun h => h.elim (fun h => by simp at h) (fun h => by have := LT_428.out b hs; first | omega | (simp at h; omega))))
      have RD_442 := Lib.hid (kIntS_ok.rbelow RD_417.out (Below.mono (Below.grown (Below.refl (w1.heap.size + 1) (wr.alloc (.cells #[] 3)).drew) HG_425.out (by first | omega | (simp; done) | (simp; omega)) BD_423.out.own_ge) (by first | omega | (simp; done) | (simp; omega))))
      have BL_443 := Lib.hid (Below.grown BL_418.out HG_425.out (by have := (BL_418.out).size; first | omega | (simp at this; omega) | (simp at this ⊢; omega)) (fun k hk => Nat.le_trans (by first | omega | (simp; done) | (simp; omega)) (BD_423.out.own_ge k hk)))
      have BL_444 := Lib.hid (Below.grown BL_419.out HG_425.out (by have := (BL_419.out).size; first | omega | (simp at this; omega) | (simp at this ⊢; omega)) (fun k hk => Nat.le_trans (by first | omega | (simp; done) | (simp; omega)) (BD_423.out.own_ge k hk)))
      have hz_445 : wr.heap.size + 1 ≤ w4.heap.size := Nat.le_trans hz_420 hz_426
      have BD_446 : Hid (Bd 3 kInt (w1.heap.size + 1) (g4 :: (fps_424.flatten ++ [])) w4 (.slice (some ⟨g4, 0, none⟩) l.length cp4) l) := Lib.hid (by have h := BD_430.out; simp only [List.length_nil, Nat.zero_add, List.nil_append] at h; exact h)
      refine hK.out _ _ (Or.inr ?khHeld49) (fun hHeld49S => ?_)
      case khHeld49 => exact c_431
      have hHeld49 := hHeld49S.held (by kernel_rfl)
      clear hK K
      try simp only [Act.put, List.setIfInBounds_toArray, List.set_cons_zero, List.set_cons_succ]
      refine wpG_one (i := 5) (o := { dst := some 25, op := Go.Op.buildSlice 22 1 #[(0, Go.Operand.tmp 24)], type := 22, pos := "l12_machine.go:231", after := #[{ on := 4, ground := Go.Ground.data }], guard := none }) rfl (by kernel_rfl) (fun K hK => ?_)
      go_simp
      have LT_447 : Hid (∀ b ∈ fp1, b < w4.heap.size) := Lib.hid (fun b hm => by have := (BD_438.out.lt kIntS_ok b hm); first | exact this | omega | (simp at this; omega))
      have LT_448 : Hid (∀ b ∈ fp2, b < w4.heap.size) := Lib.hid (fun b hm => by have := (BD_440.out.lt kBool_ok b hm); first | exact this | omega | (simp at this; omega))
      have LT_449 : Hid (∀ b ∈ (g4 :: (fps_424.flatten ++ [])), b < w4.heap.size) := Lib.hid (fun b hm => by have := (BD_446.out.lt kInt_ok b hm); first | exact this | omega | (simp at this; omega))
      have hb_450 : Below w4.heap.size w4 (w4.alloc (.cells #[.slice (some ⟨g4, 0, none⟩) l.length cp4] 42)) := (Below.refl _ _).alloc (Nat.le_refl _) _
      have hz_451 : w4.heap.size ≤ w4.heap.size + 1 := by have := (hb_450).size; first | omega | (simp at this; omega)
      have c_452 : (w4.alloc (.cells #[.slice (some ⟨g4, 0, none⟩) l.length cp4] 42)).cell? ⟨w1.heap.size, 0, none⟩ = some (v1) := below_later hb_450 c_431; clear c_431
      have c_453 : (w4.alloc (.cells #[.slice (some ⟨g4, 0, none⟩) l.length cp4] 42)).cell? ⟨w1.heap.size, 1, none⟩ = some (v2) := below_later hb_450 c_432; clear c_432
      have z_454 : (w4.alloc (.cells #[.slice (some ⟨g4, 0, none⟩) l.length cp4] 42)).frozen? ⟨w1.heap.size, 0, none⟩ = false := (Below.frozen hb_450 (p := ⟨w1.heap.size, 0, none⟩) (by show w1.heap.size < _; first | omega | (simp; done) | (simp; omega))).trans z_433
      have z_455 : (w4.alloc (.cells #[.slice (some ⟨g4, 0, none⟩) l.length cp4] 42)).frozen? ⟨w1.heap.size, 1, none⟩ = false := (Below.frozen hb_450 (p := ⟨w1.heap.size, 1, none⟩) (by show w1.heap.size < _; first | omega | (simp; done) | (simp; omega))).trans z_434
      have c_456 : (w4.alloc (.cells #[.slice (some ⟨g4, 0, none⟩) l.length cp4] 42)).cell? ⟨w.heap.size, 1, none⟩ = some (.slice (some ⟨be, offe, none⟩) a0.2.length ecap') := below_later hb_450 c_435; clear c_435
      have c_457 : (w4.alloc (.cells #[.slice (some ⟨g4, 0, none⟩) l.length cp4] 42)).cell? ⟨be, offe + i, none⟩ = some (.bool y) := below_later hb_450 c_436; clear c_436
      have hz_458 : w1.heap.size + 1 ≤ w4.heap.size + 1 := Nat.le_trans hz_437 hz_451
      have BD_459 := Lib.hid (BD_438.out.later kIntS_ok hb_450)
      have BD_460 := Lib.hid (BD_440.out.later kBool_ok hb_450)
      have RD_461 := Lib.hid (kIntS_ok.rbelow RD_442.out (Below.mono hb_450 (by first | omega | (simp; done) | (simp; omega))))
      have BL_462 := Lib.hid (Below.trans BL_443.out (Below.mono hb_450 (by have := (BL_443.out).size; first | omega | (simp at this; omega) | (simp at this ⊢; omega))))
      have BL_463 := Lib.hid (Below.trans BL_444.out (Below.mono hb_450 (by have := (BL_444.out).size; first | omega | (simp at this; omega) | (simp at this ⊢; omega))))
      have hz_464 : wr.heap.size + 1 ≤ w4.heap.size + 1 := Nat.le_trans hz_445 hz_451
      have BD_465 := Lib.hid (BD_446.out.later kInt_ok hb_450)
      clear hb_450
      have c_466 : (w4.alloc (.cells #[.slice (some ⟨g4, 0, none⟩) l.length cp4] 42)).cell? ⟨w4.heap.size, 0, none⟩ = some (.slice (some ⟨g4, 0, none⟩) l.length cp4) := by go_simp
      have z_467 : (w4.alloc (.cells #[.slice (some ⟨g4, 0, none⟩) l.length cp4] 42)).frozen? ⟨w4.heap.size, 0, none⟩ = false := by go_simp
      have hz_468 : w4.heap.size < w4.heap.size + 1 := by omega
      have ND_469 : Hid (∀ b ∈ [w4.heap.size], b ∉ fp1) := Lib.hid (by intro b hb hm; simp only [List.mem_singleton] at hb; subst hb; have := (LT_447.out _ hm); first | omega | (simp at this; omega))
      have ND_470 : Hid (∀ b ∈ [w4.heap.size], b ∉ fp2) := Lib.hid (by intro b hb hm; simp only [List.mem_singleton] at hb; subst hb; have := (LT_448.out _ hm); first | omega | (simp at this; omega))
      have ND_471 : Hid (∀ b ∈ [w4.heap.size], b ∉ (g4 :: (fps_424.flatten ++ []))) := Lib.hid (by intro b hb hm; simp only [List.mem_singleton] at hb; subst hb; have := (LT_449.out _ hm); first | omega | (simp at this; omega))
      refine hK.out _ _ (Or.inr ?khHeld50) (fun hHeld50S => ?_)
      case khHeld50 => exact c_452
      have hHeld50 := hHeld50S.held (by kernel_rfl)
      clear hK K
      try simp only [Act.put, List.setIfInBounds_toArray, List.set_cons_zero, List.set_cons_succ]
      refine wpG_one (i := 6) (o := { dst := some 26, op := Go.Op.call { callee := Go.Callee.builtin Go.Builtin.append, args := #[Go.Operand.tmp 21, Go.Operand.tmp 25], argTypes := #[22, 22] }, type := 22, pos := "l12_machine.go:231", after := #[{ on := 1, ground := Go.Ground.data }, { on := 5, ground := Go.Ground.data }, { on := 4, ground := Go.Ground.chain }], guard := none }) rfl (by kernel_rfl) (fun K hK => ?_)
      have OW_472 : Hid (kIntS.ow (g4 :: (fps_424.flatten ++ [])) (w4.alloc (.cells #[.slice (some ⟨g4, 0, none⟩) l.length cp4] 42)) [.slice (some ⟨g4, 0, none⟩) l.length cp4] l) := Lib.hid BD_465.out.ow
      have ND_473 := Lib.hid BD_465.out.nodup; have GE_474 := Lib.hid BD_465.out.ge
      obtain ⟨vss_475, fps_475, hrow, howl, hfp, hnd, hge⟩ := BD_459.out
      rw [HLT1.out] at hrow
      have ROW_475 := Lib.hid hrow; have OWL_475 := Lib.hid howl; have NDU_475 := Lib.hid (hfp ▸ hnd); have GE_475 := Lib.hid (fun b hb => hge b (hfp ▸ hb)); have FPE_475 := Lib.hid hfp; clear hrow howl hnd hge hfp
      refine step_append_lies _ rfl (.tmp 21) (.tmp 25) 22 rfl (w1.heap.size + 1) 42 i1 (.slice none 0 0) 1 24 Try.underlying22 hi1 hy0 hy1 hy2 rfl (by decide) v1 i vss_475.flatten rfl ROW_475.out ⟨w4.heap.size, 0, none⟩ 1 1 [.slice (some ⟨g4, 0, none⟩) l.length cp4] rfl rfl (news_at c_466) (by simp [Value.oneCell']) (by omega) HC3.out HC4.out (by first | omega | (simp; omega)) _ rfl ?_
      intro g7 cp7 w7 hown hgrow hat hlt4
      have HG_476 := Lib.hid hgrow; have HATHG_476 := Lib.hid hat; have HONHG_476 := Lib.hid hown
      clear hgrow hat hown
      have hz_477 : w4.heap.size + 1 ≤ w7.heap.size := by have := HG_476.out.size; first | omega | (simp at this; omega)
      have LT_478 : Hid (∀ b ∈ fp1, b < w4.heap.size + 1) := Lib.hid (fun b hm => by have := (BD_459.out.lt kIntS_ok b hm); first | exact this | omega | (simp at this; omega))
      have LT_479 : Hid (∀ b ∈ fp2, b < w4.heap.size + 1) := Lib.hid (fun b hm => by have := (BD_460.out.lt kBool_ok b hm); first | exact this | omega | (simp at this; omega))
      have LT_480 : Hid (∀ b ∈ (g4 :: (fps_424.flatten ++ [])), b < w4.heap.size + 1) := Lib.hid (fun b hm => by have := (kIntS_ok.olt OW_472.out b hm); first | exact this | omega | (simp at this; omega))
      have BD_481 := Lib.hid (Bd.app HLT1.out kIntS_ok ROW_475.out OWL_475.out NDU_475.out GE_475.out OW_472.out ND_473.out (fun b hb hm => ND_439.out b hb (FPE_475.out ▸ hm)) GE_474.out HONHG_476.out HG_476.out HATHG_476.out (by first | omega | (simp; done) | (simp; omega)))
      have c_482 : w7.cell? ⟨w1.heap.size, 0, none⟩ = some (v1) := BD_459.out.cell_grown HG_476.out c_452 (by first | omega | (simp; done) | (simp; omega))
      have c_483 : w7.cell? ⟨w1.heap.size, 1, none⟩ = some (v2) := BD_459.out.cell_grown HG_476.out c_453 (by first | omega | (simp; done) | (simp; omega))
      have z_484 : w7.frozen? ⟨w1.heap.size, 0, none⟩ = false := BD_459.out.frozen_grown HG_476.out (by first | omega | (simp; done) | (simp; omega)) z_454 (by first | omega | (simp; done) | (simp; omega))
      have z_485 : w7.frozen? ⟨w1.heap.size, 1, none⟩ = false := BD_459.out.frozen_grown HG_476.out (by first | omega | (simp; done) | (simp; omega)) z_455 (by first | omega | (simp; done) | (simp; omega))
      have c_486 : w7.cell? ⟨w.heap.size, 1, none⟩ = some (.slice (some ⟨be, offe, none⟩) a0.2.length ecap') := BD_459.out.cell_grown HG_476.out c_456 (by first | omega | (simp; done) | (simp; omega))
      have c_487 : w7.cell? ⟨be, offe + i, none⟩ = some (.bool y) := BD_459.out.cell_grown HG_476.out c_457 (by first | omega | (simp; done) | (simp; omega))
      have hz_488 : w1.heap.size + 1 ≤ w7.heap.size := Nat.le_trans hz_458 hz_477
      have BD_489 := Lib.hid (BD_460.out.grown kBool_ok HG_476.out (fun k hk hm => DIS.out k (BD_459.out.own_mem k hk) hm))
      have ND_490 : Hid (∀ b ∈ (g7 :: (fps_475.flatten ++ (g4 :: (fps_424.flatten ++ [])))), b ∉ fp2) := Lib.hid (fun b hm hs => (app_in HATHG_476.out hm).elim (fun h => DIS.out b (FPE_475.out ▸ h) hs) (fun h => h.elim (fun h => by exact ND_441.out b h hs) (fun h => by have := LT_479.out b hs; first | omega | (simp at h; omega))))
      have RD_491 := Lib.hid (kIntS_ok.rbelow RD_461.out (Below.mono (Below.grown (Below.refl (w1.heap.size + 1) (w4.alloc (.cells #[.slice (some ⟨g4, 0, none⟩) l.length cp4] 42))) HG_476.out (by first | omega | (simp; done) | (simp; omega)) BD_459.out.own_ge) (by first | omega | (simp; done) | (simp; omega))))
      have BL_492 := Lib.hid (Below.grown BL_462.out HG_476.out (by have := (BL_462.out).size; first | omega | (simp at this; omega) | (simp at this ⊢; omega)) (fun k hk => Nat.le_trans (by first | omega | (simp; done) | (simp; omega)) (BD_459.out.own_ge k hk)))
      have BL_493 := Lib.hid (Below.grown BL_463.out HG_476.out (by have := (BL_463.out).size; first | omega | (simp at this; omega) | (simp at this ⊢; omega)) (fun k hk => Nat.le_trans (by first | omega | (simp; done) | (simp; omega)) (BD_459.out.own_ge k hk)))
      have hz_494 : wr.heap.size + 1 ≤ w7.heap.size := Nat.le_trans hz_464 hz_477
      have c_495 : w7.cell? ⟨w4.heap.size, 0, none⟩ = some (.slice (some ⟨g4, 0, none⟩) l.length cp4) := (HG_476.out.cell_far ⟨w4.heap.size, 0, none⟩ (World.block_lt_of_cell? _ _ c_466) (fun he => ND_469.out _ (by simp) (BD_459.out.own_mem _ he.symm))).trans c_466
      have z_496 : w7.frozen? ⟨w4.heap.size, 0, none⟩ = false := (HG_476.out.frozen_far ⟨w4.heap.size, 0, none⟩ (by first | omega | (simp; done) | (simp; omega)) (fun he => ND_469.out _ (by simp) (BD_459.out.own_mem _ he.symm))).trans z_467
      have hz_497 : w4.heap.size + 1 ≤ w7.heap.size := Nat.le_trans hz_468 hz_477
      refine hK.out _ _ (Or.inl (by kernel_rfl)) (fun _ => ?_)
      clear hK K
      try simp only [Act.put, List.setIfInBounds_toArray, List.set_cons_zero, List.set_cons_succ]
      refine wpG_pure (i := 7) (oi := { dst := some 27, op := Go.Op.fieldAddr 28 (Go.Operand.tmp 4) 0, type := 0, pos := "l12_machine.go:231", after := #[{ on := 0, ground := Go.Ground.phase }, { on := 1, ground := Go.Ground.phase }, { on := 2, ground := Go.Ground.phase }, { on := 3, ground := Go.Ground.phase }, { on := 4, ground := Go.Ground.phase }, { on := 5, ground := Go.Ground.phase }, { on := 6, ground := Go.Ground.phase }], guard := none }) (v := ?vg52) rfl (by kernel_rfl) (fun _ _ _ h => h) (Or.inl (by kernel_rfl)) (Or.inl ⟨by rfl, ?yg52⟩) ?_
      case yg52 => (intro wS _; go_simp <;> with_reducible rfl)
      try simp only [Act.put, List.setIfInBounds_toArray, List.set_cons_zero, List.set_cons_succ]
      refine wpG_one (i := 8) (o := { dst := none, op := Go.Op.store 22 (Go.Operand.tmp 27) (Go.Operand.tmp 26), type := 0, pos := "l12_machine.go:231", after := #[{ on := 7, ground := Go.Ground.data }, { on := 6, ground := Go.Ground.data }, { on := 6, ground := Go.Ground.chain }, { on := 0, ground := Go.Ground.phase }, { on := 1, ground := Go.Ground.phase }, { on := 2, ground := Go.Ground.phase }, { on := 3, ground := Go.Ground.phase }, { on := 4, ground := Go.Ground.phase }, { on := 5, ground := Go.Ground.phase }, { on := 6, ground := Go.Ground.phase }], guard := none }) rfl (by kernel_rfl) (fun K hK => ?_)
      go_simp
      refine hK.out _ _ (Or.inl (by kernel_rfl)) (fun _ => ?_)
      clear hK K
      try simp only [Act.put, List.setIfInBounds_toArray, List.set_cons_zero, List.set_cons_succ]
      refine wpG_done (by kernel_rfl) ?_
      have c_498 : (w7.setCell ⟨w1.heap.size, 0, none⟩ (.slice (some ⟨g7, 0, none⟩) (i + 1) cp7)).cell? ⟨w1.heap.size, 0, none⟩ = some (.slice (some ⟨g7, 0, none⟩) (i + 1) cp7) := World.cell?_setCell_same _ _ _ c_482
      have c_499 : (w7.setCell ⟨w1.heap.size, 0, none⟩ (.slice (some ⟨g7, 0, none⟩) (i + 1) cp7)).cell? ⟨w1.heap.size, 1, none⟩ = some (v2) := (World.cell?_setCell_other _ _ _ _ (by simp only [ne_eq, Addr.mk.injEq, not_and]; omega)).trans c_483
      have z_500 : (w7.setCell ⟨w1.heap.size, 0, none⟩ (.slice (some ⟨g7, 0, none⟩) (i + 1) cp7)).frozen? ⟨w1.heap.size, 0, none⟩ = false := by rw [World.frozen?_setCell]; exact z_484
      have z_501 : (w7.setCell ⟨w1.heap.size, 0, none⟩ (.slice (some ⟨g7, 0, none⟩) (i + 1) cp7)).frozen? ⟨w1.heap.size, 1, none⟩ = false := by rw [World.frozen?_setCell]; exact z_485
      have c_502 : (w7.setCell ⟨w1.heap.size, 0, none⟩ (.slice (some ⟨g7, 0, none⟩) (i + 1) cp7)).cell? ⟨w.heap.size, 1, none⟩ = some (.slice (some ⟨be, offe, none⟩) a0.2.length ecap') := (World.cell?_setCell_other _ _ _ _ (by simp only [ne_eq, Addr.mk.injEq, not_and]; omega)).trans c_486
      have c_503 : (w7.setCell ⟨w1.heap.size, 0, none⟩ (.slice (some ⟨g7, 0, none⟩) (i + 1) cp7)).cell? ⟨be, offe + i, none⟩ = some (.bool y) := (World.cell?_setCell_other _ _ _ _ (by simp only [ne_eq, Addr.mk.injEq, not_and]; omega)).trans c_487
      have BD_504 := Lib.hid (BD_481.out.setCell kIntS_ok (a := ⟨w1.heap.size, 0, none⟩) (by show w1.heap.size < _; first | omega | (simp; omega)) (.slice (some ⟨g7, 0, none⟩) (i + 1) cp7))
      have BD_505 := Lib.hid (BD_489.out.setCell kBool_ok (a := ⟨w1.heap.size, 0, none⟩) (by show w1.heap.size < _; first | omega | (simp; omega)) (.slice (some ⟨g7, 0, none⟩) (i + 1) cp7))
      have BL_506 := Lib.hid (BL_492.out.setCell (p := ⟨w1.heap.size, 0, none⟩) (by show _ ≤ w1.heap.size; omega) (.slice (some ⟨g7, 0, none⟩) (i + 1) cp7))
      have BL_507 := Lib.hid (BL_493.out.setCell (p := ⟨w1.heap.size, 0, none⟩) (by show _ ≤ w1.heap.size; omega) (.slice (some ⟨g7, 0, none⟩) (i + 1) cp7))
      go_wp2_with fail
      obtain ⟨wz, hwz⟩ : ∃ z : World, z = (w7.setCell ⟨w1.heap.size, 0, none⟩ (.slice (some ⟨g7, 0, none⟩) (i + 1) cp7)) := ⟨_, rfl⟩
      rw [← hwz] at c_498 c_499 z_500 z_501 c_502 c_503 BD_504 BD_505 BL_506 BL_507 ⊢
      have hz_508 : w1.heap.size + 1 ≤ wz.heap.size := by rw [hwz]; simp only [World.size_setCell, World.size_alloc]; exact hz_488
      have hz_509 : wr.heap.size + 1 ≤ wz.heap.size := by rw [hwz]; simp only [World.size_setCell, World.size_alloc]; exact hz_494
      clear hwz
      have hb_510 : Below wz.heap.size wz wz.drew := (Below.refl _ _).drew
      have hz_511 : wz.heap.size ≤ wz.heap.size := by have := (hb_510).size; first | omega | (simp at this; omega)
      have c_512 : wz.drew.cell? ⟨w1.heap.size, 0, none⟩ = some (.slice (some ⟨g7, 0, none⟩) (i + 1) cp7) := below_later hb_510 c_498; clear c_498
      have c_513 : wz.drew.cell? ⟨w1.heap.size, 1, none⟩ = some (v2) := below_later hb_510 c_499; clear c_499
      have z_514 : wz.drew.frozen? ⟨w1.heap.size, 0, none⟩ = false := (Below.frozen hb_510 (p := ⟨w1.heap.size, 0, none⟩) (by show w1.heap.size < _; first | omega | (simp; done) | (simp; omega))).trans z_500
      have z_515 : wz.drew.frozen? ⟨w1.heap.size, 1, none⟩ = false := (Below.frozen hb_510 (p := ⟨w1.heap.size, 1, none⟩) (by show w1.heap.size < _; first | omega | (simp; done) | (simp; omega))).trans z_501
      have c_516 : wz.drew.cell? ⟨w.heap.size, 1, none⟩ = some (.slice (some ⟨be, offe, none⟩) a0.2.length ecap') := below_later hb_510 c_502; clear c_502
      have c_517 : wz.drew.cell? ⟨be, offe + i, none⟩ = some (.bool y) := below_later hb_510 c_503; clear c_503
      have hz_518 : w1.heap.size + 1 ≤ wz.heap.size := Nat.le_trans hz_508 hz_511
      have BD_519 := Lib.hid (BD_504.out.later kIntS_ok hb_510)
      have BD_520 := Lib.hid (BD_505.out.later kBool_ok hb_510)
      have BL_521 := Lib.hid (Below.trans BL_506.out (Below.mono hb_510 (by have := (BL_506.out).size; first | omega | (simp at this; omega) | (simp at this ⊢; omega))))
      have BL_522 := Lib.hid (Below.trans BL_507.out (Below.mono hb_510 (by have := (BL_507.out).size; first | omega | (simp at this; omega) | (simp at this ⊢; omega))))
      have hz_523 : wr.heap.size + 1 ≤ wz.heap.size := Nat.le_trans hz_509 hz_511
      clear hb_510
      refine wp_region_G [9] (fun w' => w'.cell? ⟨w1.heap.size, 1, none⟩ = some (v2) ∧ w'.cell? ⟨w.heap.size, 1, none⟩ = some (.slice (some ⟨be, offe, none⟩) a0.2.length ecap') ∧ w'.cell? ⟨be, offe + i, none⟩ = some (.bool y)) (by kernel_rfl) ?_ (fun hHeld => ?_)
      · exact ⟨c_513, c_516, c_517⟩
      refine wpG_pure (i := 0) (oi := { dst := some 28, op := Go.Op.fieldAddr 28 (Go.Operand.tmp 4) 1, type := 0, pos := "l12_machine.go:232", after := #[], guard := none }) (v := ?vg54) rfl (by kernel_rfl) (fun _ _ _ h => h) (Or.inr hHeld) (Or.inl ⟨by rfl, ?yg54⟩) ?_
      case yg54 => (intro wS _; go_simp <;> with_reducible rfl)
      try simp only [Act.put, List.setIfInBounds_toArray, List.set_cons_zero, List.set_cons_succ]
      refine wpG_load (i := 1) (oi := { dst := some 29, op := Go.Op.load 23 (Go.Operand.tmp 28), type := 23, pos := "l12_machine.go:232", after := #[{ on := 0, ground := Go.Ground.data }], guard := none }) (v := ?vg55) [[9, 1]] rfl (by kernel_rfl) (fun _ _ _ h => h) hHeld (Or.inl ⟨by rfl, ?yg55⟩) ?_
      case yg55 => (intro wS hSw; (try dsimp only at hSw); go_simp <;> with_reducible rfl)
      try simp only [Act.put, List.setIfInBounds_toArray, List.set_cons_zero, List.set_cons_succ]
      refine wpG_pure (i := 2) (oi := { dst := some 30, op := Go.Op.fieldAddr 28 (Go.Operand.tmp 1) 1, type := 0, pos := "l12_machine.go:232", after := #[], guard := none }) (v := ?vg56) rfl (by kernel_rfl) (fun _ _ _ h => h) (Or.inr hHeld) (Or.inl ⟨by rfl, ?yg56⟩) ?_
      case yg56 => (intro wS _; go_simp <;> with_reducible rfl)
      try simp only [Act.put, List.setIfInBounds_toArray, List.set_cons_zero, List.set_cons_succ]
      refine wpG_load (i := 3) (oi := { dst := some 31, op := Go.Op.load 23 (Go.Operand.tmp 30), type := 23, pos := "l12_machine.go:232", after := #[{ on := 2, ground := Go.Ground.data }], guard := none }) (v := ?vg57) [[9, 8, 7, 6, 5, 3]] rfl (by kernel_rfl) (fun _ _ _ h => h) hHeld (Or.inl ⟨by rfl, ?yg57⟩) ?_
      case yg57 => (intro wS hSw; (try dsimp only at hSw); go_simp <;> with_reducible rfl)
      try simp only [Act.put, List.setIfInBounds_toArray, List.set_cons_zero, List.set_cons_succ]
      refine wpG_pure (i := 4) (oi := { dst := some 32, op := Go.Op.move (Go.Operand.tmp 5), type := 3, pos := "l12_machine.go:232", after := #[], guard := none }) (v := ?vg58) rfl (by kernel_rfl) (fun _ _ _ h => h) (Or.inr hHeld) (Or.inl ⟨by rfl, ?yg58⟩) ?_
      case yg58 => (intro wS _; go_simp <;> with_reducible rfl)
      try simp only [Act.put, List.setIfInBounds_toArray, List.set_cons_zero, List.set_cons_succ]
      refine wpG_pure (i := 5) (oi := { dst := some 33, op := Go.Op.indexAddr 23 (Go.Operand.tmp 31) (Go.Operand.tmp 32), type := 0, pos := "l12_machine.go:232", after := #[{ on := 3, ground := Go.Ground.data }, { on := 4, ground := Go.Ground.data }], guard := none }) (v := ?vg59) rfl (by kernel_rfl) (fun _ _ _ h => h) (Or.inr hHeld) (Or.inl ⟨by rfl, ?yg59⟩) ?_
      case yg59 => (intro wS _; go_simp <;> with_reducible rfl)
      try simp only [Act.put, List.setIfInBounds_toArray, List.set_cons_zero, List.set_cons_succ]
      refine wpG_load (i := 6) (oi := { dst := some 34, op := Go.Op.load 4 (Go.Operand.tmp 33), type := 4, pos := "l12_machine.go:232", after := #[{ on := 5, ground := Go.Ground.data }], guard := none }) (v := ?vg60) [[9, 8, 7, 6]] rfl (by kernel_rfl) (fun _ _ _ h => h) hHeld (Or.inl ⟨by rfl, ?yg60⟩) ?_
      case yg60 => (intro wS hSw; (try dsimp only at hSw); go_simp <;> with_reducible rfl)
      try simp only [Act.put, List.setIfInBounds_toArray, List.set_cons_zero, List.set_cons_succ]
      refine wpG_pure (i := 7) (oi := { dst := some 35, op := Go.Op.unOp Go.UnOp.not 4 (Go.Operand.tmp 34), type := 4, pos := "l12_machine.go:232", after := #[{ on := 6, ground := Go.Ground.data }], guard := none }) (v := ?vg61) rfl (by kernel_rfl) (fun _ _ _ h => h) (Or.inr hHeld) (Or.inl ⟨by rfl, ?yg61⟩) ?_
      case yg61 => (intro wS _; go_simp <;> with_reducible rfl)
      try simp only [Act.put, List.setIfInBounds_toArray, List.set_cons_zero, List.set_cons_succ]
      refine wpG_one (i := 8) (o := { dst := some 36, op := Go.Op.buildSlice 23 1 #[(0, Go.Operand.tmp 35)], type := 23, pos := "l12_machine.go:232", after := #[{ on := 7, ground := Go.Ground.data }], guard := none }) rfl (by kernel_rfl) (fun K hK => ?_)
      go_simp
      have LT_524 : Hid (∀ b ∈ (g7 :: (fps_475.flatten ++ (g4 :: (fps_424.flatten ++ [])))), b < wz.heap.size) := Lib.hid (fun b hm => by have := (BD_519.out.lt kIntS_ok b hm); first | exact this | omega | (simp at this; omega))
      have LT_525 : Hid (∀ b ∈ fp2, b < wz.heap.size) := Lib.hid (fun b hm => by have := (BD_520.out.lt kBool_ok b hm); first | exact this | omega | (simp at this; omega))
      have hb_526 : Below wz.drew.heap.size wz.drew (wz.alloc (.cells #[.bool (!y)] 4)).drew := below_alloc_drew _ _
      have hz_527 : wz.heap.size ≤ wz.heap.size + 1 := by have := (hb_526).size; first | omega | (simp at this; omega)
      have c_528 : (wz.alloc (.cells #[.bool (!y)] 4)).drew.cell? ⟨w1.heap.size, 0, none⟩ = some (.slice (some ⟨g7, 0, none⟩) (i + 1) cp7) := below_later hb_526 c_512; clear c_512
      have c_529 : (wz.alloc (.cells #[.bool (!y)] 4)).drew.cell? ⟨w1.heap.size, 1, none⟩ = some (v2) := below_later hb_526 c_513; clear c_513
      have z_530 : (wz.alloc (.cells #[.bool (!y)] 4)).drew.frozen? ⟨w1.heap.size, 0, none⟩ = false := (Below.frozen hb_526 (p := ⟨w1.heap.size, 0, none⟩) (by show w1.heap.size < _; first | omega | (simp; done) | (simp; omega))).trans z_514
      have z_531 : (wz.alloc (.cells #[.bool (!y)] 4)).drew.frozen? ⟨w1.heap.size, 1, none⟩ = false := (Below.frozen hb_526 (p := ⟨w1.heap.size, 1, none⟩) (by show w1.heap.size < _; first | omega | (simp; done) | (simp; omega))).trans z_515
      have c_532 : (wz.alloc (.cells #[.bool (!y)] 4)).drew.cell? ⟨w.heap.size, 1, none⟩ = some (.slice (some ⟨be, offe, none⟩) a0.2.length ecap') := below_later hb_526 c_516; clear c_516
      have c_533 : (wz.alloc (.cells #[.bool (!y)] 4)).drew.cell? ⟨be, offe + i, none⟩ = some (.bool y) := below_later hb_526 c_517; clear c_517
      have hz_534 : w1.heap.size + 1 ≤ wz.heap.size + 1 := Nat.le_trans hz_518 hz_527
      have BD_535 := Lib.hid (BD_519.out.later kIntS_ok hb_526)
      have BD_536 := Lib.hid (BD_520.out.later kBool_ok hb_526)
      have BL_537 := Lib.hid (Below.trans BL_521.out (Below.mono hb_526 (by have := (BL_521.out).size; first | omega | (simp at this; omega) | (simp at this ⊢; omega))))
      have BL_538 := Lib.hid (Below.trans BL_522.out (Below.mono hb_526 (by have := (BL_522.out).size; first | omega | (simp at this; omega) | (simp at this ⊢; omega))))
      have hz_539 : wr.heap.size + 1 ≤ wz.heap.size + 1 := Nat.le_trans hz_523 hz_527
      clear hb_526
      have c_540 : (wz.alloc (.cells #[.bool (!y)] 4)).drew.cell? ⟨wz.heap.size, 0, none⟩ = some (.bool (!y)) := by go_simp
      have z_541 : (wz.alloc (.cells #[.bool (!y)] 4)).drew.frozen? ⟨wz.heap.size, 0, none⟩ = false := by go_simp
      have hz_542 : wz.heap.size < wz.heap.size + 1 := by omega
      have ND_543 : Hid (∀ b ∈ [wz.heap.size], b ∉ (g7 :: (fps_475.flatten ++ (g4 :: (fps_424.flatten ++ []))))) := Lib.hid (by intro b hb hm; simp only [List.mem_singleton] at hb; subst hb; have := (LT_524.out _ hm); first | omega | (simp at this; omega))
      have ND_544 : Hid (∀ b ∈ [wz.heap.size], b ∉ fp2) := Lib.hid (by intro b hb hm; simp only [List.mem_singleton] at hb; subst hb; have := (LT_525.out _ hm); first | omega | (simp at this; omega))
      refine hK.out _ _ (Or.inr ?khHeld62) (fun hHeld62S => ?_)
      case khHeld62 => exact ⟨c_529, c_532, c_533⟩
      have hHeld62 := hHeld62S.held (by kernel_rfl)
      clear hK K
      try simp only [Act.put, List.setIfInBounds_toArray, List.set_cons_zero, List.set_cons_succ]
      refine wpG_one (i := 9) (o := { dst := some 37, op := Go.Op.call { callee := Go.Callee.builtin Go.Builtin.append, args := #[Go.Operand.tmp 29, Go.Operand.tmp 36], argTypes := #[23, 23] }, type := 23, pos := "l12_machine.go:232", after := #[{ on := 1, ground := Go.Ground.data }, { on := 8, ground := Go.Ground.data }], guard := none }) rfl (by kernel_rfl) (fun K hK => ?_)
      obtain ⟨vss_545, fps_545, hrow, howl, hfp, hnd, hge⟩ := BD_536.out
      rw [HLT2.out] at hrow
      have ROW_545 := Lib.hid hrow; have OWL_545 := Lib.hid howl; have NDU_545 := Lib.hid (hfp ▸ hnd); have GE_545 := Lib.hid (fun b hb => hge b (hfp ▸ hb)); have FPE_545 := Lib.hid hfp; clear hrow howl hnd hge hfp
      refine step_append_lies _ rfl (.tmp 29) (.tmp 36) 23 rfl (w1.heap.size + 1) 4 i2 (.bool false) 1 1 Try.underlying23 hi2 hx0 hx1 hx2 rfl (by decide) v2 i vss_545.flatten rfl ROW_545.out ⟨wz.heap.size, 0, none⟩ 1 1 [.bool (!y)] rfl rfl (news_at c_540) (by simp [Value.oneCell']) (by omega) HC5.out HC6.out (by first | omega | (simp; omega)) _ rfl ?_
      intro g9 cp9 w9 hown hgrow hat hlt4
      have HG_546 := Lib.hid hgrow; have HATHG_546 := Lib.hid hat; have HONHG_546 := Lib.hid hown
      clear hgrow hat hown
      have hz_547 : wz.heap.size + 1 ≤ w9.heap.size := by have := HG_546.out.size; first | omega | (simp at this; omega)
      have LT_548 : Hid (∀ b ∈ (g7 :: (fps_475.flatten ++ (g4 :: (fps_424.flatten ++ [])))), b < wz.heap.size + 1) := Lib.hid (fun b hm => by have := (BD_535.out.lt kIntS_ok b hm); first | exact this | omega | (simp at this; omega))
      have LT_549 : Hid (∀ b ∈ fp2, b < wz.heap.size + 1) := Lib.hid (fun b hm => by have := (BD_536.out.lt kBool_ok b hm); first | exact this | omega | (simp at this; omega))
      have BD_550 := Lib.hid (Bd.app HLT2.out kBool_ok ROW_545.out OWL_545.out NDU_545.out GE_545.out ⟨rfl, rfl, trivial⟩ List.nodup_nil (fun b hb => absurd hb (by simp)) (fun b hb => absurd hb (by simp)) HONHG_546.out HG_546.out HATHG_546.out (by first | omega | (simp; done) | (simp; omega)))
      have c_551 : w9.cell? ⟨w1.heap.size, 0, none⟩ = some (.slice (some ⟨g7, 0, none⟩) (i + 1) cp7) := BD_536.out.cell_grown HG_546.out c_528 (by first | omega | (simp; done) | (simp; omega))
      have c_552 : w9.cell? ⟨w1.heap.size, 1, none⟩ = some (v2) := BD_536.out.cell_grown HG_546.out c_529 (by first | omega | (simp; done) | (simp; omega))
      have z_553 : w9.frozen? ⟨w1.heap.size, 0, none⟩ = false := BD_536.out.frozen_grown HG_546.out (by first | omega | (simp; done) | (simp; omega)) z_530 (by first | omega | (simp; done) | (simp; omega))
      have z_554 : w9.frozen? ⟨w1.heap.size, 1, none⟩ = false := BD_536.out.frozen_grown HG_546.out (by first | omega | (simp; done) | (simp; omega)) z_531 (by first | omega | (simp; done) | (simp; omega))
      have c_555 : w9.cell? ⟨w.heap.size, 1, none⟩ = some (.slice (some ⟨be, offe, none⟩) a0.2.length ecap') := BD_536.out.cell_grown HG_546.out c_532 (by first | omega | (simp; done) | (simp; omega))
      have c_556 : w9.cell? ⟨be, offe + i, none⟩ = some (.bool y) := BD_536.out.cell_grown HG_546.out c_533 (by first | omega | (simp; done) | (simp; omega))
      have hz_557 : w1.heap.size + 1 ≤ w9.heap.size := Nat.le_trans hz_534 hz_547
      have BD_558 := Lib.hid (BD_535.out.grown kIntS_ok HG_546.out (fun k hk hm => (fun x hx hy => ND_490.out x hy hx) k (BD_536.out.own_mem k hk) hm))
      have ND_559 : Hid (∀ b ∈ (g9 :: (fps_545.flatten ++ [])), b ∉ (g7 :: (fps_475.flatten ++ (g4 :: (fps_424.flatten ++ []))))) := Lib.hid (fun b hm hs => (app_in HATHG_546.out hm).elim (fun h => (fun x hx hy => ND_490.out x hy hx) b (FPE_545.out ▸ h) hs) (fun h => h.elim (fun h => by simp at h) (fun h => by have := LT_548.out b hs; first | omega | (simp at h; omega))))
      have BL_560 := Lib.hid (Below.grown BL_537.out HG_546.out (by have := (BL_537.out).size; first | omega | (simp at this; omega) | (simp at this ⊢; omega)) (fun k hk => Nat.le_trans (by first | omega | (simp; done) | (simp; omega)) (BD_536.out.own_ge k hk)))
      have BL_561 := Lib.hid (Below.grown BL_538.out HG_546.out (by have := (BL_538.out).size; first | omega | (simp at this; omega) | (simp at this ⊢; omega)) (fun k hk => Nat.le_trans (by first | omega | (simp; done) | (simp; omega)) (BD_536.out.own_ge k hk)))
      have hz_562 : wr.heap.size + 1 ≤ w9.heap.size := Nat.le_trans hz_539 hz_547
      have c_563 : w9.cell? ⟨wz.heap.size, 0, none⟩ = some (.bool (!y)) := (HG_546.out.cell_far ⟨wz.heap.size, 0, none⟩ (World.block_lt_of_cell? _ _ c_540) (fun he => ND_544.out _ (by simp) (BD_536.out.own_mem _ he.symm))).trans c_540
      have z_564 : w9.frozen? ⟨wz.heap.size, 0, none⟩ = false := (HG_546.out.frozen_far ⟨wz.heap.size, 0, none⟩ (by first | omega | (simp; done) | (simp; omega)) (fun he => ND_544.out _ (by simp) (BD_536.out.own_mem _ he.symm))).trans z_541
      have hz_565 : wz.heap.size + 1 ≤ w9.heap.size := Nat.le_trans hz_542 hz_547
      refine hK.out _ _ (Or.inl (by kernel_rfl)) (fun _ => ?_)
      clear hK K
      try simp only [Act.put, List.setIfInBounds_toArray, List.set_cons_zero, List.set_cons_succ]
      refine wpG_pure (i := 10) (oi := { dst := some 38, op := Go.Op.fieldAddr 28 (Go.Operand.tmp 4) 1, type := 0, pos := "l12_machine.go:232", after := #[{ on := 0, ground := Go.Ground.phase }, { on := 1, ground := Go.Ground.phase }, { on := 2, ground := Go.Ground.phase }, { on := 3, ground := Go.Ground.phase }, { on := 4, ground := Go.Ground.phase }, { on := 5, ground := Go.Ground.phase }, { on := 6, ground := Go.Ground.phase }, { on := 7, ground := Go.Ground.phase }, { on := 8, ground := Go.Ground.phase }, { on := 9, ground := Go.Ground.phase }], guard := none }) (v := ?vg64) rfl (by kernel_rfl) (fun _ _ _ h => h) (Or.inl (by kernel_rfl)) (Or.inl ⟨by rfl, ?yg64⟩) ?_
      case yg64 => (intro wS _; go_simp <;> with_reducible rfl)
      try simp only [Act.put, List.setIfInBounds_toArray, List.set_cons_zero, List.set_cons_succ]
      refine wpG_one (i := 11) (o := { dst := none, op := Go.Op.store 23 (Go.Operand.tmp 38) (Go.Operand.tmp 37), type := 0, pos := "l12_machine.go:232", after := #[{ on := 10, ground := Go.Ground.data }, { on := 9, ground := Go.Ground.data }, { on := 9, ground := Go.Ground.chain }, { on := 0, ground := Go.Ground.phase }, { on := 1, ground := Go.Ground.phase }, { on := 2, ground := Go.Ground.phase }, { on := 3, ground := Go.Ground.phase }, { on := 4, ground := Go.Ground.phase }, { on := 5, ground := Go.Ground.phase }, { on := 6, ground := Go.Ground.phase }, { on := 7, ground := Go.Ground.phase }, { on := 8, ground := Go.Ground.phase }, { on := 9, ground := Go.Ground.phase }], guard := none }) rfl (by kernel_rfl) (fun K hK => ?_)
      go_simp
      refine hK.out _ _ (Or.inl (by kernel_rfl)) (fun _ => ?_)
      clear hK K
      try simp only [Act.put, List.setIfInBounds_toArray, List.set_cons_zero, List.set_cons_succ]
      refine wpG_done (by kernel_rfl) ?_
      have c_566 : (w9.setCell ⟨w1.heap.size, 1, none⟩ (.slice (some ⟨g9, 0, none⟩) (i + 1) cp9)).cell? ⟨w1.heap.size, 0, none⟩ = some (.slice (some ⟨g7, 0, none⟩) (i + 1) cp7) := (World.cell?_setCell_other _ _ _ _ (by simp only [ne_eq, Addr.mk.injEq, not_and]; omega)).trans c_551
      have c_567 : (w9.setCell ⟨w1.heap.size, 1, none⟩ (.slice (some ⟨g9, 0, none⟩) (i + 1) cp9)).cell? ⟨w1.heap.size, 1, none⟩ = some (.slice (some ⟨g9, 0, none⟩) (i + 1) cp9) := World.cell?_setCell_same _ _ _ c_552
      have z_568 : (w9.setCell ⟨w1.heap.size, 1, none⟩ (.slice (some ⟨g9, 0, none⟩) (i + 1) cp9)).frozen? ⟨w1.heap.size, 0, none⟩ = false := by rw [World.frozen?_setCell]; exact z_553
      have z_569 : (w9.setCell ⟨w1.heap.size, 1, none⟩ (.slice (some ⟨g9, 0, none⟩) (i + 1) cp9)).frozen? ⟨w1.heap.size, 1, none⟩ = false := by rw [World.frozen?_setCell]; exact z_554
      have c_570 : (w9.setCell ⟨w1.heap.size, 1, none⟩ (.slice (some ⟨g9, 0, none⟩) (i + 1) cp9)).cell? ⟨w.heap.size, 1, none⟩ = some (.slice (some ⟨be, offe, none⟩) a0.2.length ecap') := (World.cell?_setCell_other _ _ _ _ (by simp only [ne_eq, Addr.mk.injEq, not_and]; omega)).trans c_555
      have c_571 : (w9.setCell ⟨w1.heap.size, 1, none⟩ (.slice (some ⟨g9, 0, none⟩) (i + 1) cp9)).cell? ⟨be, offe + i, none⟩ = some (.bool y) := (World.cell?_setCell_other _ _ _ _ (by simp only [ne_eq, Addr.mk.injEq, not_and]; omega)).trans c_556
      have BD_572 := Lib.hid (BD_558.out.setCell kIntS_ok (a := ⟨w1.heap.size, 1, none⟩) (by show w1.heap.size < _; first | omega | (simp; omega)) (.slice (some ⟨g9, 0, none⟩) (i + 1) cp9))
      have BD_573 := Lib.hid (BD_550.out.setCell kBool_ok (a := ⟨w1.heap.size, 1, none⟩) (by show w1.heap.size < _; first | omega | (simp; omega)) (.slice (some ⟨g9, 0, none⟩) (i + 1) cp9))
      have BL_574 := Lib.hid (BL_560.out.setCell (p := ⟨w1.heap.size, 1, none⟩) (by show _ ≤ w1.heap.size; omega) (.slice (some ⟨g9, 0, none⟩) (i + 1) cp9))
      have BL_575 := Lib.hid (BL_561.out.setCell (p := ⟨w1.heap.size, 1, none⟩) (by show _ ≤ w1.heap.size; omega) (.slice (some ⟨g9, 0, none⟩) (i + 1) cp9))
      go_wp2_with fail
      go_roundw
      case rel =>
        have hb1 := BD_572.out; have hb2 := BD_573.out
        rw [HT1.out] at hb1; rw [HT2.out] at hb2
        exact ⟨i + 1, _, _, _, _, by omega, by go_num, Lib.hid ⟨c_566, c_567, z_568, z_569, by rw [World.size_setCell]; omega⟩, Lib.hid hb1, Lib.hid hb2, Lib.hid (fun x hx hy => ND_559.out x hy hx), Lib.hid BL_574.out⟩
      case measure => simp [intOf]; omega

end Go.Proofs.Ytedjahinlpehgaa
