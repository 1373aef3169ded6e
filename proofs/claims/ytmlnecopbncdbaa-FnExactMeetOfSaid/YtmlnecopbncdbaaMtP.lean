/- What both of two types tell: the reference's small walks. -/
import Derived.Test.YtmlnecopbncdbaaTyL
import Derived.Test.YtmlnecopbncdbaaSu3
namespace Go.Proofs.Ytmlnecopbncdbaa
set_option linter.unusedVariables false
set_option linter.unusedSimpArgs false
open Go.ChangeShapes Go.WideShapes Go.ChangeAt Go.RowKit
set_option maxRecDepth 100000

theorem putNo_is {ts : List Tr} {x : Tr} {k : Nat} (h : ∀ z ∈ ts.take k, z.no < x.no) (hk : ∀ z, ts[k]? = some z → ¬ z.no < x.no) : putNo ts x = ts.take k ++ x :: ts.drop k := by
  unfold putNo
  induction ts generalizing k with
  | nil => simp
  | cons y r ih =>
    cases k with
    | zero =>
      have h0 := hk y rfl
      rw [List.takeWhile_cons_of_neg (by simpa using h0), List.dropWhile_cons_of_neg (by simpa using h0)]
      rfl
    | succ k =>
      have h0 := h y (by simp)
      rw [List.takeWhile_cons_of_pos (by simpa using h0), List.dropWhile_cons_of_pos (by simpa using h0), List.take_succ_cons, List.drop_succ_cons, List.cons_append, List.cons_append]
      rw [ih (k := k) (fun z hz => h z (by rw [List.take_succ_cons]; exact List.mem_cons_of_mem _ hz)) (fun z hz => hk z (by simpa using hz))]
theorem KSs_ins {S : Nat → Prop} {w : World} {x : Tr} {px : List Value} (hx : KS S w x px) : ∀ (k : Nat) {ts : List Tr} {vss : List (List Value)}, KSs S w ts vss → KSs S w (ts.take k ++ x :: ts.drop k) (vss.take k ++ px :: vss.drop k)
  | 0, ts, vss, h => by
    rw [List.take_zero, List.take_zero, List.drop_zero, List.drop_zero, List.nil_append, List.nil_append, KSs]
    exact ⟨px, vss, rfl, hx, h⟩
  | k + 1, [], vss, h => by
    rw [KSs] at h; subst h
    rw [List.take_nil, List.take_nil, List.drop_nil, List.drop_nil, List.nil_append, List.nil_append, KSs]
    exact ⟨px, [], rfl, hx, by rw [KSs]⟩
  | k + 1, t :: r, vss, h => by
    rw [KSs] at h
    obtain ⟨v, us, rfl, h1, h2⟩ := h
    rw [List.take_succ_cons, List.take_succ_cons, List.drop_succ_cons, List.drop_succ_cons, List.cons_append, List.cons_append, KSs]
    exact ⟨v, _, rfl, h1, KSs_ins hx k h2⟩
theorem flat_take6 : ∀ (vss : List (List Value)) (k : Nat), (∀ v ∈ vss, v.length = 6) → vss.flatten.take (k * 6) = (vss.take k).flatten
  | [], k, _ => by simp
  | v :: r, 0, _ => by simp
  | v :: r, k + 1, h => by
    have hv := h v (by simp)
    rw [List.flatten_cons, List.take_succ_cons, List.flatten_cons, show (k + 1) * 6 = v.length + k * 6 by omega, List.take_append, List.take_of_length_le (by omega)]
    congr 1
    rw [show v.length + k * 6 - v.length = k * 6 by omega]
    exact flat_take6 r k (fun u hu => h u (by simp [hu]))
theorem flat_drop6 : ∀ (vss : List (List Value)) (k : Nat), (∀ v ∈ vss, v.length = 6) → vss.flatten.drop (k * 6) = (vss.drop k).flatten
  | [], k, _ => by simp
  | v :: r, 0, _ => by simp
  | v :: r, k + 1, h => by
    have hv := h v (by simp)
    rw [List.flatten_cons, List.drop_succ_cons, show (k + 1) * 6 = v.length + k * 6 by omega, List.drop_append, List.drop_of_length_le (by omega), List.nil_append]
    rw [show v.length + k * 6 - v.length = k * 6 by omega]
    exact flat_drop6 r k (fun u hu => h u (by simp [hu]))
theorem kss_oc {S : Nat → Prop} {w : World} : ∀ {ts : List Tr} {vss : List (List Value)}, KSs S w ts vss → ∀ u ∈ vss.flatten, u.oneCell' = true
  | [], vss, h => by rw [KSs] at h; subst h; simp
  | t :: r, vss, h => by
    rw [KSs] at h
    obtain ⟨v, us, rfl, h1, h2⟩ := h
    intro u hu
    rw [List.flatten_cons, List.mem_append] at hu
    rcases hu with hu | hu
    · obtain ⟨a, c, _, rfl, -⟩ := h1.open
      simp only [List.mem_cons, List.not_mem_nil, or_false] at hu
      rcases hu with rfl | rfl | rfl | rfl | rfl | rfl <;> rfl
    · exact kss_oc h2 u hu
set_option maxHeartbeats 2000000 in
theorem spec_l2Shell (k : Int) (nm : ByteArray) (no : Int) (m : Bool) (mo : Int) (a : Option Addr) (n c : Nat) (w : World) : Calls Try.prog 64 #[.agg #[.int .i64 k, .string nm, .int .i64 no, .bool m, .int .i64 mo, .slice a n c]] w fun e w' => e = .returned (.agg #[.int .i64 k, .string nm, .int .i64 no, .bool m, .int .i64 mo, .slice none 0 0]) ∧ Below w.heap.size w w' := by
  have hB1 := Below.alloc (Below.refl w.heap.size w) (Nat.le_refl _) (.cells #[.int .i64 k, .string nm, .int .i64 no, .bool m, .int .i64 mo, .slice a n c] 59)
  have hX1 := heap_alloc_new w (.cells #[.int .i64 k, .string nm, .int .i64 no, .bool m, .int .i64 mo, .slice a n c] 59)
  generalize hw1 : w.alloc (.cells #[.int .i64 k, .string nm, .int .i64 no, .bool m, .int .i64 mo, .slice a n c] 59) = w1 at *
  have l1 := hp_lt hX1
  have hB2 := hB1.alloc (Nat.le_of_lt l1) (.cells #[.int .i64 0, .string { data := #[] }, .int .i64 0, .bool false, .int .i64 0, .slice none 0 0] 59)
  have hX1 := hp_alloc (.cells #[.int .i64 0, .string { data := #[] }, .int .i64 0, .bool false, .int .i64 0, .slice none 0 0] 59) hX1
  have hX2 := heap_alloc_new w1 (.cells #[.int .i64 0, .string { data := #[] }, .int .i64 0, .bool false, .int .i64 0, .slice none 0 0] 59)
  generalize hw2 : w1.alloc (.cells #[.int .i64 0, .string { data := #[] }, .int .i64 0, .bool false, .int .i64 0, .slice none 0 0] 59) = w2 at *
  have l2 := hp_lt hX2
  obtain ⟨-, -, -, -, -, x5⟩ := box6 hX1
  have f5 := box6_z hX1 5
  have HX1 := Lib.hid (box6_t5 hX1 (.slice none 0 0))
  have HX2 := Lib.hid (hp_set hX2 (Y := w.heap.size) (i := 5) (u := .slice none 0 0) (by omega))
  have hB3 := below_set hB2 (Nat.le_refl _) 5 (.slice none 0 0)
  generalize hw3 : w2.setCell ⟨w.heap.size, 5, none⟩ (.slice none 0 0) = w3 at *
  obtain ⟨t0, t1, t2, t3, t4, t5⟩ := box6 HX1.out
  have HBF := Lib.hid (below_set (below_set (below_set (below_set (below_set (below_set hB3 (Nat.le_of_lt l1) 0 (.int .i64 k)) (Nat.le_of_lt l1) 1 (.string nm)) (Nat.le_of_lt l1) 2 (.int .i64 no)) (Nat.le_of_lt l1) 3 (.bool m)) (Nat.le_of_lt l1) 4 (.int .i64 mo)) (Nat.le_of_lt l1) 5 (.slice none 0 0))
  clear hX1 hX2 hB1 hB2 hB3
  obtain ⟨sa0, -, -, -, -, -⟩ := box6 HX2.out
  have sf0 := box6_z HX2.out 0
  have HSA := Lib.hid (box6_t0 HX2.out (.int .i64 k))
  generalize hsA : (w3).setCell ⟨w1.heap.size, 0, none⟩ (.int .i64 k) = wsA at *
  obtain ⟨-, sa1, -, -, -, -⟩ := box6 HSA.out
  have sf1 := box6_z HSA.out 1
  have HSB := Lib.hid (box6_t1 HSA.out (.string nm))
  generalize hsB : wsA.setCell ⟨w1.heap.size, 1, none⟩ (.string nm) = wsB at *
  obtain ⟨-, -, sa2, -, -, -⟩ := box6 HSB.out
  have sf2 := box6_z HSB.out 2
  have HSC := Lib.hid (box6_t2 HSB.out (.int .i64 no))
  generalize hsC : wsB.setCell ⟨w1.heap.size, 2, none⟩ (.int .i64 no) = wsC at *
  obtain ⟨-, -, -, sa3, -, -⟩ := box6 HSC.out
  have sf3 := box6_z HSC.out 3
  have HSD := Lib.hid (box6_t3 HSC.out (.bool m))
  generalize hsD : wsC.setCell ⟨w1.heap.size, 3, none⟩ (.bool m) = wsD at *
  obtain ⟨-, -, -, -, sa4, -⟩ := box6 HSD.out
  have sf4 := box6_z HSD.out 4
  have HSE := Lib.hid (box6_t4 HSD.out (.int .i64 mo))
  generalize hsE : wsD.setCell ⟨w1.heap.size, 4, none⟩ (.int .i64 mo) = wsE at *
  obtain ⟨-, -, -, -, -, sa5⟩ := box6 HSE.out
  have sf5 := box6_z HSE.out 5
  have HSF := Lib.hid (box6_t5 HSE.out (.slice none 0 0))
  generalize hsF : wsE.setCell ⟨w1.heap.size, 5, none⟩ (.slice none 0 0) = wsF at *
  obtain ⟨sg0, sg1, sg2, sg3, sg4, sg5⟩ := box6 HSF.out
  go_enter Try.func64, Try.ntmps64
  go_wp2_with fail
  refine bodyPost_ret (v := .agg #[.int .i64 k, .string nm, .int .i64 no, .bool m, .int .i64 mo, .slice none 0 0]) (by simp [results, Try.results64, go_sem, sg0, sg1, sg2, sg3, sg4, sg5]) rfl ?_
  exact ⟨rfl, HBF.out⟩
end Go.Proofs.Ytmlnecopbncdbaa
