/- The draws of schemas: a good one. -/
import Derived.Test.YtmlnecopbncdbaaTyJ
namespace Go.Proofs.Ytmlnecopbncdbaa
set_option linter.unusedVariables false
set_option linter.unusedSimpArgs false
open Go.ChangeShapes Go.WideShapes Go.ChangeAt Go.RowKit
set_option maxRecDepth 100000

theorem draw_types (B : Nat) : ∀ (d : Nat), d ≤ 4 → (∀ (w : World) (K : Nat), PC w B K → K + costT d ≤ 900000000000 → Calls Try.prog 89 #[.pointer (some ⟨B, 0, none⟩), .int .i64 (d : Int)] w (TypO B (K + costT d) (numT d) w)) ∧ (∀ (w : World) (K : Nat), PC w B K → K + 5 * (4 + costT d) ≤ 900000000000 → Calls Try.prog 77 #[.pointer (some ⟨B, 0, none⟩), .int .i64 (d : Int)] w (TypO B (K + 5 * (4 + costT d)) (1 + 5 * numT d) w))
  | 0, _ => by
    have h1 : ∀ (w : World) (K : Nat), PC w B K → K + costT 0 ≤ 900000000000 → Calls Try.prog 89 #[.pointer (some ⟨B, 0, none⟩), .int .i64 ((0 : Nat) : Int)] w (TypO B (K + costT 0) (numT 0) w) :=
      fun w K h hK => draw_typeOf_one B K 0 w h hK (fun d' _ _ e => by omega) (fun d' _ _ e => by omega)
    exact ⟨h1, fun w K h hK => draw_messageOf B K 0 w h hK (by simp [numT]) h1⟩
  | d + 1, hd => by
    obtain ⟨i1, i2⟩ := draw_types B d (by omega)
    have h1 : ∀ (w : World) (K : Nat), PC w B K → K + costT (d + 1) ≤ 900000000000 → Calls Try.prog 89 #[.pointer (some ⟨B, 0, none⟩), .int .i64 ((d + 1 : Nat) : Int)] w (TypO B (K + costT (d + 1)) (numT (d + 1)) w) :=
      fun w K h hK => draw_typeOf_one B K (d + 1) w h hK (fun d' wx K' e h1 h2 => by
        obtain rfl : d' = d := by omega
        exact i1 wx K' h1 h2) (fun d' wx K' e h1 h2 => by
        obtain rfl : d' = d := by omega
        exact i2 wx K' h1 h2)
    refine ⟨h1, fun w K h hK => draw_messageOf B K (d + 1) w h hK ?_ h1⟩
    have hc : d = 0 ∨ d = 1 ∨ d = 2 ∨ d = 3 := by omega
    rcases hc with rfl | rfl | rfl | rfl <;> simp [numT]
/-- a schema that was drawn -/
def DrS (B K : Nat) (w : World) (e : Ending) (w' : World) : Prop :=
  ∃ L a cap, e = .returned (.agg #[.slice a L.length cap]) ∧ (1 ≤ L.length ∧ L.length ≤ 30) ∧ (∀ x ∈ L, x.name.size ≤ maxLen) ∧ w'.ownsRow w.heap.size 85 6 (.slice a L.length cap) L.length (tysV L) ∧ PC w' B K ∧ Wrote (fun k => k = B) w w'
theorem good_len {t : Tr} (hwf : WfT t) (h : goodT t = true) : 1 ≤ (flat t).length ∧ (flat t).length ≤ 30 := by
  have := goodL_iff.1 ((flat_good hwf).trans h)
  exact this.1
set_option maxHeartbeats 4000000 in
theorem draw_schema (B K : Nat) (w : World) (h : PC w B K) (hK : K ≤ 800000000000) : Calls Try.prog 53 #[.pointer (some ⟨B, 0, none⟩)] w (DrS B (K + 10000) w) := by
  have hBl := h.lt
  have hB1 := Below.alloc (Below.refl w.heap.size w) (Nat.le_refl _) (.cells #[.slice none 0 0] 28)
  have hX1 := heap_alloc_new w (.cells #[.slice none 0 0] 28)
  generalize hw1 : w.alloc (.cells #[.slice none 0 0] 28) = w1 at *
  have l1 := hp_lt hX1
  have HX1 := Lib.hid hX1
  have HW1 := Lib.hid (Wrote.of_below (S := fun k => k = B) hB1)
  have HP4 := Lib.hid (cur_pick B K 4 w1 (h.later hB1) (by omega) (by omega))
  unfold DrS
  clear hB1 hX1 h
  go_enter Try.func53, Try.ntmps53
  go_wp2_with fail
  refine HP4.out.mono ?_
  rintro e w2 ⟨r, rfl, hr, hp, hw⟩
  have hr4 : r ≤ 3 := by omega
  have HPC := Lib.hid hp
  have HW2 := Lib.hid (HW1.out.trans hw)
  have HX2 := Lib.hid ((hw.block w.heap.size l1 (by omega)).trans HX1.out)
  have l2 : w.heap.size < w2.heap.size := by have := hw.size; omega
  clear hp hw hr
  have hcost : 5 * (4 + costT r) ≤ 9000 ∧ numT r ≤ 200 := by
    have hc : r = 0 ∨ r = 1 ∨ r = 2 ∨ r = 3 := by omega
    rcases hc with rfl | rfl | rfl | rfl <;> simp [numT, costT]
  have HM := Lib.hid ((draw_types B r (by omega)).2 w2 (K + 2) HPC.out (by omega))
  unfold TypO at HM
  go_wp2_with fail
  refine HM.out.mono ?_
  rintro e w3 ⟨t, cs, rfl, hks, hwf, hct, hp, hw⟩
  have HPC3 := Lib.hid hp
  have HW3 := Lib.hid (HW2.out.trans hw)
  have HX3 := Lib.hid ((hw.block w.heap.size l2 (by omega)).trans HX2.out)
  have HNM : Hid (∀ x ∈ flat t, x.name.size ≤ maxLen) := Lib.hid (ks_names (-1) 0 t cs hks)
  have HTL := Lib.hid (spec_l2Tell hks (by omega) hwf)
  have HGL := Lib.hid (fun hq => good_len hwf hq)
  have l3 : w.heap.size < w3.heap.size := by have := hw.size; omega
  unfold TellO at HTL
  clear hp hw hks hwf
  go_wp2_with fail
  refine HTL.out.mono ?_
  rintro e w4 ⟨v, rfl, ho, hb⟩
  obtain ⟨va, vc, rfl⟩ := form_of_own ho
  have HB5 := Lib.hid (hb.alloc hb.size (.cells #[.slice va (tellL t).length vc] 28))
  have HO5 := Lib.hid (ho.alloc (.cells #[.slice va (tellL t).length vc] 28))
  have HX5 := Lib.hid (hp_later HB5.out HX3.out)
  have HN5 := Lib.hid (heap_alloc_new w4 (.cells #[.slice va (tellL t).length vc] 28))
  have HW5 := Lib.hid (HW3.out.trans (Wrote.of_below (S := fun k => k = B) HB5.out))
  have HP5 := Lib.hid (HPC3.out.later HB5.out)
  have l4 : w3.heap.size ≤ w4.heap.size := hb.size
  clear ho hb
  cases hg : goodT t with
  | true =>
    have HTE : Hid (tellL t = flat t) := Lib.hid (by unfold tellL; rw [hg]; rfl)
    have HL2 := Lib.hid (HGL.out hg)
    rw [HTE.out] at HB5 HO5 HX5 HN5 HW5 HP5 ⊢
    have l6 : w4.heap.size < (w4.alloc (.cells #[.slice va (flat t).length vc] 28)).heap.size := by simp
    generalize flat t = F at *
    generalize hw5 : w4.alloc (.cells #[.slice va F.length vc] 28) = w5 at *
    have hws := wrote_cell w5 w.heap.size 0 (.slice va F.length vc)
    have HO6 := Lib.hid (hws.own HO5.out (fun k hk e => by have := (HO5.out.lt k hk).1; omega))
    have HP6 := Lib.hid (HP5.out.wrote hws (fun k hk => by omega))
    have HW6 := Lib.hid (wrote_new HW5.out (Nat.le_refl _) 0 (.slice va F.length vc))
    have x0 : w5.cell? ⟨w.heap.size, 0, none⟩ = some (.slice none 0 0) := by simp [World.cell?, HX5.out]
    have n0 : w5.cell? ⟨w4.heap.size, 0, none⟩ = some (.slice va F.length vc) := by simp [World.cell?, HN5.out]
    have f0 : w5.frozen? ⟨w.heap.size, 0, none⟩ = false := by simp [World.frozen?, HX5.out]
    have y0 : (w5.setCell ⟨w.heap.size, 0, none⟩ (.slice va F.length vc)).cell? ⟨w.heap.size, 0, none⟩ = some (.slice va F.length vc) := by simp [World.setCell, Array.getElem?_modify, HX5.out, World.cell?]
    clear hws
    go_wp2_with fail
    refine bodyPost_ret (v := .agg #[.slice va F.length vc]) (by simp [results, Try.results53, go_sem, y0]) rfl ?_
    exact ⟨F, va, vc, rfl, HL2.out, HNM.out, own_mono HO6.out (by omega), HP6.out.mono (by omega), HW6.out⟩
  | false =>
    have l6 : w4.heap.size < (w4.alloc (.cells #[.slice va (tellL t).length vc] 28)).heap.size := by simp
    generalize (tellL t) = F at *
    generalize hw5 : w4.alloc (.cells #[.slice va F.length vc] 28) = w5 at *
    have HB6 := Lib.hid (Below.alloc (Below.refl w5.heap.size w5) (Nat.le_refl _) (.cells #[.int .i64 5, .string { data := #[] }, .int .i64 0, .bool false, .int .i64 (-1), .int .i64 0] 85))
    have HO6 := Lib.hid (World.ownsRow_lit (base := w.heap.size) (e := 85) (size := 6) w5 #[.int .i64 5, .string { data := #[] }, .int .i64 0, .bool false, .int .i64 (-1), .int .i64 0] 1 (by omega) (by decide) rfl)
    have HX6 := Lib.hid (hp_later HB6.out HX5.out)
    have HN6 := Lib.hid (hp_later HB6.out HN5.out)
    have HW6 := Lib.hid (HW5.out.trans (Wrote.of_below (S := fun k => k = B) HB6.out))
    have HP6 := Lib.hid (HP5.out.later HB6.out)
    have l7 : w5.heap.size < (w5.alloc (.cells #[.int .i64 5, .string { data := #[] }, .int .i64 0, .bool false, .int .i64 (-1), .int .i64 0] 85)).heap.size := by simp
    generalize hw6 : w5.alloc (.cells #[.int .i64 5, .string { data := #[] }, .int .i64 0, .bool false, .int .i64 (-1), .int .i64 0] 85) = w6 at *
    have n0 : w6.cell? ⟨w4.heap.size, 0, none⟩ = some (.slice va F.length vc) := by simp [World.cell?, HN6.out]
    have g0 : w6.frozen? ⟨w4.heap.size, 0, none⟩ = false := by simp [World.frozen?, HN6.out]
    have hws := wrote_cell w6 w4.heap.size 0 (.slice (some ⟨w5.heap.size, 0, none⟩) 1 1)
    have HO7 := Lib.hid (hws.own HO6.out (fun k hk e => by simp only [Value.ownBlock, Option.some.injEq] at hk; omega))
    have HP7 := Lib.hid (HP6.out.wrote hws (fun k hk => by omega))
    have HW7 := Lib.hid (wrote_new HW6.out (X := w4.heap.size) (by omega) 0 (.slice (some ⟨w5.heap.size, 0, none⟩) 1 1))
    have HX7 := Lib.hid ((hws.block w.heap.size (by omega) (by omega)).trans HX6.out)
    have n7 : (w6.setCell ⟨w4.heap.size, 0, none⟩ (.slice (some ⟨w5.heap.size, 0, none⟩) 1 1)).cell? ⟨w4.heap.size, 0, none⟩ = some (.slice (some ⟨w5.heap.size, 0, none⟩) 1 1) := by simp [World.setCell, Array.getElem?_modify, HN6.out, World.cell?]
    clear hws
    generalize hw7 : w6.setCell ⟨w4.heap.size, 0, none⟩ (.slice (some ⟨w5.heap.size, 0, none⟩) 1 1) = w7 at *
    have hws := wrote_cell w7 w.heap.size 0 (.slice (some ⟨w5.heap.size, 0, none⟩) 1 1)
    have HO8 := Lib.hid (hws.own HO7.out (fun k hk e => by simp only [Value.ownBlock, Option.some.injEq] at hk; omega))
    have HP8 := Lib.hid (HP7.out.wrote hws (fun k hk => by omega))
    have HW8 := Lib.hid (wrote_new HW7.out (Nat.le_refl _) 0 (.slice (some ⟨w5.heap.size, 0, none⟩) 1 1))
    have x0 : w7.cell? ⟨w.heap.size, 0, none⟩ = some (.slice none 0 0) := by simp [World.cell?, HX7.out]
    have f0 : w7.frozen? ⟨w.heap.size, 0, none⟩ = false := by simp [World.frozen?, HX7.out]
    have y0 : (w7.setCell ⟨w.heap.size, 0, none⟩ (.slice (some ⟨w5.heap.size, 0, none⟩) 1 1)).cell? ⟨w.heap.size, 0, none⟩ = some (.slice (some ⟨w5.heap.size, 0, none⟩) 1 1) := by simp [World.setCell, Array.getElem?_modify, HX7.out, World.cell?]
    clear hws
    go_wp2_with fail
    refine bodyPost_ret (v := .agg #[.slice (some ⟨w5.heap.size, 0, none⟩) 1 1]) (by simp [results, Try.results53, go_sem, y0]) rfl ?_
    exact ⟨[Ty.mk 5 ⟨#[]⟩ 0 false (-1) 0], some ⟨w5.heap.size, 0, none⟩, 1, rfl, by simp, (fun x hx => by rw [List.mem_singleton] at hx; subst hx; exact Nat.zero_le _), HO8.out, HP8.out.mono (by omega), HW8.out⟩
end Go.Proofs.Ytmlnecopbncdbaa
