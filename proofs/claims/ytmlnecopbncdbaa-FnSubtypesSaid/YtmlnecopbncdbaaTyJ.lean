/- The draws of types: a message. -/
import Derived.Test.YtmlnecopbncdbaaTyI
namespace Go.Proofs.Ytmlnecopbncdbaa
set_option linter.unusedVariables false
set_option linter.unusedSimpArgs false
open Go.ChangeShapes Go.WideShapes Go.ChangeAt Go.RowKit
set_option maxRecDepth 100000

theorem WfL_snoc : ∀ (l : List Tr) (t : Tr), WfL l → WfT t → WfL (l ++ [t])
  | [], t, _, h => by rw [List.nil_append, WfL, WfL]; exact ⟨h, trivial⟩
  | x :: r, t, hl, h => by rw [WfL] at hl; rw [List.cons_append, WfL]; exact ⟨hl.1, WfL_snoc r t hl.2 h⟩
/-- a type under a name -/
def Tr.named (t : Tr) (s : ByteArray) (no : Int) (m : Bool) : Tr := .node t.kind s no m t.most t.kids
theorem named_wf {t : Tr} {s : ByteArray} {no : Int} {m : Bool} (h : WfT t) : WfT (t.named s no m) := by
  cases t with
  | node k n o mu mo ks => rw [WfT] at h; unfold Tr.named; rw [WfT]; exact h
theorem named_count (t : Tr) (s : ByteArray) (no : Int) (m : Bool) : countT (t.named s no m) = countT t := by
  cases t with
  | node k n o mu mo ks => unfold Tr.named; rw [countT, countT]; rfl
theorem named_ks {S : Nat → Prop} {w : World} {t : Tr} {a : Option Addr} {c : Nat} {s : ByteArray} {no : Int} {m : Bool} (hs : s.size ≤ maxLen) (h : KS S w t [.int .i64 t.kind, .string t.name, .int .i64 t.no, .bool t.must, .int .i64 t.most, .slice a t.kids.length c]) : KS S w (t.named s no m) [.int .i64 t.kind, .string s, .int .i64 no, .bool m, .int .i64 t.most, .slice a t.kids.length c] := by
  obtain ⟨a', c', vss, he, -, h2, h3, h4, h5⟩ := h.open
  simp only [List.cons.injEq, Value.slice.injEq, and_true, true_and] at he
  obtain ⟨rfl, rfl⟩ := he
  unfold Tr.named
  rw [KS]
  exact ⟨a, c, vss, rfl, hs, h2, h3, h4, h5⟩
theorem five_at {w : World} {X : Nat} {a0 a1 a2 a3 a4 : ByteArray} {T : TypeId} (h : w.heap[X]? = some (.cells #[.string a0, .string a1, .string a2, .string a3, .string a4] T)) (i : Nat) (hi : i < 5) (h0 : a0.size ≤ 10) (h1 : a1.size ≤ 10) (h2 : a2.size ≤ 10) (h3 : a3.size ≤ 10) (h4 : a4.size ≤ 10) : ∃ s : ByteArray, w.cell? ⟨X, i, none⟩ = some (.string s) ∧ s.size ≤ 10 := by
  have hc : i = 0 ∨ i = 1 ∨ i = 2 ∨ i = 3 ∨ i = 4 := by omega
  rcases hc with rfl | rfl | rfl | rfl | rfl
  · exact ⟨a0, by simp [World.cell?, h], h0⟩
  · exact ⟨a1, by simp [World.cell?, h], h1⟩
  · exact ⟨a2, by simp [World.cell?, h], h2⟩
  · exact ⟨a3, by simp [World.cell?, h], h3⟩
  · exact ⟨a4, by simp [World.cell?, h], h4⟩
set_option maxHeartbeats 8000000 in
theorem draw_messageOf (B K d : Nat) (w : World) (h : PC w B K) (hK : K + 5 * (4 + costT d) ≤ 900000000000) (hN : numT d ≤ 1000)
    (IHT : ∀ (wx : World) (K' : Nat), PC wx B K' → K' + costT d ≤ 900000000000 → Calls Try.prog 89 #[.pointer (some ⟨B, 0, none⟩), .int .i64 (d : Int)] wx (TypO B (K' + costT d) (numT d) wx)) :
    Calls Try.prog 77 #[.pointer (some ⟨B, 0, none⟩), .int .i64 (d : Int)] w (TypO B (K + 5 * (4 + costT d)) (1 + 5 * numT d) w) := by
  obtain ⟨i0, hi0, hz0, hz1, hz2⟩ := info_parts Try.infoTyT
  have hBl := h.lt
  have hB1 := Below.alloc (Below.refl w.heap.size w) (Nat.le_refl _) (.cells #[.int .i64 0, .string { data := #[] }, .int .i64 0, .bool false, .int .i64 0, .slice none 0 0] 59)
  have hX1 := heap_alloc_new w (.cells #[.int .i64 0, .string { data := #[] }, .int .i64 0, .bool false, .int .i64 0, .slice none 0 0] 59)
  generalize hw1 : w.alloc (.cells #[.int .i64 0, .string { data := #[] }, .int .i64 0, .bool false, .int .i64 0, .slice none 0 0] 59) = w1 at *
  have l1 := hp_lt hX1
  have hB2 := hB1.alloc (Nat.le_of_lt l1) (.cells #[.int .i64 5, .string { data := #[] }, .int .i64 0, .bool false, .int .i64 0, .slice none 0 0] 59)
  have hX1 := hp_alloc (.cells #[.int .i64 5, .string { data := #[] }, .int .i64 0, .bool false, .int .i64 0, .slice none 0 0] 59) hX1
  have hX2 := heap_alloc_new w1 (.cells #[.int .i64 5, .string { data := #[] }, .int .i64 0, .bool false, .int .i64 0, .slice none 0 0] 59)
  have e2 : (w1.alloc (.cells #[.int .i64 5, .string { data := #[] }, .int .i64 0, .bool false, .int .i64 0, .slice none 0 0] 59)).heap.size = w1.heap.size + 1 := by simp
  have hB3 := hB2.alloc (by omega) (.cells #[.string { data := #[97] }, .string { data := #[98] }, .string { data := #[110, 97, 109, 101] }, .string { data := #[108, 105, 115, 116] }, .string { data := #[107, 105, 110, 100] }] 9)
  have hX1 := hp_alloc (.cells #[.string { data := #[97] }, .string { data := #[98] }, .string { data := #[110, 97, 109, 101] }, .string { data := #[108, 105, 115, 116] }, .string { data := #[107, 105, 110, 100] }] 9) hX1
  have hX2 := hp_alloc (.cells #[.string { data := #[97] }, .string { data := #[98] }, .string { data := #[110, 97, 109, 101] }, .string { data := #[108, 105, 115, 116] }, .string { data := #[107, 105, 110, 100] }] 9) hX2
  have hX3 := heap_alloc_new (w1.alloc (.cells #[.int .i64 5, .string { data := #[] }, .int .i64 0, .bool false, .int .i64 0, .slice none 0 0] 59)) (.cells #[.string { data := #[97] }, .string { data := #[98] }, .string { data := #[110, 97, 109, 101] }, .string { data := #[108, 105, 115, 116] }, .string { data := #[107, 105, 110, 100] }] 9)
  rw [e2] at hX3
  have l3 : w1.heap.size + 1 < ((w1.alloc (.cells #[.int .i64 5, .string { data := #[] }, .int .i64 0, .bool false, .int .i64 0, .slice none 0 0] 59)).alloc (.cells #[.string { data := #[97] }, .string { data := #[98] }, .string { data := #[110, 97, 109, 101] }, .string { data := #[108, 105, 115, 116] }, .string { data := #[107, 105, 110, 100] }] 9)).heap.size := by simp
  have hPC := h.later hB3
  have HIT := Lib.hid IHT
  have hc4 := costT_pos d
  unfold TypO at *
  clear h IHT hB1 hB2
  go_enter Try.func77, Try.ntmps77
  go_wp2_with fail
  generalize hw3 : (w1.alloc (.cells #[.int .i64 5, .string { data := #[] }, .int .i64 0, .bool false, .int .i64 0, .slice none 0 0] 59)).alloc (.cells #[.string { data := #[97] }, .string { data := #[98] }, .string { data := #[110, 97, 109, 101] }, .string { data := #[108, 105, 115, 116] }, .string { data := #[107, 105, 110, 100] }] 9) = w3 at *
  have HX1 := Lib.hid hX1
  have HX2 := Lib.hid hX2
  have HX3 := Lib.hid hX3
  have HPC3 := Lib.hid hPC
  have HW3 := Lib.hid (Wrote.of_below (S := fun k => k = B) hB3)
  clear hX1 hX2 hX3 hPC hB3 e2
  go_loopw [12] (fun iv wr => ∃ (i : Nat) (v : Value) (vss : List (List Value)) (ts : List Tr), i ≤ 5 ∧ ts.length ≤ i ∧ iv = .int .i64 (i : Int) ∧ Hid (wr.ownsRow w3.heap.size 59 6 v ts.length (List.flatten vss)) ∧ Hid (wr.heap[w.heap.size]? = some (.cells #[.int .i64 0, .string { data := #[] }, .int .i64 0, .bool false, .int .i64 0, .slice none 0 0] 59)) ∧ Hid (wr.heap[w1.heap.size]? = some (.cells #[.int .i64 5, .string { data := #[] }, .int .i64 0, .bool false, .int .i64 0, v] 59)) ∧ Hid (wr.heap[w1.heap.size + 1]? = some (.cells #[.string { data := #[97] }, .string { data := #[98] }, .string { data := #[110, 97, 109, 101] }, .string { data := #[108, 105, 115, 116] }, .string { data := #[107, 105, 110, 100] }] 9)) ∧ Hid (Wrote (fun k => k = B) w wr) ∧ Hid (KSs (fun q => w3.heap.size ≤ q ∧ v.ownBlock ≠ some q) wr ts vss) ∧ Hid (WfL ts) ∧ countL ts ≤ i * numT d ∧ Hid (PC wr B (K + i * (4 + costT d))) ∧ Hid (w3.heap.size ≤ wr.heap.size)) (fun iv _ => 5 - (intOf iv).toNat)
  case atStart => exact ⟨0, .slice none 0 0, [], [], by omega, by simp, rfl, Lib.hid (World.ownsRow_nil _ _ _ _), HX1, HX2, HX3, HW3, Lib.hid (by rw [KSs]), Lib.hid (by rw [WfL]; trivial), by simp [countL], Lib.hid (by simpa using HPC3.out), Lib.hid (Nat.le_refl _)⟩
  case round =>
    obtain ⟨wo, rfl⟩ : ∃ z : World, z = wr := ⟨_, rfl⟩
    obtain ⟨i, v, vss, ts, hi, htl, rfl, HO, HA, HM, HN, HW, HKS, HWF, hct, HP, HZ⟩ := hrel
    obtain ⟨va, vn, rfl⟩ := form_of_own HO.out
    obtain ⟨o0, o1, o2, o3, o4, o5⟩ := box6 HM.out
    have hzo := HZ.out
    by_cases hil : i < 5
    case neg =>
      obtain rfl : i = 5 := by omega
      have hcap := own_cap HO.out
      have HRES : Hid (KS (fun q => w.heap.size ≤ q) ((((((wo.setCell ⟨w.heap.size, 0, none⟩ (.int .i64 5)).setCell ⟨w.heap.size, 1, none⟩ (.string { data := #[] })).setCell ⟨w.heap.size, 2, none⟩ (.int .i64 0)).setCell ⟨w.heap.size, 3, none⟩ (.bool false)).setCell ⟨w.heap.size, 4, none⟩ (.int .i64 0)).setCell ⟨w.heap.size, 5, none⟩ (.slice va ts.length vn)) (.node 5 ⟨#[]⟩ 0 false 0 ts) [.int .i64 5, .string ⟨#[]⟩, .int .i64 0, .bool false, .int .i64 0, .slice va ts.length vn]) := Lib.hid (by
        have hkp := (wrote_self6 wo w.heap.size (.int .i64 5) (.string { data := #[] }) (.int .i64 0) (.bool false) (.int .i64 0) (.slice va ts.length vn)).kept (T := fun q => w3.heap.size ≤ q) (fun k hk e => by omega)
        rw [KS]
        refine ⟨va, vn, vss, rfl, Nat.zero_le _, hcap.1, hcap.2, ?_, ?_⟩
        · exact (RS.own (S := fun q => w3.heap.size ≤ q) HO.out (fun g hg => (HO.out.lt g hg).1)).keep hkp (fun q hq _ => by omega)
        · exact KSs.keep (hkp.sub (S := fun q => w3.heap.size ≤ q ∧ (Value.slice va ts.length vn).ownBlock ≠ some q) (fun q hq => hq.1)) (fun q hq _ => by have := hq.1; omega) _ _ HKS.out)
      have HWR := Lib.hid (wrote_new6 HW.out (X := w.heap.size) (Nat.le_refl _) (.int .i64 5) (.string { data := #[] }) (.int .i64 0) (.bool false) (.int .i64 0) (.slice va ts.length vn))
      have HPF := Lib.hid (HP.out.wrote (wrote_self6 wo w.heap.size (.int .i64 5) (.string { data := #[] }) (.int .i64 0) (.bool false) (.int .i64 0) (.slice va ts.length vn)) (fun k hk => by omega))
      obtain ⟨sa0, -, -, -, -, -⟩ := box6 HA.out
      have sf0 := box6_z HA.out 0
      have HSA := Lib.hid (box6_t0 HA.out (.int .i64 5))
      generalize hsA : (wo).setCell ⟨w.heap.size, 0, none⟩ (.int .i64 5) = wsA at *
      obtain ⟨-, sa1, -, -, -, -⟩ := box6 HSA.out
      have sf1 := box6_z HSA.out 1
      have HSB := Lib.hid (box6_t1 HSA.out (.string { data := #[] }))
      generalize hsB : wsA.setCell ⟨w.heap.size, 1, none⟩ (.string { data := #[] }) = wsB at *
      obtain ⟨-, -, sa2, -, -, -⟩ := box6 HSB.out
      have sf2 := box6_z HSB.out 2
      have HSC := Lib.hid (box6_t2 HSB.out (.int .i64 0))
      generalize hsC : wsB.setCell ⟨w.heap.size, 2, none⟩ (.int .i64 0) = wsC at *
      obtain ⟨-, -, -, sa3, -, -⟩ := box6 HSC.out
      have sf3 := box6_z HSC.out 3
      have HSD := Lib.hid (box6_t3 HSC.out (.bool false))
      generalize hsD : wsC.setCell ⟨w.heap.size, 3, none⟩ (.bool false) = wsD at *
      obtain ⟨-, -, -, -, sa4, -⟩ := box6 HSD.out
      have sf4 := box6_z HSD.out 4
      have HSE := Lib.hid (box6_t4 HSD.out (.int .i64 0))
      generalize hsE : wsD.setCell ⟨w.heap.size, 4, none⟩ (.int .i64 0) = wsE at *
      obtain ⟨-, -, -, -, -, sa5⟩ := box6 HSE.out
      have sf5 := box6_z HSE.out 5
      have HSF := Lib.hid (box6_t5 HSE.out (.slice va ts.length vn))
      generalize hsF : wsE.setCell ⟨w.heap.size, 5, none⟩ (.slice va ts.length vn) = wsF at *
      obtain ⟨sg0, sg1, sg2, sg3, sg4, sg5⟩ := box6 HSF.out
      go_wp2_with fail
      refine bodyPost_ret (v := .agg #[.int .i64 5, .string { data := #[] }, .int .i64 0, .bool false, .int .i64 0, .slice va ts.length vn]) (by simp [results, Try.results77, go_sem, sg0, sg1, sg2, sg3, sg4, sg5]) rfl ?_
      exact ⟨_, _, rfl, HRES.out, by rw [WfT]; exact ⟨(fun h => by cases h), HWF.out⟩, by rw [countT]; omega, HPF.out, HWR.out⟩
    have hmul : (i + 1) * (4 + costT d) = i * (4 + costT d) + (4 + costT d) := by rw [Nat.add_mul, Nat.one_mul]
    have hmul2 : (i + 1) * numT d = i * numT d + numT d := by rw [Nat.add_mul, Nat.one_mul]
    have hle : (i + 1) * (4 + costT d) ≤ 5 * (4 + costT d) := Nat.mul_le_mul_right _ (by omega)
    obtain ⟨s, hs, hsz⟩ := five_at HN.out i hil (by decide) (by decide) (by decide) (by decide) (by decide)
    have HON := Lib.hid (cur_one B (K + i * (4 + costT d)) 2 wo HP.out (by omega) (by omega))
    have hi5 : (i : Int) < 5 := by omega
    go_wp2_with fail
    refine HON.out.mono ?_
    rintro e w4 ⟨b, rfl, hp, hw⟩
    have HP4 := Lib.hid hp
    have HW4 := Lib.hid (HW.out.trans hw)
    have HO4 := Lib.hid (hw.own HO.out (fun k hk => by have := (HO.out.lt k hk).1; show ¬ k = B; omega))
    have HA4 := Lib.hid ((hw.block w.heap.size (by omega) (by omega)).trans HA.out)
    have HM4 := Lib.hid ((hw.block w1.heap.size (by omega) (by omega)).trans HM.out)
    have HN4 := Lib.hid ((hw.block (w1.heap.size + 1) (by omega) (by omega)).trans HN.out)
    have HK4 := Lib.hid (KSs.keep (hw.kept (T := fun q => w3.heap.size ≤ q ∧ (Value.slice va ts.length vn).ownBlock ≠ some q) (fun q hq e => by have := hq.1; omega)) (fun _ h _ => h) _ _ HKS.out)
    have HZ4 := Lib.hid (Nat.le_trans HZ.out hw.size)
    clear hp hw o0 o1 o2 o3 o4 o5 hs
    cases b with
    | false =>
      go_wp2_with fail
      go_roundw
      case rel => exact ⟨i + 1, _, vss, ts, by omega, by omega, by go_num, HO4, HA4, HM4, HN4, HW4, HK4, HWF, by omega, Lib.hid (HP4.out.mono (by omega)), HZ4⟩
      case measure => (simp [intOf]; try omega)
    | true =>
    have HTY := Lib.hid (HIT.out w4 (K + i * (4 + costT d) + 2) HP4.out (by omega))
    go_wp2_with fail
    refine HTY.out.mono ?_
    rintro e w5 ⟨t, cs, rfl, hks, hwf, hcn, hp, hw⟩
    obtain ⟨qa, qc, qss, rfl, hqn, hqk, hqc, -⟩ := hks.open
    have HWF5 := Lib.hid hwf
    have hcn5 := hcn
    have hB6 := Below.alloc (Below.refl w5.heap.size w5) (Nat.le_refl _) (.cells #[.int .i64 t.kind, .string s, .int .i64 ((i : Int) + 1), .bool t.must, .int .i64 t.most, .slice qa t.kids.length qc] 59)
    have hX6 := heap_alloc_new w5 (.cells #[.int .i64 t.kind, .string s, .int .i64 ((i : Int) + 1), .bool t.must, .int .i64 t.most, .slice qa t.kids.length qc] 59)
    have hw6 := hw.trans (Wrote.of_below (S := fun k => k = B) hB6)
    have HK5 := Lib.hid (hks.keep (T := fun q => w4.heap.size ≤ q ∧ q < w5.heap.size) (kept_below hB6) (fun q hq hl => ⟨hq, hl⟩))
    have HON3 := Lib.hid (cur_one B (K + i * (4 + costT d) + 2 + costT d) 3 _ (hp.later hB6) (by omega) (by omega))
    have hl6 := hp_lt hX6
    have hz5 := hw.size
    have hz4 := HZ4.out
    clear hp hks hwf hB6
    go_wp2_with fail
    refine HON3.out.mono ?_
    rintro e w7 ⟨mu, rfl, hp7, hw7⟩
    have hw67 := hw6.trans hw7
    have HP7 := Lib.hid hp7
    have hX7 := (hw7.block w5.heap.size hl6 (by omega)).trans hX6
    have HW7 := Lib.hid (HW4.out.trans hw67)
    have HO7 := Lib.hid (hw67.own HO4.out (fun k hk => by have := (HO.out.lt k hk).1; show ¬ k = B; omega))
    have HA7 := Lib.hid ((hw67.block w.heap.size (by omega) (by omega)).trans HA4.out)
    have HM7 := Lib.hid ((hw67.block w1.heap.size (by omega) (by omega)).trans HM4.out)
    have HN7 := Lib.hid ((hw67.block (w1.heap.size + 1) (by omega) (by omega)).trans HN4.out)
    have HK7 := Lib.hid (KSs.keep (T := fun q => (w3.heap.size ≤ q ∧ (Value.slice va ts.length vn).ownBlock ≠ some q) ∧ q < w4.heap.size) (hw67.kept (T := fun q => w3.heap.size ≤ q ∧ (Value.slice va ts.length vn).ownBlock ≠ some q) (fun q hq e => by have := hq.1; omega)) (fun q h hl => ⟨h, hl⟩) _ _ HK4.out)
    have HT7 := Lib.hid (HK5.out.keep (T := fun q => w4.heap.size ≤ q ∧ q < w5.heap.size) (hw7.kept (fun q hq e => by have := hq.1; omega)) (fun q hq _ => hq))
    have hz7 := hw7.size
    clear hw hw6 hw67 hp7 hw7 HK5 HON3 hX6
    generalize (w5.alloc (.cells #[.int .i64 t.kind, .string s, .int .i64 ((i : Int) + 1), .bool t.must, .int .i64 t.most, .slice qa t.kids.length qc] 59)).heap.size = z6 at *
    obtain ⟨-, -, -, x3, -, -⟩ := box6 hX7
    have f3 := box6_z hX7 3
    -- the flag is stored
    have hX8 := box6_t3 hX7 (.bool mu)
    have hws := wrote_cell w7 w5.heap.size 3 (.bool mu)
    have HP8 := Lib.hid (HP7.out.wrote hws (fun k hk => by omega))
    have HW8 := Lib.hid (wrote_new HW7.out (X := w5.heap.size) (by omega) 3 (.bool mu))
    have hown4 : ∀ k, (Value.slice va ts.length vn).ownBlock = some k → k < w4.heap.size := fun k hk => (HO4.out.lt k hk).2
    have HO8 := Lib.hid (hws.own HO7.out (fun k hk => by have := hown4 k hk; omega))
    have HA8 := Lib.hid ((hws.block w.heap.size (by omega) (by omega)).trans HA7.out)
    have HM8 := Lib.hid ((hws.block w1.heap.size (by omega) (by omega)).trans HM7.out)
    have HN8 := Lib.hid ((hws.block (w1.heap.size + 1) (by omega) (by omega)).trans HN7.out)
    have HK8 := Lib.hid (KSs.keep (T := fun q => (w3.heap.size ≤ q ∧ (Value.slice va ts.length vn).ownBlock ≠ some q) ∧ q < w4.heap.size) (hws.kept (fun q hq e => by have := hq.2; omega)) (fun q h hl => h) _ _ HK7.out)
    have HT8 := Lib.hid (named_ks (s := s) (no := (i : Int) + 1) (m := mu) (by unfold maxLen; omega) (HT7.out.keep (T := fun q => w4.heap.size ≤ q ∧ q < w5.heap.size) (hws.kept (fun q hq e => by have := hq.2; omega)) (fun q h hl => h)))
    have hz8 : w7.heap.size ≤ (w7.setCell ⟨w5.heap.size, 3, none⟩ (.bool mu)).heap.size := hws.size
    have hz67 : w5.heap.size < w7.heap.size := by omega
    clear hws
    generalize hw8 : w7.setCell ⟨w5.heap.size, 3, none⟩ (.bool mu) = w8 at *
    obtain ⟨y0, y1, y2, y3, y4, y5⟩ := box6 hX8
    obtain ⟨-, -, -, -, -, m5⟩ := box6 HM8.out
    have l15 : w1.heap.size < w8.heap.size := by omega
    have l55 : w5.heap.size < w8.heap.size := by omega
    go_wp2_with (at_builtin; refine wpList_append_lies _ rfl _ _ 57 rfl w3.heap.size 59 i0 (.agg #[.int .i64 0, .string ByteArray.empty, .int .i64 0, .bool false, .int .i64 0, .slice none 0 0]) 6 72 Try.underlying57 hi0 hz0 hz1 hz2 rfl (by decide) _ ts.length _ rfl (HO8.out.alloc _) ⟨w8.heap.size, 0, none⟩ 1 1 [.int .i64 t.kind, .string s, .int .i64 ((i : Int) + 1), .bool mu, .int .i64 t.most, .slice qa t.kids.length qc] rfl rfl (World.news_of_block (cs := #[.int .i64 t.kind, .string s, .int .i64 ((i : Int) + 1), .bool mu, .int .i64 t.most, .slice qa t.kids.length qc]) (t := 59) (fr := (0, 0)) (heap_alloc_new w8 _)) (by simp [Value.oneCell']) (by omega) (by unfold maxLen; omega) (by omega) (by simp; omega) (w8.heap.size + 1) (by simp) ?_)
    intro g cp w10 hown hgrow hat hlt
    have hnT : (Value.slice va ts.length vn).ownBlock ≠ some w1.heap.size := fun e => by have := (HO.out.lt _ e).1; omega
    have hnT0 : (Value.slice va ts.length vn).ownBlock ≠ some w.heap.size := fun e => by have := (HO.out.lt _ e).1; omega
    have hnT1 : (Value.slice va ts.length vn).ownBlock ≠ some (w1.heap.size + 1) := fun e => by have := (HO.out.lt _ e).1; omega
    have hM10 := hp_grown hgrow (hp_alloc (.cells #[.int .i64 t.kind, .string s, .int .i64 ((i : Int) + 1), .bool mu, .int .i64 t.most, .slice qa t.kids.length qc] 59) HM8.out) hnT
    have hA10 := hp_grown hgrow (hp_alloc (.cells #[.int .i64 t.kind, .string s, .int .i64 ((i : Int) + 1), .bool mu, .int .i64 t.most, .slice qa t.kids.length qc] 59) HA8.out) hnT0
    have hN10 := hp_grown hgrow (hp_alloc (.cells #[.int .i64 t.kind, .string s, .int .i64 ((i : Int) + 1), .bool mu, .int .i64 t.most, .slice qa t.kids.length qc] 59) HN8.out) hnT1
    have hB9 := Below.alloc (Below.refl w8.heap.size w8) (Nat.le_refl _) (.cells #[.int .i64 t.kind, .string s, .int .i64 ((i : Int) + 1), .bool mu, .int .i64 t.most, .slice qa t.kids.length qc] 59)
    have HA11 := Lib.hid (hp_set (Y := w1.heap.size) (i := 5) (u := .slice (some ⟨g, 0, none⟩) (ts.length + 1) cp) hA10 (by omega))
    have HN11 := Lib.hid (hp_set (Y := w1.heap.size) (i := 5) (u := .slice (some ⟨g, 0, none⟩) (ts.length + 1) cp) hN10 (by omega))
    have HM11 := Lib.hid (box6_t5 hM10 (.slice (some ⟨g, 0, none⟩) (ts.length + 1) cp))
    have HW11 := Lib.hid (wrote_new (wrote_grow2 (HW8.out.trans (Wrote.of_below (S := fun k => k = B) hB9)) hgrow (fun k hk e => by have := (HO.out.lt k e).1; omega)) (X := w1.heap.size) (by omega) 5 (.slice (some ⟨g, 0, none⟩) (ts.length + 1) cp))
    have HP11 := Lib.hid (((HP8.out.later hB9).wrote (Wrote.of_grown hgrow) (fun k hk e => by have := (HO.out.lt k e).1; omega)).wrote (wrote_cell w10 w1.heap.size 5 (.slice (some ⟨g, 0, none⟩) (ts.length + 1) cp)) (fun k hk => by omega))
    have HO11 := Lib.hid (ownsRow_setCell_below hown (a := ⟨w1.heap.size, 5, none⟩) (by simp only; omega) (.slice (some ⟨g, 0, none⟩) (ts.length + 1) cp))
    have hkp : Kept (fun q => (w3.heap.size ≤ q ∧ (Value.slice va ts.length vn).ownBlock ≠ some q) ∧ q < w4.heap.size) w8 (w10.setCell ⟨w1.heap.size, 5, none⟩ (.slice (some ⟨g, 0, none⟩) (ts.length + 1) cp)) :=
      kept_set (kept_grown (kept_alloc (Kept.refl _ w8) (.cells #[.int .i64 t.kind, .string s, .int .i64 ((i : Int) + 1), .bool mu, .int .i64 t.most, .slice qa t.kids.length qc] 59)) hgrow (fun k hk _ => hk.1.2)) (fun hs => by have := hs.1.1; omega) 5 _
    have hkt : Kept (fun q => w4.heap.size ≤ q ∧ q < w5.heap.size) w8 (w10.setCell ⟨w1.heap.size, 5, none⟩ (.slice (some ⟨g, 0, none⟩) (ts.length + 1) cp)) :=
      kept_set (kept_grown (kept_alloc (Kept.refl _ w8) (.cells #[.int .i64 t.kind, .string s, .int .i64 ((i : Int) + 1), .bool mu, .int .i64 t.most, .slice qa t.kids.length qc] 59)) hgrow (fun k hk _ e => by have := hown4 k e; have := hk.1; omega)) (fun hs => by have := hs.1; omega) 5 _
    have HK11 : Hid (KSs (fun q => w3.heap.size ≤ q ∧ (Value.slice (some ⟨g, 0, none⟩) (ts.length + 1) cp).ownBlock ≠ some q) (w10.setCell ⟨w1.heap.size, 5, none⟩ (.slice (some ⟨g, 0, none⟩) (ts.length + 1) cp)) (ts ++ [t.named s ((i : Int) + 1) mu]) (vss ++ [[.int .i64 t.kind, .string s, .int .i64 ((i : Int) + 1), .bool mu, .int .i64 t.most, .slice qa t.kids.length qc]])) := Lib.hid (by
      refine KSs.put (HT8.out.keep hkt (fun x hx hl => ⟨by have := hx.1; omega, fun e => ?_⟩)) (KSs.keep hkp (fun x hx hl => ⟨hx.1.1, fun e => ?_⟩) _ _ HK8.out)
      · simp only [Value.ownBlock, Option.some.injEq] at e
        rcases hat with h | h
        · have := hown4 g h; have := hx.1; omega
        · have := hx.2; omega
      · simp only [Value.ownBlock, Option.some.injEq] at e
        rcases hat with h | h
        · exact hx.1.2 (by rw [h, e])
        · have := hx.2; omega)
    have HZ11 : Hid (w3.heap.size ≤ (w10.setCell ⟨w1.heap.size, 5, none⟩ (.slice (some ⟨g, 0, none⟩) (ts.length + 1) cp)).heap.size) := Lib.hid (by have := hgrow.size; simp [World.setCell] at this ⊢; omega)
    obtain ⟨-, -, -, -, -, z5⟩ := box6 hM10
    have f5 := box6_z hM10 5
    have HLT : Hid ((ts ++ [t.named s ((i : Int) + 1) mu]).length = ts.length + 1) := Lib.hid (by simp)
    have hctn : countL (ts ++ [t.named s ((i : Int) + 1) mu]) ≤ (i + 1) * numT d := by rw [countL_snoc, named_count]; omega
    clear hown hgrow hat hlt hM10 hA10 hN10 hB9 hkp hkt
    go_wp2_with fail
    go_roundw
    case rel => exact ⟨i + 1, .slice (some ⟨g, 0, none⟩) (ts.length + 1) cp, _, _, by omega, by rw [HLT.out]; omega, by go_num, Lib.hid (by rw [HLT.out, List.flatten_concat]; exact HO11.out), HA11, HM11, HN11, HW11, HK11, Lib.hid (WfL_snoc _ _ HWF.out (named_wf HWF5.out)), hctn, Lib.hid (HP11.out.mono (by omega)), HZ11⟩
    case measure => (simp [intOf]; try omega)
end Go.Proofs.Ytmlnecopbncdbaa
