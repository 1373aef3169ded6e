/- The contract of the program's classes. -/
import Derived.Test.YtedjahinlpehgaaCls3
namespace Go.Proofs.Ytedjahinlpehgaa
set_option linter.unusedVariables false
open Go.ChangeShapes Go.WideShapes Go.ChangeAt Go.RowKit
set_option maxRecDepth 100000

/-- the first k of A, then B -/
def mix {α : Type} (A B : List α) (k : Nat) : List α := A.take k ++ B.drop k
section
variable {α : Type} {A B : List α}
theorem mix_zero (A B : List α) : mix A B 0 = B := by simp [mix]
theorem mix_full (h : A.length = B.length) : mix A B A.length = A := by unfold mix; rw [List.take_length, List.drop_eq_nil_of_le (by omega), List.append_nil]
theorem mix_len (h : A.length = B.length) (k : Nat) : (mix A B k).length = B.length := by unfold mix; rw [List.length_append, List.length_take, List.length_drop]; omega
theorem mix_at (h : A.length = B.length) (k : Nat) : (mix A B k)[k]? = B[k]? := by
  unfold mix
  rcases Nat.lt_or_ge k A.length with hk | hk
  · rw [List.getElem?_append_right (by simp; omega), List.getElem?_drop]
    congr 1; simp; omega
  · rw [List.take_of_length_le hk, List.drop_eq_nil_of_le (by omega), List.append_nil, List.getElem?_eq_none hk, List.getElem?_eq_none (by omega)]
theorem mix_set (h : A.length = B.length) {k : Nat} {a : α} (ha : A[k]? = some a) : (mix A B k).set k a = mix A B (k + 1) := by
  have hk := (List.getElem?_eq_some_iff.1 ha).1
  unfold mix
  rw [List.set_append_right _ _ (by simp; omega), take_next A k a ha, List.length_take, Nat.min_eq_left (by omega), Nat.sub_self, List.drop_eq_getElem_cons (by omega), List.set_cons_zero]
  simp
theorem mix_same (h : A.length = B.length) {k : Nat} {a : α} (ha : A[k]? = some a) (hb : B[k]? = some a) : mix A B k = mix A B (k + 1) := by
  rw [← mix_set h ha]
  have := mix_at h k
  rw [hb] at this
  obtain ⟨h1, h2⟩ := List.getElem?_eq_some_iff.1 this
  rw [← h2, List.set_getElem_self]
theorem mix_mem {x : α} {k : Nat} (h : x ∈ mix A B k) : x ∈ A ∨ x ∈ B := by
  rcases List.mem_append.1 h with h | h
  · exact .inl (List.mem_of_mem_take h)
  · exact .inr (List.mem_of_mem_drop h)
end
abbrev MRow (w : World) (g n : Nat) (L : List Mk) : Prop := w.ownsRow 0 93 4 (.slice (some ⟨g, 0, none⟩) n n) n (L.map mkC).flatten
theorem mk_lens (L : List Mk) : Lens 4 (L.map mkC) := by
  intro v hv; obtain ⟨x, _, rfl⟩ := List.mem_map.1 hv; rfl
theorem MRow.at {w : World} {g n : Nat} {L : List Mk} (h : MRow w g n L) {k : Nat} {x : Mk} (hx : L[k]? = some x) : RowAt w 93 4 (.slice (some ⟨g, 0, none⟩) n n) n (L.map mkC) k (mkC x) :=
  RowAt.begin h (mk_lens L) (by rw [List.getElem?_map, hx]; rfl)
theorem MRow.cells {w : World} {g n : Nat} {L : List Mk} (h : MRow w g n L) {k : Nat} {x : Mk} (hx : L[k]? = some x) : w.cell? ⟨g, k * 4, none⟩ = some (.int .i64 x.1) ∧ w.cell? ⟨g, k * 4 + 1, none⟩ = some (.int .i64 x.2.1) ∧ w.cell? ⟨g, k * 4 + 2, none⟩ = some (.int .i64 x.2.2.1) ∧ w.cell? ⟨g, k * 4 + 3, none⟩ = some (.int .i64 x.2.2.2) := by
  have hr := h.at hx
  exact ⟨hr.cell 0 _ rfl, hr.cell 1 _ rfl, hr.cell 2 _ rfl, hr.cell 3 _ rfl⟩
theorem MRow.of {w : World} {g n : Nat} {L : List Mk} {k : Nat} {x : Mk} (h : RowAt w 93 4 (.slice (some ⟨g, 0, none⟩) n n) n (L.map mkC) k (mkC x)) : MRow w g n (L.set k x) := by
  have h1 := h.1
  unfold MRow
  rw [List.map_set]; exact h1
theorem MRow.later {w w' : World} {g n : Nat} {L : List Mk} (h : MRow w g n L) (hb : Below w.heap.size w w') : MRow w' g n L := own_later h hb
theorem ok_mk0 {m : Mach} : ∀ x ∈ mk0 m, okMk x := by
  intro x hx
  unfold mk0 at hx
  obtain ⟨e, _, rfl⟩ := List.mem_map.1 hx
  cases e <;> exact ⟨by simp, by simp, by simp, by simp⟩
theorem nw_bd {m : Mach} (hm : GoodM m) (r : Nat) (k : Int) : -1000 ≤ clA (nw m r) k ∧ clA (nw m r) k ≤ 1000 := by
  have h12 := hm.n12
  have key : ∀ {α : Type} [DecidableEq α] (L : List α), L.length ≤ 12 → -1000 ≤ clA (numR L) k ∧ clA (numR L) k ≤ 1000 := by
    intro α _ L hL
    unfold clA
    by_cases hk : k.toNat < (numR L).length
    · rw [List.getD, List.getElem?_eq_getElem hk, Option.getD_some]
      have hk2 : k.toNat < L.length := by simpa using hk
      have e : (numR L)[k.toNat] = at1 (dist L) L[k.toNat] := by simp [numR]
      rw [e]
      obtain ⟨i, i1, _, i3⟩ := at1_ex ((dist_mem L).2 (List.getElem_mem hk2))
      have hi := (List.getElem?_eq_some_iff.1 i1).1
      have := dist_len L
      rw [i3]; omega
    · rw [List.getD, List.getElem?_eq_none (by omega)]; simp
  cases r with
  | zero => exact key _ (by rw [show (mk0 m).length = m.2.length by simp [mk0], hm.ends]; exact h12)
  | succ r => exact key _ (by rw [marksR_length]; exact h12)
theorem ok_marks {m : Mach} (hm : GoodM m) (r : Nat) : ∀ x ∈ marksR m (nw m r), okMk x := by
  intro x hx
  unfold marksR at hx
  obtain ⟨i, _, rfl⟩ := List.mem_map.1 hx
  exact ⟨nw_bd hm r _, nw_bd hm r _, nw_bd hm r _, nw_bd hm r _⟩
def zMk : Mk := (0, 0, 0, 0)
theorem made_marks (n : Nat) : (madeCells (Value.agg #[.int .i64 0, .int .i64 0, .int .i64 0, .int .i64 0]).cells (n * 4)).toList = ((List.replicate n zMk).map mkC).flatten := by
  have h := toList_made (mkC zMk) n 4 (by decide) rfl
  rw [List.map_replicate]
  exact h
theorem Try.infoMark : (Try.prog.info? 93).map (fun i => (i.zero, i.size, i.bytes)) = some (some (.agg #[.int .i64 0, .int .i64 0, .int .i64 0, .int .i64 0]), 4, 32) := by kernel_rfl

set_option maxHeartbeats 4000000 in
theorem impl_classes (ea eb : Option Addr) (ecap ecap' B : Nat) (m : Mach) (w : World) (hM : MC w.heap.size w ea eb m) (hm : GoodM m) (hB : B < w.heap.size) (hc0 : w.cell? ⟨B, 0, none⟩ = some (.slice ea m.1.length ecap)) (hc1 : w.cell? ⟨B, 1, none⟩ = some (.slice eb m.2.length ecap')) (hl1 : m.1.length ≤ ecap ∧ ecap ≤ 9223372036854775807) (hl2 : m.2.length ≤ ecap' ∧ ecap' ≤ 9223372036854775807) :
    Calls Try.prog 59 #[.pointer (some ⟨B, 0, none⟩)] w fun e w' => ∃ v, e = .returned (.tuple #[v, .int .i64 (rnd m : Int)]) ∧ w'.ownsRow w.heap.size 3 1 v (nw m (rnd m)).length (ints (nw m (rnd m))) ∧ Below w.heap.size w w' := by
  obtain ⟨i0, hi, hz0, hz1, hz2⟩ := info_parts Try.infoMark
  have h12 := hm.n12
  have h1 := hm.n1
  rw [hm.ends] at hc1 hl2
  rw [nw_length hm]
  have HM := Lib.hid hm
  obtain ⟨⟨bn, fn, rfl, hbn, hrow⟩, be, fe, rfl, hbe, hend⟩ := hM
  have HROW := Lib.hid hrow; have HEND := Lib.hid hend
  have HC0 := Lib.hid hc0; have HC1 := Lib.hid hc1
  have HN0 : Hid ((mk0 m).length = m.1.length) := Lib.hid (by rw [show (mk0 m).length = m.2.length by simp [mk0], hm.ends])
  have HNR : Hid (∀ r, (marksR m (nw m r)).length = m.1.length) := Lib.hid (fun r => marksR_length m _)
  have HNW : Hid (∀ r, (nw m r).length = m.1.length) := Lib.hid (fun r => nw_length hm r)
  clear hrow hend hm hc0 hc1
  generalize hn : m.1.length = n at *
  have HNE := Lib.hid hn
  clear hn
  have hx1 := HC1.out
  go_enter Try.func59, Try.ntmps59
  go_wp2_with (at_make; refine wpList_make_full _ rfl _ _ _ rfl w.heap.size 93 i0 (.agg #[.int .i64 0, .int .i64 0, .int .i64 0, .int .i64 0]) 4 Try.underlying90 hi hz0 hz1 .i64 .i64 _ _ n rfl rfl rfl rfl (by rw [hz2]; omega) (by unfold maxLen; omega) (Nat.le_refl _) ?_; intro w1 hown hgrow
               have HB := Lib.hid (Below.grown (Below.refl w.heap.size w) hgrow (Nat.le_refl _) (fun j hj => by cases hj))
               have HR0 : Hid (MRow w1 w.heap.size n (List.replicate n zMk)) := Lib.hid (by
                 have h := own_mono hown (Nat.zero_le _)
                 rw [made_marks] at h; exact h)
               have hgl : w.heap.size < w1.heap.size := (hown.lt w.heap.size rfl).2
               clear hown hgrow
               have hm0 : w1.cell? ⟨B, 0, none⟩ = some (.slice (some ⟨bn, fn, none⟩) n ecap) := below_cellk HB.out HC0.out hB
               have hm1 : w1.cell? ⟨B, 1, none⟩ = some (.slice (some ⟨be, fe, none⟩) n ecap') := below_cellk HB.out HC1.out hB)
  have HZL : Hid ((mk0 m).length = (List.replicate n zMk).length) := Lib.hid (by rw [HN0.out]; simp)
  go_loopw [27] (fun iv wr => ∃ (k : Nat), k ≤ n ∧ iv = .int .i64 (k : Int) ∧ Hid (MRow wr w.heap.size n (mix (mk0 m) (List.replicate n zMk) k)) ∧ Hid (Below w.heap.size w wr) ∧ Hid (w.heap.size < wr.heap.size)) (fun iv _ => n - (intOf iv).toNat)
  case atStart => exact ⟨0, by omega, rfl, Lib.hid (by rw [mix_zero]; exact HR0.out), HB, Lib.hid hgl⟩
  case round =>
    clear HB HR0 hm0 hm1 hgl
    obtain ⟨wo, rfl⟩ : ∃ z : World, z = wr := ⟨_, rfl⟩
    obtain ⟨k, hk, rfl, HR, HB, HGL⟩ := hrel
    have hgl := HGL.out
    by_cases hkn : k < n
    case neg =>
      obtain rfl : k = n := by omega
      have HR2 : Hid (MRow wo w.heap.size k (mk0 m)) := Lib.hid (by have h := HR.out; have e := mix_full HZL.out; rw [HN0.out] at e; rwa [e] at h)
      have HNB := Lib.hid (impl_number w.heap.size k (mk0 m) wo hgl (fun j x hx => HR2.out.cells hx) ok_mk0 (by rw [HN0.out]; omega) (by rw [HN0.out]; omega))
      rw [HN0.out] at HNB
      clear HR HZL
      go_wp2_with fail
      refine HNB.out.mono ?_
      rintro e w2 ⟨v2, rfl, ho2, hb⟩
      have HO := Lib.hid (own_mono ho2 (show w.heap.size + 1 ≤ wo.heap.size from hgl))
      have HRM : Hid (MRow w2 w.heap.size k (mk0 m) ∧ (mk0 m).length = k ∧ ∀ x ∈ mk0 m, okMk x) := Lib.hid ⟨HR2.out.later hb, HN0.out, ok_mk0⟩
      have HB2 := Lib.hid (HB.out.trans (hb.mono HB.out.size))
      have HS2 : Hid (w.heap.size < w2.heap.size) := Lib.hid (Nat.lt_of_lt_of_le hgl hb.size)
      clear ho2 hb HB HGL hgl HR2 HNB
      go_wp2_with fail
      go_loopw [7, 8, 9] (fun nv mv rv wr => ∃ (r : Nat) (v : Value) (Lm : List Mk), r < 12 ∧ Hid (AtR m r) ∧ nv = v ∧ mv = .int .i64 (cnt m r : Int) ∧ rv = .int .i64 (r : Int) ∧ Hid (wr.ownsRow (w.heap.size + 1) 3 1 v k (ints (nw m r))) ∧ Hid (MRow wr w.heap.size k Lm ∧ Lm.length = k ∧ ∀ x ∈ Lm, okMk x) ∧ Hid (Below w.heap.size w wr) ∧ Hid (w.heap.size < wr.heap.size)) (fun _ _ rv _ => 12 - (intOf rv).toNat)
      case atStart => exact ⟨0, _, mk0 m, by omega, Lib.hid (AtR.zero HM.out), rfl, rfl, rfl, HO, HRM, HB2, HS2⟩
      case round =>
        clear HO HRM HB2 HS2
        obtain ⟨w3, rfl⟩ : ∃ z : World, z = wr := ⟨_, rfl⟩
        obtain ⟨r, v, Lm, hr12, HAT, rfl, rfl, rfl, HO, HRM, HB, HS⟩ := hrel
        obtain ⟨g2, c2, rfl, hg1, hg2⟩ := HO.out.form (by omega)
        have hcap2 := own_caps HO.out
        unfold maxLen at hcap2
        have hm0 := below_cellk HB.out HC0.out hB
        have HLM : Hid (Lm.length = k) := Lib.hid HRM.out.2.1
        have HZ2 : Hid ((marksR m (nw m r)).length = Lm.length) := Lib.hid (by rw [HNR.out, HLM.out])
        have HR3 : Hid (MRow w3 w.heap.size k (mix (marksR m (nw m r)) Lm 0)) := Lib.hid (by rw [mix_zero]; exact HRM.out.1)
        go_wp2_with fail
        go_loopw [50] (fun iv wr => ∃ (i : Nat), i ≤ k ∧ iv = .int .i64 (i : Int) ∧ Hid (MRow wr w.heap.size k (mix (marksR m (nw m r)) Lm i)) ∧ Hid (wr.ownsRow (w.heap.size + 1) 3 1 (.slice (some ⟨g2, 0, none⟩) k c2) k (ints (nw m r))) ∧ Hid (Below w.heap.size w wr) ∧ Hid (w.heap.size < wr.heap.size)) (fun iv _ => k - (intOf iv).toNat)
        case atStart => exact ⟨0, by omega, rfl, HR3, HO, HB, HS⟩
        case round =>
          clear HO HRM HB HS HR3 hm0
          obtain ⟨w4, rfl⟩ : ∃ z : World, z = wr := ⟨_, rfl⟩
          obtain ⟨i, hi, rfl, HR, HO, HB, HS⟩ := hrel
          have hgl := HS.out
          by_cases hik : i < k
          case neg =>
            obtain rfl : i = k := by omega
            have HR2 : Hid (MRow w4 w.heap.size i (marksR m (nw m r))) := Lib.hid (by have h := HR.out; have e := mix_full HZ2.out; rw [HNR.out] at e; rwa [e] at h)
            have HNB := Lib.hid (impl_number w.heap.size i (marksR m (nw m r)) w4 hgl (fun j x hx => HR2.out.cells hx) (ok_marks HM.out r) (by rw [HNR.out]; omega) (by rw [HNR.out]; omega))
            rw [HNR.out] at HNB
            have HRK : Hid (∀ x ∈ marksR m (nw m r), okMk x) := Lib.hid (ok_marks HM.out r)
            clear HR HZ2
            go_wp2_with fail
            refine HNB.out.mono ?_
            rintro e w5 ⟨v5, rfl, ho5, hb⟩
            have HO5 : Hid (w5.ownsRow (w.heap.size + 1) 3 1 v5 i (ints (nw m (r + 1)))) := Lib.hid (own_mono ho5 (show w.heap.size + 1 ≤ w4.heap.size from hgl))
            have HO6 := Lib.hid (own_later HO.out hb)
            have HRM : Hid (MRow w5 w.heap.size i (marksR m (nw m r)) ∧ (marksR m (nw m r)).length = i ∧ ∀ x ∈ marksR m (nw m r), okMk x) := Lib.hid ⟨HR2.out.later hb, HNR.out r, HRK.out⟩
            have HB5 := Lib.hid (HB.out.trans (hb.mono HB.out.size))
            have HS5 : Hid (w.heap.size < w5.heap.size) := Lib.hid (Nat.lt_of_lt_of_le hgl hb.size)
            have HCN : Hid ((dist (marksR m (nw m r))).length = cnt m (r + 1)) := Lib.hid rfl
            rw [HCN.out]
            clear ho5 hb HB HS hgl HR2 HNB HO
            by_cases hs : cnt m (r + 1) = cnt m r
            · have hd : ((cnt m (r + 1) : Int) == (cnt m r : Int)) = true := by simp [hs]
              have HRN := Lib.hid (HAT.out.stop ((stop_iff HM.out r).1 hs))
              clear hs
              go_wp2_with fail
              go_ret2
              exact ⟨_, by rw [HRN.out]; rfl, by rw [HRN.out]; exact own_mono HO6.out (Nat.le_succ _), HB5.out⟩
            · have hd : ((cnt m (r + 1) : Int) == (cnt m r : Int)) = false := by simp; omega
              have HAN := Lib.hid (HAT.out.next HM.out (fun h => hs ((stop_iff HM.out r).2 h)))
              have hr13 := HAN.out.le
              clear hs
              go_wp2_with fail
              go_roundw
              case rel => exact ⟨r + 1, _, marksR m (nw m r), hr13, HAN, rfl, rfl, by go_num, HO5, HRM, HB5, HS5⟩
              case measure => (simp [intOf]; try omega)
          obtain ⟨y, hy⟩ : ∃ y, Lm[i]? = some y := ⟨Lm[i]'(by rw [HLM.out]; exact hik), List.getElem?_eq_getElem _⟩
          have hx : (marksR m (nw m r))[i]? = some (mkAt m (nw m r) i) := marks_at (by rw [HNE.out]; exact hik)
          have hmy : (mix (marksR m (nw m r)) Lm i)[i]? = some y := by rw [mix_at HZ2.out]; exact hy
          have HRA := Lib.hid (HR.out.at hmy)
          have HMS := Lib.hid (mix_set HZ2.out hx)
          obtain ⟨b2, f2, d2, hc1, hb2, hd1, hd2, hc2⟩ := HROW.out (i : Int) (by omega) (by omega)
          rw [Int.toNat_natCast] at hc1
          have hrc := below_cellk HB.out hc1 hbn
          have HLC : Hid (∀ j : Nat, j < 3 → w.cell? ⟨b2, f2 + j, none⟩ = some (.int .i64 (goI m (i : Int) j))) := Lib.hid hc2
          have HGO := Lib.hid (fun j (hj : j < 3) => (goI_in HM.out (p := (i : Int)) (by omega) (by rw [HNE.out]; omega) hj).2)
          rw [HNE.out] at HGO
          have hnc : w4.cell? ⟨g2, i, none⟩ = some (.int .i64 (clA (nw m r) (i : Int))) := by
            rw [HO.out.cellAt i (by omega), ints_at _ i (by rw [HNW.out]; exact hik)]
            unfold clA; rw [Int.toNat_natCast]
          have kc : w4.cell? ⟨w.heap.size, i * 4, none⟩ = some (.int .i64 y.1) := HRA.out.cell 0 _ rfl
          have kf : w4.frozen? ⟨w.heap.size, i * 4, none⟩ = false := HRA.out.frozen _
          have hg2n : ¬ g2 = w.heap.size := by have := HO.out.lt g2 rfl; omega
          have HWR := Lib.hid (wrote_cell w4 w.heap.size (i * 4) (.int .i64 (clA (nw m r) (i : Int))))
          have HR5 : Hid (RowAt (w4.setCell ⟨w.heap.size, i * 4, none⟩ (.int .i64 (clA (nw m r) (i : Int)))) 93 4 (.slice (some ⟨w.heap.size, 0, none⟩) k k) k ((mix (marksR m (nw m r)) Lm i).map mkC) i (mix (mkC (mkAt m (nw m r) i)) (mkC y) 1)) := Lib.hid (by
            have h := HRA.out.store 0 (.int .i64 (clA (nw m r) (i : Int))) (by decide)
            have e := mix_set (A := mkC (mkAt m (nw m r) i)) (B := mkC y) rfl (k := 0) (a := .int .i64 (clA (nw m r) (i : Int))) rfl
            rw [mix_zero] at e
            rw [e] at h; exact h)
          have HO5 := Lib.hid (HWR.out.own HO.out (fun q hq => by simp [Value.ownBlock] at hq; omega))
          have HB5 : Hid (Below w.heap.size w (w4.setCell ⟨w.heap.size, i * 4, none⟩ (.int .i64 (clA (nw m r) (i : Int))))) := Lib.hid (HB.out.setCell (p := ⟨w.heap.size, i * 4, none⟩) (Nat.le_refl _) _)
          have HS5 : Hid (w.heap.size < (w4.setCell ⟨w.heap.size, i * 4, none⟩ (.int .i64 (clA (nw m r) (i : Int)))).heap.size) := Lib.hid (by rw [World.size_setCell]; exact hgl)
          clear hy hx hmy hc1 hc2 HR HRA
          go_wp2_with fail
          clear kc kf hrc hnc
          go_loopw [65] (fun jv wr => ∃ (j : Nat), j ≤ 3 ∧ jv = .int .i64 (j : Int) ∧ Hid (RowAt wr 93 4 (.slice (some ⟨w.heap.size, 0, none⟩) k k) k ((mix (marksR m (nw m r)) Lm i).map mkC) i (mix (mkC (mkAt m (nw m r) i)) (mkC y) (1 + j))) ∧ Hid (wr.ownsRow (w.heap.size + 1) 3 1 (.slice (some ⟨g2, 0, none⟩) k c2) k (ints (nw m r))) ∧ Hid (Below w.heap.size w wr) ∧ Hid (w.heap.size < wr.heap.size)) (fun jv _ => 3 - (intOf jv).toNat)
          case atStart => exact ⟨0, by omega, rfl, HR5, HO5, HB5, HS5⟩
          case round =>
            clear HR5 HO5 HB5 HS5 HO HB HS hgl HWR
            obtain ⟨w6, rfl⟩ : ∃ z : World, z = wr := ⟨_, rfl⟩
            obtain ⟨j, hj, rfl, HRA, HO, HB, HS⟩ := hrel
            have hgl := HS.out
            by_cases hj3 : j < 3
            case neg =>
              obtain rfl : j = 3 := by omega
              have HRN : Hid (MRow w6 w.heap.size k (mix (marksR m (nw m r)) Lm (i + 1))) := Lib.hid (by
                have e : mix (mkC (mkAt m (nw m r) i)) (mkC y) (1 + 3) = mkC (mkAt m (nw m r) i) := rfl
                have h := HRA.out
                rw [e] at h
                have h2 := MRow.of h
                rwa [HMS.out] at h2)
              go_wp2_with fail
              go_roundw
              case rel => exact ⟨i + 1, by omega, by go_num, HRN, HO, HB, HS⟩
              case measure => (simp [intOf]; try omega)
            have hlc := below_cellk HB.out (HLC.out j hj3) hb2
            have hgo := HGO.out j hj3
            obtain ⟨hgo0, hgo1⟩ := hgo
            have hnc : w6.cell? ⟨g2, (goI m (i : Int) j).toNat, none⟩ = some (.int .i64 (clA (nw m r) (goI m (i : Int) j))) := by
              rw [HO.out.cellAt _ (by omega), ints_at _ _ (by rw [HNW.out]; omega)]
              rfl
            have hvj : (mkC (mkAt m (nw m r) i))[1 + j]? = some (.int .i64 (clA (nw m r) (goI m (i : Int) j))) := by
              match j, hj3 with
              | 0, _ => rfl
              | 1, _ => rfl
              | 2, _ => rfl
            obtain ⟨yj, hyj⟩ : ∃ u, (mkC y)[1 + j]? = some u := ⟨(mkC y)[1 + j]'(by simp [mkC]; omega), List.getElem?_eq_getElem _⟩
            have kc : w6.cell? ⟨w.heap.size, i * 4 + 1 + j, none⟩ = some yj := by
              rw [Nat.add_assoc]
              exact HRA.out.cell (1 + j) _ (by rw [mix_at (A := mkC (mkAt m (nw m r) i)) (B := mkC y) rfl]; exact hyj)
            have kf : w6.frozen? ⟨w.heap.size, i * 4 + 1 + j, none⟩ = false := HRA.out.frozen _
            have HRN : Hid (RowAt (w6.drew.setCell ⟨w.heap.size, i * 4 + 1 + j, none⟩ (.int .i64 (clA (nw m r) (goI m (i : Int) j)))) 93 4 (.slice (some ⟨w.heap.size, 0, none⟩) k k) k ((mix (marksR m (nw m r)) Lm i).map mkC) i (mix (mkC (mkAt m (nw m r) i)) (mkC y) (1 + (j + 1)))) := Lib.hid (by
              have h := (HRA.out.keep (w' := w6.drew) (fun b hb => rfl)).store (1 + j) (.int .i64 (clA (nw m r) (goI m (i : Int) j))) (by omega)
              rw [mix_set (A := mkC (mkAt m (nw m r) i)) (B := mkC y) rfl hvj, ← Nat.add_assoc] at h
              exact h)
            have HWR := Lib.hid (wrote_cell w6.drew w.heap.size (i * 4 + 1 + j) (.int .i64 (clA (nw m r) (goI m (i : Int) j))))
            have HON := Lib.hid (HWR.out.own (own_drewN HO.out 1) (fun q hq => by simp [Value.ownBlock] at hq; omega))
            have HBN : Hid (Below w.heap.size w (w6.drew.setCell ⟨w.heap.size, i * 4 + 1 + j, none⟩ (.int .i64 (clA (nw m r) (goI m (i : Int) j))))) := Lib.hid ((rdrew HB.out 1).setCell (p := ⟨w.heap.size, i * 4 + 1 + j, none⟩) (Nat.le_refl _) _)
            have HSN : Hid (w.heap.size < (w6.drew.setCell ⟨w.heap.size, i * 4 + 1 + j, none⟩ (.int .i64 (clA (nw m r) (goI m (i : Int) j)))).heap.size) := Lib.hid (by rw [World.size_setCell]; exact hgl)
            clear hvj hyj HRA HO HB HS HWR
            generalize clA (nw m r) (goI m (i : Int) j) = nv at *
            generalize goI m (i : Int) j = tt at *
            have HKC := Lib.hid kc
            go_wp2_with fail
            refine wp_region_G [10] (fun w' => w'.cell? ⟨g2, tt.toNat, none⟩ = some (.int .i64 nv)) (by kernel_rfl) ?_ (fun hHeld => ?_)
            · exact hnc
            refine wpG_pure (i := 0) (oi := { dst := some 70, op := Go.Op.move (Go.Operand.tmp 4), type := 90, pos := "l12_machine.go:91", after := #[], guard := none }) (v := ?vg1) rfl (by kernel_rfl) (fun _ _ _ h => h) (Or.inr hHeld) (Or.inl ⟨by rfl, ?yg1⟩) ?_
            case yg1 => (intro wS _; go_simp <;> with_reducible rfl)
            try simp only [Act.put, List.setIfInBounds_toArray, List.set_cons_zero, List.set_cons_succ]
            refine wpG_pure (i := 1) (oi := { dst := some 71, op := Go.Op.move (Go.Operand.tmp 10), type := 3, pos := "l12_machine.go:91", after := #[], guard := none }) (v := ?vg2) rfl (by kernel_rfl) (fun _ _ _ h => h) (Or.inr hHeld) (Or.inl ⟨by rfl, ?yg2⟩) ?_
            case yg2 => (intro wS _; go_simp <;> with_reducible rfl)
            try simp only [Act.put, List.setIfInBounds_toArray, List.set_cons_zero, List.set_cons_succ]
            refine wpG_pure (i := 2) (oi := { dst := some 72, op := Go.Op.move (Go.Operand.tmp 12), type := 3, pos := "l12_machine.go:91", after := #[], guard := none }) (v := ?vg3) rfl (by kernel_rfl) (fun _ _ _ h => h) (Or.inr hHeld) (Or.inl ⟨by rfl, ?yg3⟩) ?_
            case yg3 => (intro wS _; go_simp <;> with_reducible rfl)
            try simp only [Act.put, List.setIfInBounds_toArray, List.set_cons_zero, List.set_cons_succ]
            refine wpG_pure (i := 3) (oi := { dst := some 73, op := Go.Op.move (Go.Operand.tmp 7), type := 42, pos := "l12_machine.go:91", after := #[], guard := none }) (v := ?vg4) rfl (by kernel_rfl) (fun _ _ _ h => h) (Or.inr hHeld) (Or.inl ⟨by rfl, ?yg4⟩) ?_
            case yg4 => (intro wS _; go_simp <;> with_reducible rfl)
            try simp only [Act.put, List.setIfInBounds_toArray, List.set_cons_zero, List.set_cons_succ]
            refine wpG_pure (i := 4) (oi := { dst := some 74, op := Go.Op.move (Go.Operand.tmp 13), type := 3, pos := "l12_machine.go:91", after := #[], guard := none }) (v := ?vg5) rfl (by kernel_rfl) (fun _ _ _ h => h) (Or.inr hHeld) (Or.inl ⟨by rfl, ?yg5⟩) ?_
            case yg5 => (intro wS _; go_simp <;> with_reducible rfl)
            try simp only [Act.put, List.setIfInBounds_toArray, List.set_cons_zero, List.set_cons_succ]
            refine wpG_pure (i := 5) (oi := { dst := some 75, op := Go.Op.indexAddr 42 (Go.Operand.tmp 73) (Go.Operand.tmp 74), type := 0, pos := "l12_machine.go:91", after := #[{ on := 3, ground := Go.Ground.data }, { on := 4, ground := Go.Ground.data }], guard := none }) (v := ?vg6) rfl (by kernel_rfl) (fun _ _ _ h => h) (Or.inr hHeld) (Or.inl ⟨by rfl, ?yg6⟩) ?_
            case yg6 => (intro wS _; go_simp <;> with_reducible rfl)
            try simp only [Act.put, List.setIfInBounds_toArray, List.set_cons_zero, List.set_cons_succ]
            refine wpG_load (i := 6) (oi := { dst := some 76, op := Go.Op.load 3 (Go.Operand.tmp 75), type := 3, pos := "l12_machine.go:91", after := #[{ on := 5, ground := Go.Ground.data }], guard := none }) (v := ?vg7) [[10, 6]] rfl (by kernel_rfl) (fun _ _ _ h => h) hHeld (Or.inl ⟨by rfl, ?yg7⟩) ?_
            case yg7 => (intro wS hSw; (try dsimp only at hSw); go_simp <;> with_reducible rfl)
            try simp only [Act.put, List.setIfInBounds_toArray, List.set_cons_zero, List.set_cons_succ]
            refine wpG_pure (i := 7) (oi := { dst := some 77, op := Go.Op.indexAddr 90 (Go.Operand.tmp 70) (Go.Operand.tmp 71), type := 0, pos := "l12_machine.go:91", after := #[{ on := 0, ground := Go.Ground.data }, { on := 1, ground := Go.Ground.data }], guard := none }) (v := ?vg8) rfl (by kernel_rfl) (fun _ _ _ h => h) (Or.inr hHeld) (Or.inl ⟨by rfl, ?yg8⟩) ?_
            case yg8 => (intro wS _; go_simp <;> with_reducible rfl)
            try simp only [Act.put, List.setIfInBounds_toArray, List.set_cons_zero, List.set_cons_succ]
            refine wpG_pure (i := 8) (oi := { dst := some 78, op := Go.Op.fieldAddr 93 (Go.Operand.tmp 77) 1, type := 0, pos := "l12_machine.go:91", after := #[{ on := 7, ground := Go.Ground.data }], guard := none }) (v := ?vg9) rfl (by kernel_rfl) (fun _ _ _ h => h) (Or.inr hHeld) (Or.inl ⟨by rfl, ?yg9⟩) ?_
            case yg9 => (intro wS _; go_simp <;> with_reducible rfl)
            try simp only [Act.put, List.setIfInBounds_toArray, List.set_cons_zero, List.set_cons_succ]
            refine wpG_pure (i := 9) (oi := { dst := some 79, op := Go.Op.indexAddr 91 (Go.Operand.tmp 78) (Go.Operand.tmp 72), type := 0, pos := "l12_machine.go:91", after := #[{ on := 8, ground := Go.Ground.data }, { on := 2, ground := Go.Ground.data }, { on := 0, ground := Go.Ground.phase }, { on := 1, ground := Go.Ground.phase }, { on := 2, ground := Go.Ground.phase }, { on := 3, ground := Go.Ground.phase }, { on := 4, ground := Go.Ground.phase }, { on := 5, ground := Go.Ground.phase }, { on := 6, ground := Go.Ground.phase }], guard := none }) (v := ?vg10) rfl (by kernel_rfl) (fun _ _ _ h => h) (Or.inr hHeld) (Or.inl ⟨by rfl, ?yg10⟩) ?_
            case yg10 => (intro wS _; go_simp <;> with_reducible rfl)
            try simp only [Act.put, List.setIfInBounds_toArray, List.set_cons_zero, List.set_cons_succ]
            refine wpG_one (i := 10) (o := { dst := none, op := Go.Op.store 3 (Go.Operand.tmp 79) (Go.Operand.tmp 76), type := 0, pos := "l12_machine.go:91", after := #[{ on := 9, ground := Go.Ground.data }, { on := 6, ground := Go.Ground.data }, { on := 0, ground := Go.Ground.phase }, { on := 1, ground := Go.Ground.phase }, { on := 2, ground := Go.Ground.phase }, { on := 3, ground := Go.Ground.phase }, { on := 4, ground := Go.Ground.phase }, { on := 5, ground := Go.Ground.phase }, { on := 6, ground := Go.Ground.phase }], guard := none }) rfl (by kernel_rfl) (fun K hK => ?_)
            go_simp
            refine hK.out _ _ (Or.inl (by kernel_rfl)) (fun _ => ?_)
            clear hK K
            try simp only [Act.put, List.setIfInBounds_toArray, List.set_cons_zero, List.set_cons_succ]
            refine wpG_done (by kernel_rfl) ?_
            skip
            go_wp2_with fail
            go_roundw
            case rel => exact ⟨j + 1, by omega, by go_num, HRN, HON, HBN, HSN⟩
            case measure => (simp [intOf]; try omega)
    have hz : (List.replicate n zMk)[k]? = some zMk := by rw [List.getElem?_replicate, if_pos hkn]
    have hx : (mk0 m)[k]? = some (if endI m (k : Int) = true then 1 else 0, 0, 0, 0) := by
      have h2 := HNE.out
      have h3 := end_in HM.out (p := (k : Int)) (by omega) (by omega)
      rw [Int.toNat_natCast] at h3
      unfold mk0
      rw [List.getElem?_map, h3]; rfl
    have hmz : (mix (mk0 m) (List.replicate n zMk) k)[k]? = some zMk := by rw [mix_at HZL.out]; exact hz
    have HRA := Lib.hid (HR.out.at hmz)
    have hce := below_cellk HB.out (HEND.out (k : Int) (by omega) (by omega)) hbe
    rw [Int.toNat_natCast] at hce
    have kc : wo.cell? ⟨w.heap.size, k * 4, none⟩ = some (.int .i64 0) := HRA.out.cell 0 _ rfl
    have kf : wo.frozen? ⟨w.heap.size, k * 4, none⟩ = false := HRA.out.frozen _
    cases hE : endI m (k : Int) with
    | true =>
      rw [hE] at hce hx
      have HNX : Hid (MRow (wo.setCell ⟨w.heap.size, k * 4, none⟩ (.int .i64 1)) w.heap.size n (mix (mk0 m) (List.replicate n zMk) (k + 1))) := Lib.hid (by
        have h := MRow.of (x := (1, 0, 0, 0)) (HRA.out.store 0 (.int .i64 1) (by decide))
        rwa [mix_set HZL.out (by rw [hx]; rfl)] at h)
      clear hx hz hmz hE
      go_wp2_with fail
      go_roundw
      case rel => exact ⟨k + 1, by omega, by go_num, HNX, Lib.hid (HB.out.setCell (p := ⟨w.heap.size, k * 4, none⟩) (Nat.le_refl _) _), Lib.hid (by rw [World.size_setCell]; exact hgl)⟩
      case measure => (simp [intOf]; try omega)
    | false =>
      rw [hE] at hce hx
      have HNX : Hid (mix (mk0 m) (List.replicate n zMk) k = mix (mk0 m) (List.replicate n zMk) (k + 1)) := Lib.hid (mix_same HZL.out hx hz)
      clear hx hz hmz hE
      go_wp2_with fail
      go_roundw
      case rel => exact ⟨k + 1, by omega, by go_num, Lib.hid (by rw [← HNX.out]; exact HR.out), HB, HGL⟩
      case measure => (simp [intOf]; try omega)
end Go.Proofs.Ytedjahinlpehgaa
