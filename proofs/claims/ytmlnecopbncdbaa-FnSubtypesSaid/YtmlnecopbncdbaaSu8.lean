/- The draws of two schemas: one that is a little other than one. -/
import Derived.Test.YtmlnecopbncdbaaTyO
namespace Go.Proofs.Ytmlnecopbncdbaa
set_option linter.unusedVariables false
set_option linter.unusedSimpArgs false
open Go.ChangeShapes Go.WideShapes Go.ChangeAt Go.RowKit
set_option maxRecDepth 100000

/-- each type but the first is a part of one ahead -/
def UpOK (L : List Ty) : Prop := ∀ i x, L[i]? = some x → 0 < i → ∃ j : Nat, x.up = (j : Int) ∧ j < i
theorem up_good {L : List Ty} (h : goodL L = true) : UpOK L := fun i x hx h0 => by
  have hr := (goodL_iff.1 h).2.1
  obtain ⟨j, y, h1, h2, _⟩ := (hr.1 i x hx).2.2 h0
  exact ⟨j, h1, h2⟩
theorem up_set {L : List Ty} {k : Nat} {x y : Ty} (h : UpOK L) (hx : L[k]? = some x) (he : y.up = x.up) : UpOK (L.set k y) := fun i z hz h0 => by
  by_cases hik : i = k
  · subst hik
    have hl := (List.getElem?_eq_some_iff.1 hx).1
    rw [List.getElem?_set_self hl] at hz
    cases hz
    rw [he]
    exact h i x hx h0
  · rw [List.getElem?_set_ne (fun e => hik e.symm)] at hz
    exact h i z hz h0
theorem up_take {L : List Ty} (k : Nat) (h : UpOK L) : UpOK (L.take k) := fun i x hx h0 => by
  have hik : i < k := by
    have := (List.getElem?_eq_some_iff.1 hx).1
    rw [List.length_take] at this; omega
  rw [List.getElem?_take_of_lt hik] at hx
  exact h i x hx h0
theorem tysV_take : ∀ (L : List Ty) (k : Nat), (tysV L).take (k * 6) = tysV (L.take k)
  | [], k => by simp [tysV]
  | x :: r, 0 => by simp [tysV]
  | x :: r, k + 1 => by
    rw [List.take_succ_cons, tysV_cons, tysV_cons, show (k + 1) * 6 = k * 6 + 1 + 1 + 1 + 1 + 1 + 1 by omega]
    simp only [List.take_succ_cons, tysV_take r k]
theorem own_take {w : World} {base : Nat} {e : TypeId} {size n g cap k : Nat} {xs : List Value} (h : w.ownsRow base e size (.slice (some ⟨g, 0, none⟩) n cap) n xs) (hk : k ≤ n) : w.ownsRow base e size (.slice (some ⟨g, 0, none⟩) k cap) k (xs.take (k * size)) := by
  rcases h.2 with ⟨hv, _⟩ | ⟨g', cap', cur, hv, hb, hg, hnc, hcm, hcs, htake⟩
  · cases hv
  · cases hv
    have hle : k * size ≤ n * size := Nat.mul_le_mul_right _ hk
    refine ⟨by rw [List.length_take, h.1, Nat.min_eq_left hle], .inr ⟨g, cap, cur, rfl, hb, hg, by omega, hcm, hcs, ?_⟩⟩
    rw [← htake, List.take_take, Nat.min_eq_left hle]
theorem SB.shrink {w0 w : World} {B K A X base n g cap : Nat} {L : List Ty} (h : SB w0 B K A X base n g cap L w) (k : Nat) (hk : k ≤ n) : SB w0 B K A X base k g cap (L.take k) (w.setCell ⟨X, 0, none⟩ (.slice (some ⟨g, 0, none⟩) k cap)) := by
  have hge := h.ge
  have h1 := h.hB; have h2 := h.hA; have h3 := h.hX; have h4 := h.hb; have h5 := h.hg
  have hws := wrote_cell w X 0 (.slice (some ⟨g, 0, none⟩) k cap)
  refine ⟨?_, by rw [List.length_take, h.len]; omega, fun x hx => h.nm x (List.mem_of_mem_take hx), ?_, (hws.block A (hp_lt h.res) (by omega)).trans h.res, h.cur.wrote hws (fun q hq => by omega), wrote_new h.wr (by omega) 0 _, h1, h2, h3, h4, h5⟩
  · rw [← tysV_take]
    exact hws.own (own_take h.own hk) (fun q hq e => by simp only [Value.ownBlock, Option.some.injEq] at hq; omega)
  · simp [World.setCell, Array.getElem?_modify, h.box]
theorem SB.more {w0 w : World} {B K K' A X base n g cap : Nat} {L : List Ty} (h : SB w0 B K A X base n g cap L w) (hk : K ≤ K') : SB w0 B K' A X base n g cap L w :=
  ⟨h.own, h.len, h.nm, h.box, h.res, h.cur.mono hk, h.wr, h.hB, h.hA, h.hX, h.hb, h.hg⟩
theorem SB.frzX {w0 w : World} {B K A X base n g cap : Nat} {L : List Ty} (h : SB w0 B K A X base n g cap L w) : w.frozen? ⟨X, 0, none⟩ = false := by simp [World.frozen?, h.box]
set_option maxHeartbeats 8000000 in
theorem draw_bent (B K : Nat) (w : World) {B0 : Nat} {L : List Ty} {sa : Option Addr} {sc : Nat} (h : PC w B K) (hK : K ≤ 700000000000) (hs : Sch B0 w L sa sc) (hg : goodL L = true) :
    Calls Try.prog 52 #[.pointer (some ⟨B, 0, none⟩), .agg #[.slice sa L.length sc]] w (DrS B (K + 100) w) := by
  obtain ⟨i0, hi0, hz0, hz1, hz2⟩ := info_parts Try.infoTyp
  have hBl := h.lt
  have hll : 1 ≤ L.length ∧ L.length ≤ 30 := (goodL_iff.1 hg).1
  have hup := up_good hg
  have hnm := hs.hnm
  have hlc := hs.hc
  have hcm := hs.hcm
  have hBw := hs.hB
  have hB1 := Below.alloc (Below.refl w.heap.size w) (Nat.le_refl _) (.cells #[.slice sa L.length sc] 28)
  have hX1 := heap_alloc_new w (.cells #[.slice sa L.length sc] 28)
  generalize hw1 : w.alloc (.cells #[.slice sa L.length sc] 28) = w1 at *
  have l1 := hp_lt hX1
  have hB2 := hB1.alloc (Nat.le_of_lt l1) (.cells #[.slice none 0 0] 28)
  have hX1 := hp_alloc (.cells #[.slice none 0 0] 28) hX1
  have hX2 := heap_alloc_new w1 (.cells #[.slice none 0 0] 28)
  generalize hw2 : w1.alloc (.cells #[.slice none 0 0] 28) = w2 at *
  have l2 := hp_lt hX2
  have hO3 := World.ownsRow_lit (base := w2.heap.size) (e := 85) (size := 6) w2 #[] 0 (Nat.le_refl _) (by decide) rfl
  have hB3 := hB2.alloc (by omega) (.cells #[] 85)
  have hX1 := hp_alloc (.cells #[] 85) hX1
  have hX2 := hp_alloc (.cells #[] 85) hX2
  have l3 : w2.heap.size < (w2.alloc (.cells #[] 85)).heap.size := by simp
  generalize hw3 : w2.alloc (.cells #[] 85) = w3 at *
  obtain ⟨rb, off, rfl, hrb, hrc⟩ := (hs.row.below (hB3.mono hs.hB)).at (tysV_ne (l := L) (k := 0) (by omega))
  have c1 : w3.cell? ⟨w.heap.size, 0, none⟩ = some (.slice (some ⟨rb, off, none⟩) L.length sc) := by simp [World.cell?, hX1]
  have HX2 := Lib.hid hX2
  have HB3 := Lib.hid hB3
  have HO3 := Lib.hid hO3
  have HUP := Lib.hid hup
  have HNM := Lib.hid hnm
  have HPC3 := Lib.hid (h.later hB3)
  have HNW := Lib.hid (show ∀ j u, (tysV L)[j]? = some u → w3.cell? ((⟨rb, off, none⟩ : Addr).add j) = some u from fun j u hj => by
    have hadd : (⟨rb, off, none⟩ : Addr).add j = ⟨rb, off + j, none⟩ := by unfold Addr.add; simp
    rw [hadd]; exact hrc j u hj)
  have HLN := Lib.hid (tysV_len L)
  have HOC := Lib.hid (tysV_oc L)
  clear h hs hg hup hnm hB1 hB2 hB3 hX1 hX2 hO3 hrc
  go_enter Try.func52, Try.ntmps52
  go_wp2_with (at_builtin; refine wpList_append_lies _ rfl _ _ 26 rfl w2.heap.size 85 i0 (.agg #[.int .i64 0, .string ByteArray.empty, .int .i64 0, .bool false, .int .i64 0, .int .i64 0]) 6 56 Try.underlying26 hi0 hz0 hz1 hz2 rfl (by decide) _ 0 _ rfl HO3.out ⟨rb, off, none⟩ L.length sc (tysV L) rfl HLN.out HNW.out HOC.out (by omega) (by unfold maxLen; omega) (by omega) (by omega) w3.heap.size rfl ?_)
  intro g cp w4 hown hgrow hat hlt
  have hz4 := hgrow.size
  have HS5 : Hid (SB w B K w1.heap.size w4.heap.size w2.heap.size L.length g cp L (w4.alloc (.cells #[.slice (some ⟨g, 0, none⟩) L.length cp] 28))) := Lib.hid (by
    have hrow : ∀ q, (Value.slice (some ⟨w2.heap.size, 0, none⟩) 0 0).ownBlock = some q → q = w2.heap.size := fun q hq => by simp only [Value.ownBlock, Option.some.injEq] at hq; omega
    have hb5 := (Below.refl w4.heap.size w4).alloc (Nat.le_refl _) (.cells #[.slice (some ⟨g, 0, none⟩) L.length cp] 28)
    exact ⟨hown.alloc _, rfl, HNM.out, heap_alloc_new w4 _, hp_later hb5 (hp_grown hgrow HX2.out (fun e => by have := hrow _ e; omega)), (HPC3.out.wrote (Wrote.of_grown hgrow) (fun q hq e => by have := hrow _ e; omega)).later hb5, (wrote_grow2 (Wrote.of_below (S := fun q => q = B) HB3.out) hgrow (fun q hq e => by have := hrow _ e; omega)).trans (Wrote.of_below hb5), hBl, by omega, by omega, l2, by omega⟩)
  have hcapb : L.length ≤ cp ∧ cp ≤ 9223372036854775807 := by have := own_cap hown; omega
  clear hown hgrow hat hlt HNM HX2 HB3 HO3 HPC3 HNW HLN HOC c1
  generalize hw5 : w4.alloc (.cells #[.slice (some ⟨g, 0, none⟩) L.length cp] 28) = w5 at *
  generalize hXe : w4.heap.size = X at *
  have HPK := Lib.hid (cur_pick B K 3 w5 HS5.out.cur (by omega) (by omega))
  go_wp2_with fail
  refine HPK.out.mono ?_
  rintro e w6 ⟨r, rfl, hr, hp, hw⟩
  have HS6 := Lib.hid (HS5.out.wrote hw hp)
  have hr2 : r ≤ 2 := by omega
  clear hp hw hr HS5 HPK hw5 hXe
  go_wp2_with fail
  go_loopw [6] (fun nv wr => ∃ (m n : Nat) (M : List Ty), m ≤ 2 ∧ 1 ≤ n ∧ n ≤ L.length ∧ nv = .int .i64 (m : Int) ∧ Hid (UpOK M) ∧ Hid (SB w B (K + 2 + 6 * (2 - m)) w1.heap.size X w2.heap.size n g cp M wr)) (fun nv _ => (intOf nv).toNat)
  case atStart => exact ⟨r, L.length, L, hr2, hll.1, Nat.le_refl _, rfl, HUP, Lib.hid (HS6.out.more (by omega))⟩
  case round =>
    obtain ⟨wo, rfl⟩ : ∃ z : World, z = wr := ⟨_, rfl⟩
    obtain ⟨m, n, M, hm2, hn1, hnl, rfl, HU, HS⟩ := hrel
    by_cases h0 : m = 0
    · have h1 : ¬ ((m : Int) > 0) := by omega
      have h2 : ¬ 0 < m := by omega
      clear h0
      obtain ⟨x0, f0, y0, HRO, HRP, HRW⟩ := (HS.out).done (by omega)
      have z0 := (HS.out).cell
      have hml := HS.out.len
      go_wp2_with fail
      refine bodyPost_ret (v := .agg #[.slice (some ⟨g, 0, none⟩) n cp]) (by simp [results, Try.results52, go_sem, y0]) rfl ?_
      subst hml
      exact mk_DrS rfl ⟨hn1, by omega⟩ HS.out.nm HRO (HRP.mono (by omega)) HRW
    have h1 : ((m : Int) > 0) := by omega
    have h2 : 0 < m := by omega
    have hwm : IntKind.i64.wrap ((m : Int) - 1) = (m : Int) - 1 := IntWalk.i64_in _ (by omega)
    have z0 := (HS.out).cell
    have HP := Lib.hid (cur_pick B (K + 2 + 6 * (2 - m)) (n : Int) wo HS.out.cur (by omega) (by omega))
    obtain ⟨m, rfl⟩ : ∃ m', m = m' + 1 := ⟨m - 1, by omega⟩
    go_wp2_with fail
    refine HP.out.mono ?_
    rintro e wa ⟨k, rfl, hk, hp, hw⟩
    have hkn : k < n := by omega
    have HSa := Lib.hid (HS.out.wrote hw hp)
    clear hp hw hk HP z0 HS
    by_cases hk0 : k = 0
    · have e1 : ((k : Int) == 0) = true := by rw [beq_iff_eq]; omega
      clear hk0
      go_wp2_with fail
      go_roundw
      case rel => exact ⟨m, n, M, by omega, by omega, by omega, by go_num, HU, Lib.hid (HSa.out.more (by omega))⟩
      case measure => (simp [intOf]; try omega)
    have e1 : ((k : Int) == 0) = false := beq_eq_false_iff_ne.2 (by omega)
    obtain ⟨x, hx⟩ : ∃ x, M[k]? = some x := ⟨M[k]'(by rw [HSa.out.len]; exact hkn), List.getElem?_eq_getElem _⟩
    obtain ⟨j, hj, hjk⟩ := HU.out k x hx (by omega)
    obtain ⟨y, hy⟩ : ∃ y, M[j]? = some y := ⟨M[j]'(by rw [HSa.out.len]; omega), List.getElem?_eq_getElem _⟩
    have HX := Lib.hid hx
    have HY := Lib.hid hy
    have HJ := Lib.hid hj
    have hjn : j < n := by omega
    clear hx hy hj hk0
    have HPM := Lib.hid (cur_pick B (K + 2 + 6 * (2 - (m + 1)) + 2) 3 wa HSa.out.cur (by omega) (by omega))
    go_wp2_with fail
    refine HPM.out.mono ?_
    rintro e wb ⟨q, rfl, hq, hp, hw⟩
    have HSb := Lib.hid (HSa.out.wrote hw hp)
    have hq3 : q < 3 := by omega
    clear hp hw hq HPM
    have z0 := (HSb.out).cell
    have zf := (HSb.out).frzX
    obtain ⟨t0, t1, t2, t3, t4, t5⟩ := HSb.out.at HX.out
    obtain ⟨p0, -, -, -, -, -⟩ := HSb.out.at HY.out
    rw [HJ.out] at t4
    by_cases q0 : q = 0
    · subst q0
      by_cases h5 : y.kind = 5
      case neg =>
        have n5 : (y.kind == 5) = false := beq_eq_false_iff_ne.2 h5
        clear h5
        go_wp2_with fail
        refine wp_region_G [] (fun w' => w'.cell? ⟨X, 0, none⟩ = some (.slice (some ⟨g, 0, none⟩) n cp) ∧ w'.cell? ⟨g, k * 6 + 4, none⟩ = some (.int .i64 (j : Int)) ∧ w'.cell? ⟨g, j * 6, none⟩ = some (.int .i64 y.kind)) (by kernel_rfl) ?_ (fun hHeld => ?_)
        · exact ⟨z0, t4, p0⟩
        refine wpG_pure (i := 0) (oi := { dst := some 55, op := Go.Op.fieldAddr 28 (Go.Operand.tmp 5) 0, type := 0, pos := "l2_type.go:375", after := #[], guard := none }) (v := ?vg1) rfl (by kernel_rfl) (fun _ _ _ h => h) (Or.inr hHeld) (Or.inl ⟨by rfl, ?yg1⟩) ?_
        case yg1 => (intro wS _; go_simp <;> with_reducible rfl)
        try simp only [Act.put, List.setIfInBounds_toArray, List.set_cons_zero, List.set_cons_succ]
        refine wpG_load (i := 1) (oi := { dst := some 56, op := Go.Op.load 26 (Go.Operand.tmp 55), type := 26, pos := "l2_type.go:375", after := #[{ on := 0, ground := Go.Ground.data }], guard := none }) (v := ?vg2) [] rfl (by kernel_rfl) (fun _ _ _ h => h) hHeld (Or.inl ⟨by rfl, ?yg2⟩) ?_
        case yg2 => (intro wS hSw; (try dsimp only at hSw); go_simp <;> with_reducible rfl)
        try simp only [Act.put, List.setIfInBounds_toArray, List.set_cons_zero, List.set_cons_succ]
        refine wpG_pure (i := 2) (oi := { dst := some 57, op := Go.Op.fieldAddr 28 (Go.Operand.tmp 5) 0, type := 0, pos := "l2_type.go:375", after := #[], guard := none }) (v := ?vg3) rfl (by kernel_rfl) (fun _ _ _ h => h) (Or.inr hHeld) (Or.inl ⟨by rfl, ?yg3⟩) ?_
        case yg3 => (intro wS _; go_simp <;> with_reducible rfl)
        try simp only [Act.put, List.setIfInBounds_toArray, List.set_cons_zero, List.set_cons_succ]
        refine wpG_load (i := 3) (oi := { dst := some 58, op := Go.Op.load 26 (Go.Operand.tmp 57), type := 26, pos := "l2_type.go:375", after := #[{ on := 2, ground := Go.Ground.data }], guard := none }) (v := ?vg4) [] rfl (by kernel_rfl) (fun _ _ _ h => h) hHeld (Or.inl ⟨by rfl, ?yg4⟩) ?_
        case yg4 => (intro wS hSw; (try dsimp only at hSw); go_simp <;> with_reducible rfl)
        try simp only [Act.put, List.setIfInBounds_toArray, List.set_cons_zero, List.set_cons_succ]
        refine wpG_pure (i := 4) (oi := { dst := some 59, op := Go.Op.move (Go.Operand.tmp 7), type := 3, pos := "l2_type.go:375", after := #[], guard := none }) (v := ?vg5) rfl (by kernel_rfl) (fun _ _ _ h => h) (Or.inr hHeld) (Or.inl ⟨by rfl, ?yg5⟩) ?_
        case yg5 => (intro wS _; go_simp <;> with_reducible rfl)
        try simp only [Act.put, List.setIfInBounds_toArray, List.set_cons_zero, List.set_cons_succ]
        refine wpG_pure (i := 5) (oi := { dst := some 60, op := Go.Op.indexAddr 26 (Go.Operand.tmp 58) (Go.Operand.tmp 59), type := 0, pos := "l2_type.go:375", after := #[{ on := 3, ground := Go.Ground.data }, { on := 4, ground := Go.Ground.data }], guard := none }) (v := ?vg6) rfl (by kernel_rfl) (fun _ _ _ h => h) (Or.inr hHeld) (Or.inl ⟨by rfl, ?yg6⟩) ?_
        case yg6 => (intro wS _; go_simp <;> with_reducible rfl)
        try simp only [Act.put, List.setIfInBounds_toArray, List.set_cons_zero, List.set_cons_succ]
        refine wpG_pure (i := 6) (oi := { dst := some 61, op := Go.Op.fieldAddr 85 (Go.Operand.tmp 60) 4, type := 0, pos := "l2_type.go:375", after := #[{ on := 5, ground := Go.Ground.data }], guard := none }) (v := ?vg7) rfl (by kernel_rfl) (fun _ _ _ h => h) (Or.inr hHeld) (Or.inl ⟨by rfl, ?yg7⟩) ?_
        case yg7 => (intro wS _; go_simp <;> with_reducible rfl)
        try simp only [Act.put, List.setIfInBounds_toArray, List.set_cons_zero, List.set_cons_succ]
        refine wpG_load (i := 7) (oi := { dst := some 62, op := Go.Op.load 3 (Go.Operand.tmp 61), type := 3, pos := "l2_type.go:375", after := #[{ on := 6, ground := Go.Ground.data }], guard := none }) (v := ?vg8) [] rfl (by kernel_rfl) (fun _ _ _ h => h) hHeld (Or.inl ⟨by rfl, ?yg8⟩) ?_
        case yg8 => (intro wS hSw; (try dsimp only at hSw); go_simp <;> with_reducible rfl)
        try simp only [Act.put, List.setIfInBounds_toArray, List.set_cons_zero, List.set_cons_succ]
        refine wpG_pure (i := 8) (oi := { dst := some 63, op := Go.Op.indexAddr 26 (Go.Operand.tmp 56) (Go.Operand.tmp 62), type := 0, pos := "l2_type.go:375", after := #[{ on := 1, ground := Go.Ground.data }, { on := 7, ground := Go.Ground.data }], guard := none }) (v := ?vg9) rfl (by kernel_rfl) (fun _ _ _ h => h) (Or.inr hHeld) (Or.inl ⟨by rfl, ?yg9⟩) ?_
        case yg9 => (intro wS _; go_simp <;> with_reducible rfl)
        try simp only [Act.put, List.setIfInBounds_toArray, List.set_cons_zero, List.set_cons_succ]
        refine wpG_pure (i := 9) (oi := { dst := some 64, op := Go.Op.fieldAddr 85 (Go.Operand.tmp 63) 0, type := 0, pos := "l2_type.go:375", after := #[{ on := 8, ground := Go.Ground.data }], guard := none }) (v := ?vg10) rfl (by kernel_rfl) (fun _ _ _ h => h) (Or.inr hHeld) (Or.inl ⟨by rfl, ?yg10⟩) ?_
        case yg10 => (intro wS _; go_simp <;> with_reducible rfl)
        try simp only [Act.put, List.setIfInBounds_toArray, List.set_cons_zero, List.set_cons_succ]
        refine wpG_load (i := 10) (oi := { dst := some 65, op := Go.Op.load 3 (Go.Operand.tmp 64), type := 3, pos := "l2_type.go:375", after := #[{ on := 9, ground := Go.Ground.data }], guard := none }) (v := ?vg11) [] rfl (by kernel_rfl) (fun _ _ _ h => h) hHeld (Or.inl ⟨by rfl, ?yg11⟩) ?_
        case yg11 => (intro wS hSw; (try dsimp only at hSw); go_simp <;> with_reducible rfl)
        try simp only [Act.put, List.setIfInBounds_toArray, List.set_cons_zero, List.set_cons_succ]
        refine wpG_pure (i := 11) (oi := { dst := some 66, op := Go.Op.binOp Go.BinOp.eql 3 (Go.Operand.tmp 65) (Go.Operand.const (Go.Value.int Go.IntKind.i64 5)) 3, type := 4, pos := "l2_type.go:375", after := #[{ on := 10, ground := Go.Ground.data }], guard := none }) (v := ?vg12) rfl (by kernel_rfl) (fun _ _ _ h => h) (Or.inr hHeld) (Or.inl ⟨by rfl, ?yg12⟩) ?_
        case yg12 => (intro wS _; go_simp <;> with_reducible rfl)
        try simp only [Act.put, List.setIfInBounds_toArray, List.set_cons_zero, List.set_cons_succ]
        refine wpG_done (by kernel_rfl) ?_
        go_wp2_with fail
        have HSc := Lib.hid HSb.out.drew
        go_roundw
        case rel => exact ⟨m, n, M, by omega, by omega, by omega, by go_num, HU, Lib.hid (HSc.out.more (by omega))⟩
        case measure => (simp [intOf]; try omega)
      have n5 : (y.kind == 5) = true := beq_iff_eq.2 h5
      clear h5
      go_wp2_with fail
      refine wp_region_G [] (fun w' => w'.cell? ⟨X, 0, none⟩ = some (.slice (some ⟨g, 0, none⟩) n cp) ∧ w'.cell? ⟨g, k * 6 + 4, none⟩ = some (.int .i64 (j : Int)) ∧ w'.cell? ⟨g, j * 6, none⟩ = some (.int .i64 y.kind)) (by kernel_rfl) ?_ (fun hHeld => ?_)
      · exact ⟨z0, t4, p0⟩
      refine wpG_pure (i := 0) (oi := { dst := some 55, op := Go.Op.fieldAddr 28 (Go.Operand.tmp 5) 0, type := 0, pos := "l2_type.go:375", after := #[], guard := none }) (v := ?vg13) rfl (by kernel_rfl) (fun _ _ _ h => h) (Or.inr hHeld) (Or.inl ⟨by rfl, ?yg13⟩) ?_
      case yg13 => (intro wS _; go_simp <;> with_reducible rfl)
      try simp only [Act.put, List.setIfInBounds_toArray, List.set_cons_zero, List.set_cons_succ]
      refine wpG_load (i := 1) (oi := { dst := some 56, op := Go.Op.load 26 (Go.Operand.tmp 55), type := 26, pos := "l2_type.go:375", after := #[{ on := 0, ground := Go.Ground.data }], guard := none }) (v := ?vg14) [] rfl (by kernel_rfl) (fun _ _ _ h => h) hHeld (Or.inl ⟨by rfl, ?yg14⟩) ?_
      case yg14 => (intro wS hSw; (try dsimp only at hSw); go_simp <;> with_reducible rfl)
      try simp only [Act.put, List.setIfInBounds_toArray, List.set_cons_zero, List.set_cons_succ]
      refine wpG_pure (i := 2) (oi := { dst := some 57, op := Go.Op.fieldAddr 28 (Go.Operand.tmp 5) 0, type := 0, pos := "l2_type.go:375", after := #[], guard := none }) (v := ?vg15) rfl (by kernel_rfl) (fun _ _ _ h => h) (Or.inr hHeld) (Or.inl ⟨by rfl, ?yg15⟩) ?_
      case yg15 => (intro wS _; go_simp <;> with_reducible rfl)
      try simp only [Act.put, List.setIfInBounds_toArray, List.set_cons_zero, List.set_cons_succ]
      refine wpG_load (i := 3) (oi := { dst := some 58, op := Go.Op.load 26 (Go.Operand.tmp 57), type := 26, pos := "l2_type.go:375", after := #[{ on := 2, ground := Go.Ground.data }], guard := none }) (v := ?vg16) [] rfl (by kernel_rfl) (fun _ _ _ h => h) hHeld (Or.inl ⟨by rfl, ?yg16⟩) ?_
      case yg16 => (intro wS hSw; (try dsimp only at hSw); go_simp <;> with_reducible rfl)
      try simp only [Act.put, List.setIfInBounds_toArray, List.set_cons_zero, List.set_cons_succ]
      refine wpG_pure (i := 4) (oi := { dst := some 59, op := Go.Op.move (Go.Operand.tmp 7), type := 3, pos := "l2_type.go:375", after := #[], guard := none }) (v := ?vg17) rfl (by kernel_rfl) (fun _ _ _ h => h) (Or.inr hHeld) (Or.inl ⟨by rfl, ?yg17⟩) ?_
      case yg17 => (intro wS _; go_simp <;> with_reducible rfl)
      try simp only [Act.put, List.setIfInBounds_toArray, List.set_cons_zero, List.set_cons_succ]
      refine wpG_pure (i := 5) (oi := { dst := some 60, op := Go.Op.indexAddr 26 (Go.Operand.tmp 58) (Go.Operand.tmp 59), type := 0, pos := "l2_type.go:375", after := #[{ on := 3, ground := Go.Ground.data }, { on := 4, ground := Go.Ground.data }], guard := none }) (v := ?vg18) rfl (by kernel_rfl) (fun _ _ _ h => h) (Or.inr hHeld) (Or.inl ⟨by rfl, ?yg18⟩) ?_
      case yg18 => (intro wS _; go_simp <;> with_reducible rfl)
      try simp only [Act.put, List.setIfInBounds_toArray, List.set_cons_zero, List.set_cons_succ]
      refine wpG_pure (i := 6) (oi := { dst := some 61, op := Go.Op.fieldAddr 85 (Go.Operand.tmp 60) 4, type := 0, pos := "l2_type.go:375", after := #[{ on := 5, ground := Go.Ground.data }], guard := none }) (v := ?vg19) rfl (by kernel_rfl) (fun _ _ _ h => h) (Or.inr hHeld) (Or.inl ⟨by rfl, ?yg19⟩) ?_
      case yg19 => (intro wS _; go_simp <;> with_reducible rfl)
      try simp only [Act.put, List.setIfInBounds_toArray, List.set_cons_zero, List.set_cons_succ]
      refine wpG_load (i := 7) (oi := { dst := some 62, op := Go.Op.load 3 (Go.Operand.tmp 61), type := 3, pos := "l2_type.go:375", after := #[{ on := 6, ground := Go.Ground.data }], guard := none }) (v := ?vg20) [] rfl (by kernel_rfl) (fun _ _ _ h => h) hHeld (Or.inl ⟨by rfl, ?yg20⟩) ?_
      case yg20 => (intro wS hSw; (try dsimp only at hSw); go_simp <;> with_reducible rfl)
      try simp only [Act.put, List.setIfInBounds_toArray, List.set_cons_zero, List.set_cons_succ]
      refine wpG_pure (i := 8) (oi := { dst := some 63, op := Go.Op.indexAddr 26 (Go.Operand.tmp 56) (Go.Operand.tmp 62), type := 0, pos := "l2_type.go:375", after := #[{ on := 1, ground := Go.Ground.data }, { on := 7, ground := Go.Ground.data }], guard := none }) (v := ?vg21) rfl (by kernel_rfl) (fun _ _ _ h => h) (Or.inr hHeld) (Or.inl ⟨by rfl, ?yg21⟩) ?_
      case yg21 => (intro wS _; go_simp <;> with_reducible rfl)
      try simp only [Act.put, List.setIfInBounds_toArray, List.set_cons_zero, List.set_cons_succ]
      refine wpG_pure (i := 9) (oi := { dst := some 64, op := Go.Op.fieldAddr 85 (Go.Operand.tmp 63) 0, type := 0, pos := "l2_type.go:375", after := #[{ on := 8, ground := Go.Ground.data }], guard := none }) (v := ?vg22) rfl (by kernel_rfl) (fun _ _ _ h => h) (Or.inr hHeld) (Or.inl ⟨by rfl, ?yg22⟩) ?_
      case yg22 => (intro wS _; go_simp <;> with_reducible rfl)
      try simp only [Act.put, List.setIfInBounds_toArray, List.set_cons_zero, List.set_cons_succ]
      refine wpG_load (i := 10) (oi := { dst := some 65, op := Go.Op.load 3 (Go.Operand.tmp 64), type := 3, pos := "l2_type.go:375", after := #[{ on := 9, ground := Go.Ground.data }], guard := none }) (v := ?vg23) [] rfl (by kernel_rfl) (fun _ _ _ h => h) hHeld (Or.inl ⟨by rfl, ?yg23⟩) ?_
      case yg23 => (intro wS hSw; (try dsimp only at hSw); go_simp <;> with_reducible rfl)
      try simp only [Act.put, List.setIfInBounds_toArray, List.set_cons_zero, List.set_cons_succ]
      refine wpG_pure (i := 11) (oi := { dst := some 66, op := Go.Op.binOp Go.BinOp.eql 3 (Go.Operand.tmp 65) (Go.Operand.const (Go.Value.int Go.IntKind.i64 5)) 3, type := 4, pos := "l2_type.go:375", after := #[{ on := 10, ground := Go.Ground.data }], guard := none }) (v := ?vg24) rfl (by kernel_rfl) (fun _ _ _ h => h) (Or.inr hHeld) (Or.inl ⟨by rfl, ?yg24⟩) ?_
      case yg24 => (intro wS _; go_simp <;> with_reducible rfl)
      try simp only [Act.put, List.setIfInBounds_toArray, List.set_cons_zero, List.set_cons_succ]
      refine wpG_done (by kernel_rfl) ?_
      have HSc := Lib.hid HSb.out.drew
      have y0 : wb.drew.cell? ⟨X, 0, none⟩ = some (.slice (some ⟨g, 0, none⟩) n cp) := z0
      have y3 : wb.drew.cell? ⟨g, k * 6 + 3, none⟩ = some (.bool x.must) := t3
      clear t0 t1 t2 t3 t4 t5 p0 z0 zf hHeld
      generalize wb.drew = wc at *
      have f3 := HSc.out.frz (k * 6 + 3)
      go_wp2_with fail
      refine wp_region_G [12] (fun w' => w'.cell? ⟨X, 0, none⟩ = some (.slice (some ⟨g, 0, none⟩) n cp) ∧ w'.cell? ⟨g, k * 6 + 3, none⟩ = some (.bool x.must)) (by kernel_rfl) ?_ (fun hHeld => ?_)
      · exact ⟨y0, y3⟩
      refine wpG_pure (i := 0) (oi := { dst := some 67, op := Go.Op.fieldAddr 28 (Go.Operand.tmp 5) 0, type := 0, pos := "l2_type.go:376", after := #[], guard := none }) (v := ?vg25) rfl (by kernel_rfl) (fun _ _ _ h => h) (Or.inr hHeld) (Or.inl ⟨by rfl, ?yg25⟩) ?_
      case yg25 => (intro wS _; go_simp <;> with_reducible rfl)
      try simp only [Act.put, List.setIfInBounds_toArray, List.set_cons_zero, List.set_cons_succ]
      refine wpG_load (i := 1) (oi := { dst := some 68, op := Go.Op.load 26 (Go.Operand.tmp 67), type := 26, pos := "l2_type.go:376", after := #[{ on := 0, ground := Go.Ground.data }], guard := none }) (v := ?vg26) [[12, 1]] rfl (by kernel_rfl) (fun _ _ _ h => h) hHeld (Or.inl ⟨by rfl, ?yg26⟩) ?_
      case yg26 => (intro wS hSw; (try dsimp only at hSw); go_simp <;> with_reducible rfl)
      try simp only [Act.put, List.setIfInBounds_toArray, List.set_cons_zero, List.set_cons_succ]
      refine wpG_pure (i := 2) (oi := { dst := some 69, op := Go.Op.move (Go.Operand.tmp 7), type := 3, pos := "l2_type.go:376", after := #[], guard := none }) (v := ?vg27) rfl (by kernel_rfl) (fun _ _ _ h => h) (Or.inr hHeld) (Or.inl ⟨by rfl, ?yg27⟩) ?_
      case yg27 => (intro wS _; go_simp <;> with_reducible rfl)
      try simp only [Act.put, List.setIfInBounds_toArray, List.set_cons_zero, List.set_cons_succ]
      refine wpG_pure (i := 3) (oi := { dst := some 70, op := Go.Op.fieldAddr 28 (Go.Operand.tmp 5) 0, type := 0, pos := "l2_type.go:376", after := #[], guard := none }) (v := ?vg28) rfl (by kernel_rfl) (fun _ _ _ h => h) (Or.inr hHeld) (Or.inl ⟨by rfl, ?yg28⟩) ?_
      case yg28 => (intro wS _; go_simp <;> with_reducible rfl)
      try simp only [Act.put, List.setIfInBounds_toArray, List.set_cons_zero, List.set_cons_succ]
      refine wpG_load (i := 4) (oi := { dst := some 71, op := Go.Op.load 26 (Go.Operand.tmp 70), type := 26, pos := "l2_type.go:376", after := #[{ on := 3, ground := Go.Ground.data }], guard := none }) (v := ?vg29) [[12, 4]] rfl (by kernel_rfl) (fun _ _ _ h => h) hHeld (Or.inl ⟨by rfl, ?yg29⟩) ?_
      case yg29 => (intro wS hSw; (try dsimp only at hSw); go_simp <;> with_reducible rfl)
      try simp only [Act.put, List.setIfInBounds_toArray, List.set_cons_zero, List.set_cons_succ]
      refine wpG_pure (i := 5) (oi := { dst := some 72, op := Go.Op.move (Go.Operand.tmp 7), type := 3, pos := "l2_type.go:376", after := #[], guard := none }) (v := ?vg30) rfl (by kernel_rfl) (fun _ _ _ h => h) (Or.inr hHeld) (Or.inl ⟨by rfl, ?yg30⟩) ?_
      case yg30 => (intro wS _; go_simp <;> with_reducible rfl)
      try simp only [Act.put, List.setIfInBounds_toArray, List.set_cons_zero, List.set_cons_succ]
      refine wpG_pure (i := 6) (oi := { dst := some 73, op := Go.Op.indexAddr 26 (Go.Operand.tmp 71) (Go.Operand.tmp 72), type := 0, pos := "l2_type.go:376", after := #[{ on := 4, ground := Go.Ground.data }, { on := 5, ground := Go.Ground.data }], guard := none }) (v := ?vg31) rfl (by kernel_rfl) (fun _ _ _ h => h) (Or.inr hHeld) (Or.inl ⟨by rfl, ?yg31⟩) ?_
      case yg31 => (intro wS _; go_simp <;> with_reducible rfl)
      try simp only [Act.put, List.setIfInBounds_toArray, List.set_cons_zero, List.set_cons_succ]
      refine wpG_pure (i := 7) (oi := { dst := some 74, op := Go.Op.fieldAddr 85 (Go.Operand.tmp 73) 3, type := 0, pos := "l2_type.go:376", after := #[{ on := 6, ground := Go.Ground.data }], guard := none }) (v := ?vg32) rfl (by kernel_rfl) (fun _ _ _ h => h) (Or.inr hHeld) (Or.inl ⟨by rfl, ?yg32⟩) ?_
      case yg32 => (intro wS _; go_simp <;> with_reducible rfl)
      try simp only [Act.put, List.setIfInBounds_toArray, List.set_cons_zero, List.set_cons_succ]
      refine wpG_load (i := 8) (oi := { dst := some 75, op := Go.Op.load 4 (Go.Operand.tmp 74), type := 4, pos := "l2_type.go:376", after := #[{ on := 7, ground := Go.Ground.data }], guard := none }) (v := ?vg33) [[12, 8]] rfl (by kernel_rfl) (fun _ _ _ h => h) hHeld (Or.inl ⟨by rfl, ?yg33⟩) ?_
      case yg33 => (intro wS hSw; (try dsimp only at hSw); go_simp <;> with_reducible rfl)
      try simp only [Act.put, List.setIfInBounds_toArray, List.set_cons_zero, List.set_cons_succ]
      refine wpG_pure (i := 9) (oi := { dst := some 76, op := Go.Op.unOp Go.UnOp.not 4 (Go.Operand.tmp 75), type := 4, pos := "l2_type.go:376", after := #[{ on := 8, ground := Go.Ground.data }], guard := none }) (v := ?vg34) rfl (by kernel_rfl) (fun _ _ _ h => h) (Or.inr hHeld) (Or.inl ⟨by rfl, ?yg34⟩) ?_
      case yg34 => (intro wS _; go_simp <;> with_reducible rfl)
      try simp only [Act.put, List.setIfInBounds_toArray, List.set_cons_zero, List.set_cons_succ]
      refine wpG_pure (i := 10) (oi := { dst := some 77, op := Go.Op.indexAddr 26 (Go.Operand.tmp 68) (Go.Operand.tmp 69), type := 0, pos := "l2_type.go:376", after := #[{ on := 1, ground := Go.Ground.data }, { on := 2, ground := Go.Ground.data }, { on := 0, ground := Go.Ground.phase }, { on := 1, ground := Go.Ground.phase }, { on := 2, ground := Go.Ground.phase }, { on := 3, ground := Go.Ground.phase }, { on := 4, ground := Go.Ground.phase }, { on := 5, ground := Go.Ground.phase }, { on := 6, ground := Go.Ground.phase }, { on := 7, ground := Go.Ground.phase }, { on := 8, ground := Go.Ground.phase }, { on := 9, ground := Go.Ground.phase }], guard := none }) (v := ?vg35) rfl (by kernel_rfl) (fun _ _ _ h => h) (Or.inr hHeld) (Or.inl ⟨by rfl, ?yg35⟩) ?_
      case yg35 => (intro wS _; go_simp <;> with_reducible rfl)
      try simp only [Act.put, List.setIfInBounds_toArray, List.set_cons_zero, List.set_cons_succ]
      refine wpG_pure (i := 11) (oi := { dst := some 78, op := Go.Op.fieldAddr 85 (Go.Operand.tmp 77) 3, type := 0, pos := "l2_type.go:376", after := #[{ on := 10, ground := Go.Ground.data }, { on := 0, ground := Go.Ground.phase }, { on := 1, ground := Go.Ground.phase }, { on := 2, ground := Go.Ground.phase }, { on := 3, ground := Go.Ground.phase }, { on := 4, ground := Go.Ground.phase }, { on := 5, ground := Go.Ground.phase }, { on := 6, ground := Go.Ground.phase }, { on := 7, ground := Go.Ground.phase }, { on := 8, ground := Go.Ground.phase }, { on := 9, ground := Go.Ground.phase }], guard := none }) (v := ?vg36) rfl (by kernel_rfl) (fun _ _ _ h => h) (Or.inr hHeld) (Or.inl ⟨by rfl, ?yg36⟩) ?_
      case yg36 => (intro wS _; go_simp <;> with_reducible rfl)
      try simp only [Act.put, List.setIfInBounds_toArray, List.set_cons_zero, List.set_cons_succ]
      refine wpG_one (i := 12) (o := { dst := none, op := Go.Op.store 4 (Go.Operand.tmp 78) (Go.Operand.tmp 76), type := 0, pos := "l2_type.go:376", after := #[{ on := 11, ground := Go.Ground.data }, { on := 9, ground := Go.Ground.data }, { on := 0, ground := Go.Ground.phase }, { on := 1, ground := Go.Ground.phase }, { on := 2, ground := Go.Ground.phase }, { on := 3, ground := Go.Ground.phase }, { on := 4, ground := Go.Ground.phase }, { on := 5, ground := Go.Ground.phase }, { on := 6, ground := Go.Ground.phase }, { on := 7, ground := Go.Ground.phase }, { on := 8, ground := Go.Ground.phase }, { on := 9, ground := Go.Ground.phase }], guard := none }) rfl (by kernel_rfl) (fun K hK => ?_)
      have f4 := HSc.out.drew.frz (k * 6 + 3)
      go_simp
      refine hK.out _ _ (Or.inl (by kernel_rfl)) (fun _ => ?_)
      clear hK K
      try simp only [Act.put, List.setIfInBounds_toArray, List.set_cons_zero, List.set_cons_succ]
      refine wpG_done (by kernel_rfl) ?_
      skip
      have HSd := Lib.hid ((HSc.out.putMust HX.out (!x.must)).drew)
      have HU2 := Lib.hid (up_set HU.out HX.out (y := x.atMust (!x.must)) rfl)
      go_wp2_with fail
      go_roundw
      case rel => exact ⟨m, n, (M.set k (x.atMust (!x.must))), by omega, by omega, by omega, by go_num, HU2, Lib.hid (HSd.out.more (by omega))⟩
      case measure => (simp [intOf]; try omega)
    by_cases q1 : q = 1
    · subst q1
      clear q0
      cases h3 : (x.kind == 3) with
      | false =>
        go_wp2_with fail
        go_roundw
        case rel => exact ⟨m, n, M, by omega, by omega, by omega, by go_num, HU, Lib.hid (HSb.out.more (by omega))⟩
        case measure => (simp [intOf]; try omega)
      | true =>
      have HPQ := Lib.hid (fun wx (hx : PC wx B (K + 2 + 6 * (2 - (m + 1)) + 2 + 2)) => cur_pick B (K + 2 + 6 * (2 - (m + 1)) + 2 + 2) 5 wx hx (by omega) (by omega))
      go_wp2_with fail
      refine wp_region_G [7] (fun w' => w'.cell? ⟨X, 0, none⟩ = some (.slice (some ⟨g, 0, none⟩) n cp)) (by kernel_rfl) ?_ (fun hHeld => ?_)
      · exact z0
      refine wpG_pure (i := 0) (oi := { dst := some 88, op := Go.Op.fieldAddr 28 (Go.Operand.tmp 5) 0, type := 0, pos := "l2_type.go:380", after := #[], guard := none }) (v := ?vg38) rfl (by kernel_rfl) (fun _ _ _ h => h) (Or.inr hHeld) (Or.inl ⟨by rfl, ?yg38⟩) ?_
      case yg38 => (intro wS _; go_simp <;> with_reducible rfl)
      try simp only [Act.put, List.setIfInBounds_toArray, List.set_cons_zero, List.set_cons_succ]
      refine wpG_load (i := 1) (oi := { dst := some 89, op := Go.Op.load 26 (Go.Operand.tmp 88), type := 26, pos := "l2_type.go:380", after := #[{ on := 0, ground := Go.Ground.data }], guard := none }) (v := ?vg39) [[7, 1]] rfl (by kernel_rfl) (fun _ _ _ h => h) hHeld (Or.inl ⟨by rfl, ?yg39⟩) ?_
      case yg39 => (intro wS hSw; (try dsimp only at hSw); go_simp <;> with_reducible rfl)
      try simp only [Act.put, List.setIfInBounds_toArray, List.set_cons_zero, List.set_cons_succ]
      refine wpG_pure (i := 2) (oi := { dst := some 90, op := Go.Op.move (Go.Operand.tmp 7), type := 3, pos := "l2_type.go:380", after := #[], guard := none }) (v := ?vg40) rfl (by kernel_rfl) (fun _ _ _ h => h) (Or.inr hHeld) (Or.inl ⟨by rfl, ?yg40⟩) ?_
      case yg40 => (intro wS _; go_simp <;> with_reducible rfl)
      try simp only [Act.put, List.setIfInBounds_toArray, List.set_cons_zero, List.set_cons_succ]
      refine wpG_pure (i := 3) (oi := { dst := some 91, op := Go.Op.move (Go.Operand.tmp 0), type := 72, pos := "l2_type.go:380", after := #[], guard := none }) (v := ?vg41) rfl (by kernel_rfl) (fun _ _ _ h => h) (Or.inr hHeld) (Or.inl ⟨by rfl, ?yg41⟩) ?_
      case yg41 => (intro wS _; go_simp <;> with_reducible rfl)
      try simp only [Act.put, List.setIfInBounds_toArray, List.set_cons_zero, List.set_cons_succ]
      refine wpG_one (i := 4) (o := { dst := some 92, op := Go.Op.call { callee := Go.Callee.value (Go.Operand.func 49), args := #[Go.Operand.tmp 91, Go.Operand.const (Go.Value.int Go.IntKind.i64 5)], argTypes := #[72, 3] }, type := 3, pos := "l2_type.go:380", after := #[{ on := 3, ground := Go.Ground.data }], guard := none }) rfl (by kernel_rfl) (fun K hK => ?_)
      go_simp
      refine (HPQ.out _ HSb.out.drew.cur).mono ?_
      rintro e wc ⟨r6, rfl, hr6, hp6, hw6⟩
      have HSc := Lib.hid (HSb.out.drew.wrote hw6 hp6)
      have y0 := HSc.out.cell
      obtain ⟨b0, b1, b2, b3, b4, b5⟩ := HSc.out.at HX.out
      clear hp6 hw6
      refine hK.out _ _ (Or.inr ?khHeld42) (fun hHeld42S => ?_)
      case khHeld42 => exact y0
      have hHeld42 := hHeld42S.held (by kernel_rfl)
      clear hK K
      try simp only [Act.put, List.setIfInBounds_toArray, List.set_cons_zero, List.set_cons_succ]
      refine wpG_pure (i := 5) (oi := { dst := some 93, op := Go.Op.indexAddr 26 (Go.Operand.tmp 89) (Go.Operand.tmp 90), type := 0, pos := "l2_type.go:380", after := #[{ on := 1, ground := Go.Ground.data }, { on := 2, ground := Go.Ground.data }, { on := 0, ground := Go.Ground.phase }, { on := 1, ground := Go.Ground.phase }, { on := 2, ground := Go.Ground.phase }, { on := 3, ground := Go.Ground.phase }, { on := 4, ground := Go.Ground.phase }], guard := none }) (v := ?vg43) rfl (by kernel_rfl) (fun _ _ _ h => h) (Or.inr hHeld42) (Or.inl ⟨by rfl, ?yg43⟩) ?_
      case yg43 => (intro wS _; go_simp <;> with_reducible rfl)
      try simp only [Act.put, List.setIfInBounds_toArray, List.set_cons_zero, List.set_cons_succ]
      refine wpG_pure (i := 6) (oi := { dst := some 94, op := Go.Op.fieldAddr 85 (Go.Operand.tmp 93) 5, type := 0, pos := "l2_type.go:380", after := #[{ on := 5, ground := Go.Ground.data }, { on := 0, ground := Go.Ground.phase }, { on := 1, ground := Go.Ground.phase }, { on := 2, ground := Go.Ground.phase }, { on := 3, ground := Go.Ground.phase }, { on := 4, ground := Go.Ground.phase }], guard := none }) (v := ?vg44) rfl (by kernel_rfl) (fun _ _ _ h => h) (Or.inr hHeld42) (Or.inl ⟨by rfl, ?yg44⟩) ?_
      case yg44 => (intro wS _; go_simp <;> with_reducible rfl)
      try simp only [Act.put, List.setIfInBounds_toArray, List.set_cons_zero, List.set_cons_succ]
      refine wpG_one (i := 7) (o := { dst := none, op := Go.Op.store 3 (Go.Operand.tmp 94) (Go.Operand.tmp 92), type := 0, pos := "l2_type.go:380", after := #[{ on := 6, ground := Go.Ground.data }, { on := 4, ground := Go.Ground.data }, { on := 4, ground := Go.Ground.chain }, { on := 0, ground := Go.Ground.phase }, { on := 1, ground := Go.Ground.phase }, { on := 2, ground := Go.Ground.phase }, { on := 3, ground := Go.Ground.phase }, { on := 4, ground := Go.Ground.phase }], guard := none }) rfl (by kernel_rfl) (fun K hK => ?_)
      have f6 := HSc.out.frz (k * 6 + 5)
      go_simp
      refine hK.out _ _ (Or.inl (by kernel_rfl)) (fun _ => ?_)
      clear hK K
      try simp only [Act.put, List.setIfInBounds_toArray, List.set_cons_zero, List.set_cons_succ]
      refine wpG_done (by kernel_rfl) ?_
      skip
      have HSd := Lib.hid (HSc.out.putMost HX.out (r6 : Int))
      have HU2 := Lib.hid (up_set HU.out HX.out (y := x.atMost (r6 : Int)) rfl)
      go_wp2_with fail
      go_roundw
      case rel => exact ⟨m, n, (M.set k (x.atMost (r6 : Int))), by omega, by omega, by omega, by go_num, HU2, Lib.hid (HSd.out.more (by omega))⟩
      case measure => (simp [intOf]; try omega)
    have q2 : q = 2 := by omega
    subst q2
    clear q0 q1
    have hw1n : IntKind.i64.wrap ((n : Int) - 1) = (n : Int) - 1 := IntWalk.i64_in _ (by omega)
    by_cases hlast : (k : Int) = (n : Int) - 1
    case neg =>
      have e2 : ((k : Int) == (n : Int) - 1) = false := beq_eq_false_iff_ne.2 hlast
      clear hlast
      go_wp2_with fail
      refine wp_region_G [] (fun w' => w'.cell? ⟨X, 0, none⟩ = some (.slice (some ⟨g, 0, none⟩) n cp)) (by kernel_rfl) ?_ (fun hHeld => ?_)
      · exact z0
      refine wpG_pure (i := 0) (oi := { dst := some 28, op := Go.Op.move (Go.Operand.tmp 7), type := 3, pos := "l2_type.go:383", after := #[], guard := none }) (v := ?vg46) rfl (by kernel_rfl) (fun _ _ _ h => h) (Or.inr hHeld) (Or.inl ⟨by rfl, ?yg46⟩) ?_
      case yg46 => (intro wS _; go_simp <;> with_reducible rfl)
      try simp only [Act.put, List.setIfInBounds_toArray, List.set_cons_zero, List.set_cons_succ]
      refine wpG_pure (i := 1) (oi := { dst := some 29, op := Go.Op.fieldAddr 28 (Go.Operand.tmp 5) 0, type := 0, pos := "l2_type.go:383", after := #[], guard := none }) (v := ?vg47) rfl (by kernel_rfl) (fun _ _ _ h => h) (Or.inr hHeld) (Or.inl ⟨by rfl, ?yg47⟩) ?_
      case yg47 => (intro wS _; go_simp <;> with_reducible rfl)
      try simp only [Act.put, List.setIfInBounds_toArray, List.set_cons_zero, List.set_cons_succ]
      refine wpG_load (i := 2) (oi := { dst := some 30, op := Go.Op.load 26 (Go.Operand.tmp 29), type := 26, pos := "l2_type.go:383", after := #[{ on := 1, ground := Go.Ground.data }], guard := none }) (v := ?vg48) [] rfl (by kernel_rfl) (fun _ _ _ h => h) hHeld (Or.inl ⟨by rfl, ?yg48⟩) ?_
      case yg48 => (intro wS hSw; (try dsimp only at hSw); go_simp <;> with_reducible rfl)
      try simp only [Act.put, List.setIfInBounds_toArray, List.set_cons_zero, List.set_cons_succ]
      refine wpG_pure (i := 3) (oi := { dst := some 31, op := Go.Op.call { callee := Go.Callee.builtin Go.Builtin.len, args := #[Go.Operand.tmp 30], argTypes := #[26] }, type := 3, pos := "l2_type.go:383", after := #[{ on := 2, ground := Go.Ground.data }], guard := none }) (v := ?vg49) rfl (by kernel_rfl) (fun _ _ _ h => h) (Or.inr hHeld) (Or.inl ⟨by rfl, ?yg49⟩) ?_
      case yg49 => (intro wS _; go_simp <;> with_reducible rfl)
      try simp only [Act.put, List.setIfInBounds_toArray, List.set_cons_zero, List.set_cons_succ]
      refine wpG_pure (i := 4) (oi := { dst := some 32, op := Go.Op.binOp Go.BinOp.sub 3 (Go.Operand.tmp 31) (Go.Operand.const (Go.Value.int Go.IntKind.i64 1)) 3, type := 3, pos := "l2_type.go:383", after := #[{ on := 3, ground := Go.Ground.data }], guard := none }) (v := ?vg50) rfl (by kernel_rfl) (fun _ _ _ h => h) (Or.inr hHeld) (Or.inl ⟨by rfl, ?yg50⟩) ?_
      case yg50 => (intro wS _; go_simp <;> with_reducible rfl)
      try simp only [Act.put, List.setIfInBounds_toArray, List.set_cons_zero, List.set_cons_succ]
      refine wpG_pure (i := 5) (oi := { dst := some 33, op := Go.Op.binOp Go.BinOp.eql 3 (Go.Operand.tmp 28) (Go.Operand.tmp 32) 3, type := 4, pos := "l2_type.go:383", after := #[{ on := 0, ground := Go.Ground.data }, { on := 4, ground := Go.Ground.data }], guard := none }) (v := ?vg51) rfl (by kernel_rfl) (fun _ _ _ h => h) (Or.inr hHeld) (Or.inl ⟨by rfl, ?yg51⟩) ?_
      case yg51 => (intro wS _; go_simp <;> with_reducible rfl)
      try simp only [Act.put, List.setIfInBounds_toArray, List.set_cons_zero, List.set_cons_succ]
      refine wpG_pure (i := 6) (oi := { dst := some 34, op := Go.Op.move (Go.Operand.tmp 33), type := 4, pos := "l2_type.go:383", after := #[{ on := 5, ground := Go.Ground.data }], guard := none }) (v := ?vg52) rfl (by kernel_rfl) (fun _ _ _ h => h) (Or.inr hHeld) (Or.inl ⟨by rfl, ?yg52⟩) ?_
      case yg52 => (intro wS _; go_simp <;> with_reducible rfl)
      try simp only [Act.put, List.setIfInBounds_toArray, List.set_cons_zero, List.set_cons_succ]
      refine wpG_pure (i := 7) (oi := { dst := some 35, op := Go.Op.fieldAddr 28 (Go.Operand.tmp 5) 0, type := 0, pos := "l2_type.go:383", after := #[{ on := 6, ground := Go.Ground.guard }], guard := some (6, true) }) (v := undef) rfl (by kernel_rfl) (fun _ _ _ h => h) (Or.inr hHeld) (Or.inr ⟨by rfl, rfl⟩) ?_
      try simp only [Act.put, List.setIfInBounds_toArray, List.set_cons_zero, List.set_cons_succ]
      refine wpG_pure (i := 8) (oi := { dst := some 36, op := Go.Op.load 26 (Go.Operand.tmp 35), type := 26, pos := "l2_type.go:383", after := #[{ on := 7, ground := Go.Ground.data }, { on := 6, ground := Go.Ground.guard }], guard := some (6, true) }) (v := undef) rfl (by kernel_rfl) (fun _ _ _ h => h) (Or.inr hHeld) (Or.inr ⟨by rfl, rfl⟩) ?_
      try simp only [Act.put, List.setIfInBounds_toArray, List.set_cons_zero, List.set_cons_succ]
      refine wpG_pure (i := 9) (oi := { dst := some 37, op := Go.Op.fieldAddr 28 (Go.Operand.tmp 5) 0, type := 0, pos := "l2_type.go:383", after := #[{ on := 6, ground := Go.Ground.guard }], guard := some (6, true) }) (v := undef) rfl (by kernel_rfl) (fun _ _ _ h => h) (Or.inr hHeld) (Or.inr ⟨by rfl, rfl⟩) ?_
      try simp only [Act.put, List.setIfInBounds_toArray, List.set_cons_zero, List.set_cons_succ]
      refine wpG_pure (i := 10) (oi := { dst := some 38, op := Go.Op.load 26 (Go.Operand.tmp 37), type := 26, pos := "l2_type.go:383", after := #[{ on := 9, ground := Go.Ground.data }, { on := 6, ground := Go.Ground.guard }], guard := some (6, true) }) (v := undef) rfl (by kernel_rfl) (fun _ _ _ h => h) (Or.inr hHeld) (Or.inr ⟨by rfl, rfl⟩) ?_
      try simp only [Act.put, List.setIfInBounds_toArray, List.set_cons_zero, List.set_cons_succ]
      refine wpG_pure (i := 11) (oi := { dst := some 39, op := Go.Op.move (Go.Operand.tmp 7), type := 3, pos := "l2_type.go:383", after := #[{ on := 6, ground := Go.Ground.guard }], guard := some (6, true) }) (v := undef) rfl (by kernel_rfl) (fun _ _ _ h => h) (Or.inr hHeld) (Or.inr ⟨by rfl, rfl⟩) ?_
      try simp only [Act.put, List.setIfInBounds_toArray, List.set_cons_zero, List.set_cons_succ]
      refine wpG_pure (i := 12) (oi := { dst := some 40, op := Go.Op.indexAddr 26 (Go.Operand.tmp 38) (Go.Operand.tmp 39), type := 0, pos := "l2_type.go:383", after := #[{ on := 10, ground := Go.Ground.data }, { on := 11, ground := Go.Ground.data }, { on := 6, ground := Go.Ground.guard }], guard := some (6, true) }) (v := undef) rfl (by kernel_rfl) (fun _ _ _ h => h) (Or.inr hHeld) (Or.inr ⟨by rfl, rfl⟩) ?_
      try simp only [Act.put, List.setIfInBounds_toArray, List.set_cons_zero, List.set_cons_succ]
      refine wpG_pure (i := 13) (oi := { dst := some 41, op := Go.Op.fieldAddr 85 (Go.Operand.tmp 40) 4, type := 0, pos := "l2_type.go:383", after := #[{ on := 12, ground := Go.Ground.data }, { on := 6, ground := Go.Ground.guard }], guard := some (6, true) }) (v := undef) rfl (by kernel_rfl) (fun _ _ _ h => h) (Or.inr hHeld) (Or.inr ⟨by rfl, rfl⟩) ?_
      try simp only [Act.put, List.setIfInBounds_toArray, List.set_cons_zero, List.set_cons_succ]
      refine wpG_pure (i := 14) (oi := { dst := some 42, op := Go.Op.load 3 (Go.Operand.tmp 41), type := 3, pos := "l2_type.go:383", after := #[{ on := 13, ground := Go.Ground.data }, { on := 6, ground := Go.Ground.guard }], guard := some (6, true) }) (v := undef) rfl (by kernel_rfl) (fun _ _ _ h => h) (Or.inr hHeld) (Or.inr ⟨by rfl, rfl⟩) ?_
      try simp only [Act.put, List.setIfInBounds_toArray, List.set_cons_zero, List.set_cons_succ]
      refine wpG_pure (i := 15) (oi := { dst := some 43, op := Go.Op.indexAddr 26 (Go.Operand.tmp 36) (Go.Operand.tmp 42), type := 0, pos := "l2_type.go:383", after := #[{ on := 8, ground := Go.Ground.data }, { on := 14, ground := Go.Ground.data }, { on := 6, ground := Go.Ground.guard }], guard := some (6, true) }) (v := undef) rfl (by kernel_rfl) (fun _ _ _ h => h) (Or.inr hHeld) (Or.inr ⟨by rfl, rfl⟩) ?_
      try simp only [Act.put, List.setIfInBounds_toArray, List.set_cons_zero, List.set_cons_succ]
      refine wpG_pure (i := 16) (oi := { dst := some 44, op := Go.Op.fieldAddr 85 (Go.Operand.tmp 43) 0, type := 0, pos := "l2_type.go:383", after := #[{ on := 15, ground := Go.Ground.data }, { on := 6, ground := Go.Ground.guard }], guard := some (6, true) }) (v := undef) rfl (by kernel_rfl) (fun _ _ _ h => h) (Or.inr hHeld) (Or.inr ⟨by rfl, rfl⟩) ?_
      try simp only [Act.put, List.setIfInBounds_toArray, List.set_cons_zero, List.set_cons_succ]
      refine wpG_pure (i := 17) (oi := { dst := some 45, op := Go.Op.load 3 (Go.Operand.tmp 44), type := 3, pos := "l2_type.go:383", after := #[{ on := 16, ground := Go.Ground.data }, { on := 6, ground := Go.Ground.guard }], guard := some (6, true) }) (v := undef) rfl (by kernel_rfl) (fun _ _ _ h => h) (Or.inr hHeld) (Or.inr ⟨by rfl, rfl⟩) ?_
      try simp only [Act.put, List.setIfInBounds_toArray, List.set_cons_zero, List.set_cons_succ]
      refine wpG_pure (i := 18) (oi := { dst := some 46, op := Go.Op.binOp Go.BinOp.eql 3 (Go.Operand.tmp 45) (Go.Operand.const (Go.Value.int Go.IntKind.i64 5)) 3, type := 4, pos := "l2_type.go:383", after := #[{ on := 17, ground := Go.Ground.data }, { on := 6, ground := Go.Ground.guard }], guard := some (6, true) }) (v := undef) rfl (by kernel_rfl) (fun _ _ _ h => h) (Or.inr hHeld) (Or.inr ⟨by rfl, rfl⟩) ?_
      try simp only [Act.put, List.setIfInBounds_toArray, List.set_cons_zero, List.set_cons_succ]
      refine wpG_pure (i := 19) (oi := { dst := some 47, op := Go.Op.pick (Go.Operand.tmp 34) (Go.Operand.tmp 46) (Go.Operand.const (Go.Value.bool false)), type := 4, pos := "l2_type.go:383", after := #[{ on := 6, ground := Go.Ground.data }, { on := 18, ground := Go.Ground.data }], guard := none }) (v := ?vg65) rfl (by kernel_rfl) (fun _ _ _ h => h) (Or.inr hHeld) (Or.inl ⟨by rfl, ?yg65⟩) ?_
      case yg65 => (intro wS _; go_simp <;> with_reducible rfl)
      try simp only [Act.put, List.setIfInBounds_toArray, List.set_cons_zero, List.set_cons_succ]
      refine wpG_done (by kernel_rfl) ?_
      have HSc := Lib.hid HSb.out.drew
      go_wp2_with fail
      go_roundw
      case rel => exact ⟨m, n, M, by omega, by omega, by omega, by go_num, HU, Lib.hid (HSc.out.more (by omega))⟩
      case measure => (simp [intOf]; try omega)
    have e2 : ((k : Int) == (n : Int) - 1) = true := beq_iff_eq.2 hlast
    clear hlast
    by_cases h5 : y.kind = 5
    case neg =>
      have n5 : (y.kind == 5) = false := beq_eq_false_iff_ne.2 h5
      clear h5
      go_wp2_with fail
      refine wp_region_G [] (fun w' => w'.cell? ⟨X, 0, none⟩ = some (.slice (some ⟨g, 0, none⟩) n cp) ∧ w'.cell? ⟨g, k * 6 + 4, none⟩ = some (.int .i64 (j : Int)) ∧ w'.cell? ⟨g, j * 6, none⟩ = some (.int .i64 y.kind)) (by kernel_rfl) ?_ (fun hHeld => ?_)
      · exact ⟨z0, t4, p0⟩
      refine wpG_pure (i := 0) (oi := { dst := some 28, op := Go.Op.move (Go.Operand.tmp 7), type := 3, pos := "l2_type.go:383", after := #[], guard := none }) (v := ?vg66) rfl (by kernel_rfl) (fun _ _ _ h => h) (Or.inr hHeld) (Or.inl ⟨by rfl, ?yg66⟩) ?_
      case yg66 => (intro wS _; go_simp <;> with_reducible rfl)
      try simp only [Act.put, List.setIfInBounds_toArray, List.set_cons_zero, List.set_cons_succ]
      refine wpG_pure (i := 1) (oi := { dst := some 29, op := Go.Op.fieldAddr 28 (Go.Operand.tmp 5) 0, type := 0, pos := "l2_type.go:383", after := #[], guard := none }) (v := ?vg67) rfl (by kernel_rfl) (fun _ _ _ h => h) (Or.inr hHeld) (Or.inl ⟨by rfl, ?yg67⟩) ?_
      case yg67 => (intro wS _; go_simp <;> with_reducible rfl)
      try simp only [Act.put, List.setIfInBounds_toArray, List.set_cons_zero, List.set_cons_succ]
      refine wpG_load (i := 2) (oi := { dst := some 30, op := Go.Op.load 26 (Go.Operand.tmp 29), type := 26, pos := "l2_type.go:383", after := #[{ on := 1, ground := Go.Ground.data }], guard := none }) (v := ?vg68) [] rfl (by kernel_rfl) (fun _ _ _ h => h) hHeld (Or.inl ⟨by rfl, ?yg68⟩) ?_
      case yg68 => (intro wS hSw; (try dsimp only at hSw); go_simp <;> with_reducible rfl)
      try simp only [Act.put, List.setIfInBounds_toArray, List.set_cons_zero, List.set_cons_succ]
      refine wpG_pure (i := 3) (oi := { dst := some 31, op := Go.Op.call { callee := Go.Callee.builtin Go.Builtin.len, args := #[Go.Operand.tmp 30], argTypes := #[26] }, type := 3, pos := "l2_type.go:383", after := #[{ on := 2, ground := Go.Ground.data }], guard := none }) (v := ?vg69) rfl (by kernel_rfl) (fun _ _ _ h => h) (Or.inr hHeld) (Or.inl ⟨by rfl, ?yg69⟩) ?_
      case yg69 => (intro wS _; go_simp <;> with_reducible rfl)
      try simp only [Act.put, List.setIfInBounds_toArray, List.set_cons_zero, List.set_cons_succ]
      refine wpG_pure (i := 4) (oi := { dst := some 32, op := Go.Op.binOp Go.BinOp.sub 3 (Go.Operand.tmp 31) (Go.Operand.const (Go.Value.int Go.IntKind.i64 1)) 3, type := 3, pos := "l2_type.go:383", after := #[{ on := 3, ground := Go.Ground.data }], guard := none }) (v := ?vg70) rfl (by kernel_rfl) (fun _ _ _ h => h) (Or.inr hHeld) (Or.inl ⟨by rfl, ?yg70⟩) ?_
      case yg70 => (intro wS _; go_simp <;> with_reducible rfl)
      try simp only [Act.put, List.setIfInBounds_toArray, List.set_cons_zero, List.set_cons_succ]
      refine wpG_pure (i := 5) (oi := { dst := some 33, op := Go.Op.binOp Go.BinOp.eql 3 (Go.Operand.tmp 28) (Go.Operand.tmp 32) 3, type := 4, pos := "l2_type.go:383", after := #[{ on := 0, ground := Go.Ground.data }, { on := 4, ground := Go.Ground.data }], guard := none }) (v := ?vg71) rfl (by kernel_rfl) (fun _ _ _ h => h) (Or.inr hHeld) (Or.inl ⟨by rfl, ?yg71⟩) ?_
      case yg71 => (intro wS _; go_simp <;> with_reducible rfl)
      try simp only [Act.put, List.setIfInBounds_toArray, List.set_cons_zero, List.set_cons_succ]
      refine wpG_pure (i := 6) (oi := { dst := some 34, op := Go.Op.move (Go.Operand.tmp 33), type := 4, pos := "l2_type.go:383", after := #[{ on := 5, ground := Go.Ground.data }], guard := none }) (v := ?vg72) rfl (by kernel_rfl) (fun _ _ _ h => h) (Or.inr hHeld) (Or.inl ⟨by rfl, ?yg72⟩) ?_
      case yg72 => (intro wS _; go_simp <;> with_reducible rfl)
      try simp only [Act.put, List.setIfInBounds_toArray, List.set_cons_zero, List.set_cons_succ]
      refine wpG_pure (i := 7) (oi := { dst := some 35, op := Go.Op.fieldAddr 28 (Go.Operand.tmp 5) 0, type := 0, pos := "l2_type.go:383", after := #[{ on := 6, ground := Go.Ground.guard }], guard := some (6, true) }) (v := ?vg73) rfl (by kernel_rfl) (fun _ _ _ h => h) (Or.inr hHeld) (Or.inl ⟨by rfl, ?yg73⟩) ?_
      case yg73 => (intro wS _; go_simp <;> with_reducible rfl)
      try simp only [Act.put, List.setIfInBounds_toArray, List.set_cons_zero, List.set_cons_succ]
      refine wpG_load (i := 8) (oi := { dst := some 36, op := Go.Op.load 26 (Go.Operand.tmp 35), type := 26, pos := "l2_type.go:383", after := #[{ on := 7, ground := Go.Ground.data }, { on := 6, ground := Go.Ground.guard }], guard := some (6, true) }) (v := ?vg74) [] rfl (by kernel_rfl) (fun _ _ _ h => h) hHeld (Or.inl ⟨by rfl, ?yg74⟩) ?_
      case yg74 => (intro wS hSw; (try dsimp only at hSw); go_simp <;> with_reducible rfl)
      try simp only [Act.put, List.setIfInBounds_toArray, List.set_cons_zero, List.set_cons_succ]
      refine wpG_pure (i := 9) (oi := { dst := some 37, op := Go.Op.fieldAddr 28 (Go.Operand.tmp 5) 0, type := 0, pos := "l2_type.go:383", after := #[{ on := 6, ground := Go.Ground.guard }], guard := some (6, true) }) (v := ?vg75) rfl (by kernel_rfl) (fun _ _ _ h => h) (Or.inr hHeld) (Or.inl ⟨by rfl, ?yg75⟩) ?_
      case yg75 => (intro wS _; go_simp <;> with_reducible rfl)
      try simp only [Act.put, List.setIfInBounds_toArray, List.set_cons_zero, List.set_cons_succ]
      refine wpG_load (i := 10) (oi := { dst := some 38, op := Go.Op.load 26 (Go.Operand.tmp 37), type := 26, pos := "l2_type.go:383", after := #[{ on := 9, ground := Go.Ground.data }, { on := 6, ground := Go.Ground.guard }], guard := some (6, true) }) (v := ?vg76) [] rfl (by kernel_rfl) (fun _ _ _ h => h) hHeld (Or.inl ⟨by rfl, ?yg76⟩) ?_
      case yg76 => (intro wS hSw; (try dsimp only at hSw); go_simp <;> with_reducible rfl)
      try simp only [Act.put, List.setIfInBounds_toArray, List.set_cons_zero, List.set_cons_succ]
      refine wpG_pure (i := 11) (oi := { dst := some 39, op := Go.Op.move (Go.Operand.tmp 7), type := 3, pos := "l2_type.go:383", after := #[{ on := 6, ground := Go.Ground.guard }], guard := some (6, true) }) (v := ?vg77) rfl (by kernel_rfl) (fun _ _ _ h => h) (Or.inr hHeld) (Or.inl ⟨by rfl, ?yg77⟩) ?_
      case yg77 => (intro wS _; go_simp <;> with_reducible rfl)
      try simp only [Act.put, List.setIfInBounds_toArray, List.set_cons_zero, List.set_cons_succ]
      refine wpG_pure (i := 12) (oi := { dst := some 40, op := Go.Op.indexAddr 26 (Go.Operand.tmp 38) (Go.Operand.tmp 39), type := 0, pos := "l2_type.go:383", after := #[{ on := 10, ground := Go.Ground.data }, { on := 11, ground := Go.Ground.data }, { on := 6, ground := Go.Ground.guard }], guard := some (6, true) }) (v := ?vg78) rfl (by kernel_rfl) (fun _ _ _ h => h) (Or.inr hHeld) (Or.inl ⟨by rfl, ?yg78⟩) ?_
      case yg78 => (intro wS _; go_simp <;> with_reducible rfl)
      try simp only [Act.put, List.setIfInBounds_toArray, List.set_cons_zero, List.set_cons_succ]
      refine wpG_pure (i := 13) (oi := { dst := some 41, op := Go.Op.fieldAddr 85 (Go.Operand.tmp 40) 4, type := 0, pos := "l2_type.go:383", after := #[{ on := 12, ground := Go.Ground.data }, { on := 6, ground := Go.Ground.guard }], guard := some (6, true) }) (v := ?vg79) rfl (by kernel_rfl) (fun _ _ _ h => h) (Or.inr hHeld) (Or.inl ⟨by rfl, ?yg79⟩) ?_
      case yg79 => (intro wS _; go_simp <;> with_reducible rfl)
      try simp only [Act.put, List.setIfInBounds_toArray, List.set_cons_zero, List.set_cons_succ]
      refine wpG_load (i := 14) (oi := { dst := some 42, op := Go.Op.load 3 (Go.Operand.tmp 41), type := 3, pos := "l2_type.go:383", after := #[{ on := 13, ground := Go.Ground.data }, { on := 6, ground := Go.Ground.guard }], guard := some (6, true) }) (v := ?vg80) [] rfl (by kernel_rfl) (fun _ _ _ h => h) hHeld (Or.inl ⟨by rfl, ?yg80⟩) ?_
      case yg80 => (intro wS hSw; (try dsimp only at hSw); go_simp <;> with_reducible rfl)
      try simp only [Act.put, List.setIfInBounds_toArray, List.set_cons_zero, List.set_cons_succ]
      refine wpG_pure (i := 15) (oi := { dst := some 43, op := Go.Op.indexAddr 26 (Go.Operand.tmp 36) (Go.Operand.tmp 42), type := 0, pos := "l2_type.go:383", after := #[{ on := 8, ground := Go.Ground.data }, { on := 14, ground := Go.Ground.data }, { on := 6, ground := Go.Ground.guard }], guard := some (6, true) }) (v := ?vg81) rfl (by kernel_rfl) (fun _ _ _ h => h) (Or.inr hHeld) (Or.inl ⟨by rfl, ?yg81⟩) ?_
      case yg81 => (intro wS _; go_simp <;> with_reducible rfl)
      try simp only [Act.put, List.setIfInBounds_toArray, List.set_cons_zero, List.set_cons_succ]
      refine wpG_pure (i := 16) (oi := { dst := some 44, op := Go.Op.fieldAddr 85 (Go.Operand.tmp 43) 0, type := 0, pos := "l2_type.go:383", after := #[{ on := 15, ground := Go.Ground.data }, { on := 6, ground := Go.Ground.guard }], guard := some (6, true) }) (v := ?vg82) rfl (by kernel_rfl) (fun _ _ _ h => h) (Or.inr hHeld) (Or.inl ⟨by rfl, ?yg82⟩) ?_
      case yg82 => (intro wS _; go_simp <;> with_reducible rfl)
      try simp only [Act.put, List.setIfInBounds_toArray, List.set_cons_zero, List.set_cons_succ]
      refine wpG_load (i := 17) (oi := { dst := some 45, op := Go.Op.load 3 (Go.Operand.tmp 44), type := 3, pos := "l2_type.go:383", after := #[{ on := 16, ground := Go.Ground.data }, { on := 6, ground := Go.Ground.guard }], guard := some (6, true) }) (v := ?vg83) [] rfl (by kernel_rfl) (fun _ _ _ h => h) hHeld (Or.inl ⟨by rfl, ?yg83⟩) ?_
      case yg83 => (intro wS hSw; (try dsimp only at hSw); go_simp <;> with_reducible rfl)
      try simp only [Act.put, List.setIfInBounds_toArray, List.set_cons_zero, List.set_cons_succ]
      refine wpG_pure (i := 18) (oi := { dst := some 46, op := Go.Op.binOp Go.BinOp.eql 3 (Go.Operand.tmp 45) (Go.Operand.const (Go.Value.int Go.IntKind.i64 5)) 3, type := 4, pos := "l2_type.go:383", after := #[{ on := 17, ground := Go.Ground.data }, { on := 6, ground := Go.Ground.guard }], guard := some (6, true) }) (v := ?vg84) rfl (by kernel_rfl) (fun _ _ _ h => h) (Or.inr hHeld) (Or.inl ⟨by rfl, ?yg84⟩) ?_
      case yg84 => (intro wS _; go_simp <;> with_reducible rfl)
      try simp only [Act.put, List.setIfInBounds_toArray, List.set_cons_zero, List.set_cons_succ]
      refine wpG_pure (i := 19) (oi := { dst := some 47, op := Go.Op.pick (Go.Operand.tmp 34) (Go.Operand.tmp 46) (Go.Operand.const (Go.Value.bool false)), type := 4, pos := "l2_type.go:383", after := #[{ on := 6, ground := Go.Ground.data }, { on := 18, ground := Go.Ground.data }], guard := none }) (v := ?vg85) rfl (by kernel_rfl) (fun _ _ _ h => h) (Or.inr hHeld) (Or.inl ⟨by rfl, ?yg85⟩) ?_
      case yg85 => (intro wS _; go_simp <;> with_reducible rfl)
      try simp only [Act.put, List.setIfInBounds_toArray, List.set_cons_zero, List.set_cons_succ]
      refine wpG_done (by kernel_rfl) ?_
      have HSc := Lib.hid HSb.out.drew
      go_wp2_with fail
      go_roundw
      case rel => exact ⟨m, n, M, by omega, by omega, by omega, by go_num, HU, Lib.hid (HSc.out.more (by omega))⟩
      case measure => (simp [intOf]; try omega)
    have n5 : (y.kind == 5) = true := beq_iff_eq.2 h5
    clear h5
    go_wp2_with fail
    refine wp_region_G [] (fun w' => w'.cell? ⟨X, 0, none⟩ = some (.slice (some ⟨g, 0, none⟩) n cp) ∧ w'.cell? ⟨g, k * 6 + 4, none⟩ = some (.int .i64 (j : Int)) ∧ w'.cell? ⟨g, j * 6, none⟩ = some (.int .i64 y.kind)) (by kernel_rfl) ?_ (fun hHeld => ?_)
    · exact ⟨z0, t4, p0⟩
    refine wpG_pure (i := 0) (oi := { dst := some 28, op := Go.Op.move (Go.Operand.tmp 7), type := 3, pos := "l2_type.go:383", after := #[], guard := none }) (v := ?vg86) rfl (by kernel_rfl) (fun _ _ _ h => h) (Or.inr hHeld) (Or.inl ⟨by rfl, ?yg86⟩) ?_
    case yg86 => (intro wS _; go_simp <;> with_reducible rfl)
    try simp only [Act.put, List.setIfInBounds_toArray, List.set_cons_zero, List.set_cons_succ]
    refine wpG_pure (i := 1) (oi := { dst := some 29, op := Go.Op.fieldAddr 28 (Go.Operand.tmp 5) 0, type := 0, pos := "l2_type.go:383", after := #[], guard := none }) (v := ?vg87) rfl (by kernel_rfl) (fun _ _ _ h => h) (Or.inr hHeld) (Or.inl ⟨by rfl, ?yg87⟩) ?_
    case yg87 => (intro wS _; go_simp <;> with_reducible rfl)
    try simp only [Act.put, List.setIfInBounds_toArray, List.set_cons_zero, List.set_cons_succ]
    refine wpG_load (i := 2) (oi := { dst := some 30, op := Go.Op.load 26 (Go.Operand.tmp 29), type := 26, pos := "l2_type.go:383", after := #[{ on := 1, ground := Go.Ground.data }], guard := none }) (v := ?vg88) [] rfl (by kernel_rfl) (fun _ _ _ h => h) hHeld (Or.inl ⟨by rfl, ?yg88⟩) ?_
    case yg88 => (intro wS hSw; (try dsimp only at hSw); go_simp <;> with_reducible rfl)
    try simp only [Act.put, List.setIfInBounds_toArray, List.set_cons_zero, List.set_cons_succ]
    refine wpG_pure (i := 3) (oi := { dst := some 31, op := Go.Op.call { callee := Go.Callee.builtin Go.Builtin.len, args := #[Go.Operand.tmp 30], argTypes := #[26] }, type := 3, pos := "l2_type.go:383", after := #[{ on := 2, ground := Go.Ground.data }], guard := none }) (v := ?vg89) rfl (by kernel_rfl) (fun _ _ _ h => h) (Or.inr hHeld) (Or.inl ⟨by rfl, ?yg89⟩) ?_
    case yg89 => (intro wS _; go_simp <;> with_reducible rfl)
    try simp only [Act.put, List.setIfInBounds_toArray, List.set_cons_zero, List.set_cons_succ]
    refine wpG_pure (i := 4) (oi := { dst := some 32, op := Go.Op.binOp Go.BinOp.sub 3 (Go.Operand.tmp 31) (Go.Operand.const (Go.Value.int Go.IntKind.i64 1)) 3, type := 3, pos := "l2_type.go:383", after := #[{ on := 3, ground := Go.Ground.data }], guard := none }) (v := ?vg90) rfl (by kernel_rfl) (fun _ _ _ h => h) (Or.inr hHeld) (Or.inl ⟨by rfl, ?yg90⟩) ?_
    case yg90 => (intro wS _; go_simp <;> with_reducible rfl)
    try simp only [Act.put, List.setIfInBounds_toArray, List.set_cons_zero, List.set_cons_succ]
    refine wpG_pure (i := 5) (oi := { dst := some 33, op := Go.Op.binOp Go.BinOp.eql 3 (Go.Operand.tmp 28) (Go.Operand.tmp 32) 3, type := 4, pos := "l2_type.go:383", after := #[{ on := 0, ground := Go.Ground.data }, { on := 4, ground := Go.Ground.data }], guard := none }) (v := ?vg91) rfl (by kernel_rfl) (fun _ _ _ h => h) (Or.inr hHeld) (Or.inl ⟨by rfl, ?yg91⟩) ?_
    case yg91 => (intro wS _; go_simp <;> with_reducible rfl)
    try simp only [Act.put, List.setIfInBounds_toArray, List.set_cons_zero, List.set_cons_succ]
    refine wpG_pure (i := 6) (oi := { dst := some 34, op := Go.Op.move (Go.Operand.tmp 33), type := 4, pos := "l2_type.go:383", after := #[{ on := 5, ground := Go.Ground.data }], guard := none }) (v := ?vg92) rfl (by kernel_rfl) (fun _ _ _ h => h) (Or.inr hHeld) (Or.inl ⟨by rfl, ?yg92⟩) ?_
    case yg92 => (intro wS _; go_simp <;> with_reducible rfl)
    try simp only [Act.put, List.setIfInBounds_toArray, List.set_cons_zero, List.set_cons_succ]
    refine wpG_pure (i := 7) (oi := { dst := some 35, op := Go.Op.fieldAddr 28 (Go.Operand.tmp 5) 0, type := 0, pos := "l2_type.go:383", after := #[{ on := 6, ground := Go.Ground.guard }], guard := some (6, true) }) (v := ?vg93) rfl (by kernel_rfl) (fun _ _ _ h => h) (Or.inr hHeld) (Or.inl ⟨by rfl, ?yg93⟩) ?_
    case yg93 => (intro wS _; go_simp <;> with_reducible rfl)
    try simp only [Act.put, List.setIfInBounds_toArray, List.set_cons_zero, List.set_cons_succ]
    refine wpG_load (i := 8) (oi := { dst := some 36, op := Go.Op.load 26 (Go.Operand.tmp 35), type := 26, pos := "l2_type.go:383", after := #[{ on := 7, ground := Go.Ground.data }, { on := 6, ground := Go.Ground.guard }], guard := some (6, true) }) (v := ?vg94) [] rfl (by kernel_rfl) (fun _ _ _ h => h) hHeld (Or.inl ⟨by rfl, ?yg94⟩) ?_
    case yg94 => (intro wS hSw; (try dsimp only at hSw); go_simp <;> with_reducible rfl)
    try simp only [Act.put, List.setIfInBounds_toArray, List.set_cons_zero, List.set_cons_succ]
    refine wpG_pure (i := 9) (oi := { dst := some 37, op := Go.Op.fieldAddr 28 (Go.Operand.tmp 5) 0, type := 0, pos := "l2_type.go:383", after := #[{ on := 6, ground := Go.Ground.guard }], guard := some (6, true) }) (v := ?vg95) rfl (by kernel_rfl) (fun _ _ _ h => h) (Or.inr hHeld) (Or.inl ⟨by rfl, ?yg95⟩) ?_
    case yg95 => (intro wS _; go_simp <;> with_reducible rfl)
    try simp only [Act.put, List.setIfInBounds_toArray, List.set_cons_zero, List.set_cons_succ]
    refine wpG_load (i := 10) (oi := { dst := some 38, op := Go.Op.load 26 (Go.Operand.tmp 37), type := 26, pos := "l2_type.go:383", after := #[{ on := 9, ground := Go.Ground.data }, { on := 6, ground := Go.Ground.guard }], guard := some (6, true) }) (v := ?vg96) [] rfl (by kernel_rfl) (fun _ _ _ h => h) hHeld (Or.inl ⟨by rfl, ?yg96⟩) ?_
    case yg96 => (intro wS hSw; (try dsimp only at hSw); go_simp <;> with_reducible rfl)
    try simp only [Act.put, List.setIfInBounds_toArray, List.set_cons_zero, List.set_cons_succ]
    refine wpG_pure (i := 11) (oi := { dst := some 39, op := Go.Op.move (Go.Operand.tmp 7), type := 3, pos := "l2_type.go:383", after := #[{ on := 6, ground := Go.Ground.guard }], guard := some (6, true) }) (v := ?vg97) rfl (by kernel_rfl) (fun _ _ _ h => h) (Or.inr hHeld) (Or.inl ⟨by rfl, ?yg97⟩) ?_
    case yg97 => (intro wS _; go_simp <;> with_reducible rfl)
    try simp only [Act.put, List.setIfInBounds_toArray, List.set_cons_zero, List.set_cons_succ]
    refine wpG_pure (i := 12) (oi := { dst := some 40, op := Go.Op.indexAddr 26 (Go.Operand.tmp 38) (Go.Operand.tmp 39), type := 0, pos := "l2_type.go:383", after := #[{ on := 10, ground := Go.Ground.data }, { on := 11, ground := Go.Ground.data }, { on := 6, ground := Go.Ground.guard }], guard := some (6, true) }) (v := ?vg98) rfl (by kernel_rfl) (fun _ _ _ h => h) (Or.inr hHeld) (Or.inl ⟨by rfl, ?yg98⟩) ?_
    case yg98 => (intro wS _; go_simp <;> with_reducible rfl)
    try simp only [Act.put, List.setIfInBounds_toArray, List.set_cons_zero, List.set_cons_succ]
    refine wpG_pure (i := 13) (oi := { dst := some 41, op := Go.Op.fieldAddr 85 (Go.Operand.tmp 40) 4, type := 0, pos := "l2_type.go:383", after := #[{ on := 12, ground := Go.Ground.data }, { on := 6, ground := Go.Ground.guard }], guard := some (6, true) }) (v := ?vg99) rfl (by kernel_rfl) (fun _ _ _ h => h) (Or.inr hHeld) (Or.inl ⟨by rfl, ?yg99⟩) ?_
    case yg99 => (intro wS _; go_simp <;> with_reducible rfl)
    try simp only [Act.put, List.setIfInBounds_toArray, List.set_cons_zero, List.set_cons_succ]
    refine wpG_load (i := 14) (oi := { dst := some 42, op := Go.Op.load 3 (Go.Operand.tmp 41), type := 3, pos := "l2_type.go:383", after := #[{ on := 13, ground := Go.Ground.data }, { on := 6, ground := Go.Ground.guard }], guard := some (6, true) }) (v := ?vg100) [] rfl (by kernel_rfl) (fun _ _ _ h => h) hHeld (Or.inl ⟨by rfl, ?yg100⟩) ?_
    case yg100 => (intro wS hSw; (try dsimp only at hSw); go_simp <;> with_reducible rfl)
    try simp only [Act.put, List.setIfInBounds_toArray, List.set_cons_zero, List.set_cons_succ]
    refine wpG_pure (i := 15) (oi := { dst := some 43, op := Go.Op.indexAddr 26 (Go.Operand.tmp 36) (Go.Operand.tmp 42), type := 0, pos := "l2_type.go:383", after := #[{ on := 8, ground := Go.Ground.data }, { on := 14, ground := Go.Ground.data }, { on := 6, ground := Go.Ground.guard }], guard := some (6, true) }) (v := ?vg101) rfl (by kernel_rfl) (fun _ _ _ h => h) (Or.inr hHeld) (Or.inl ⟨by rfl, ?yg101⟩) ?_
    case yg101 => (intro wS _; go_simp <;> with_reducible rfl)
    try simp only [Act.put, List.setIfInBounds_toArray, List.set_cons_zero, List.set_cons_succ]
    refine wpG_pure (i := 16) (oi := { dst := some 44, op := Go.Op.fieldAddr 85 (Go.Operand.tmp 43) 0, type := 0, pos := "l2_type.go:383", after := #[{ on := 15, ground := Go.Ground.data }, { on := 6, ground := Go.Ground.guard }], guard := some (6, true) }) (v := ?vg102) rfl (by kernel_rfl) (fun _ _ _ h => h) (Or.inr hHeld) (Or.inl ⟨by rfl, ?yg102⟩) ?_
    case yg102 => (intro wS _; go_simp <;> with_reducible rfl)
    try simp only [Act.put, List.setIfInBounds_toArray, List.set_cons_zero, List.set_cons_succ]
    refine wpG_load (i := 17) (oi := { dst := some 45, op := Go.Op.load 3 (Go.Operand.tmp 44), type := 3, pos := "l2_type.go:383", after := #[{ on := 16, ground := Go.Ground.data }, { on := 6, ground := Go.Ground.guard }], guard := some (6, true) }) (v := ?vg103) [] rfl (by kernel_rfl) (fun _ _ _ h => h) hHeld (Or.inl ⟨by rfl, ?yg103⟩) ?_
    case yg103 => (intro wS hSw; (try dsimp only at hSw); go_simp <;> with_reducible rfl)
    try simp only [Act.put, List.setIfInBounds_toArray, List.set_cons_zero, List.set_cons_succ]
    refine wpG_pure (i := 18) (oi := { dst := some 46, op := Go.Op.binOp Go.BinOp.eql 3 (Go.Operand.tmp 45) (Go.Operand.const (Go.Value.int Go.IntKind.i64 5)) 3, type := 4, pos := "l2_type.go:383", after := #[{ on := 17, ground := Go.Ground.data }, { on := 6, ground := Go.Ground.guard }], guard := some (6, true) }) (v := ?vg104) rfl (by kernel_rfl) (fun _ _ _ h => h) (Or.inr hHeld) (Or.inl ⟨by rfl, ?yg104⟩) ?_
    case yg104 => (intro wS _; go_simp <;> with_reducible rfl)
    try simp only [Act.put, List.setIfInBounds_toArray, List.set_cons_zero, List.set_cons_succ]
    refine wpG_pure (i := 19) (oi := { dst := some 47, op := Go.Op.pick (Go.Operand.tmp 34) (Go.Operand.tmp 46) (Go.Operand.const (Go.Value.bool false)), type := 4, pos := "l2_type.go:383", after := #[{ on := 6, ground := Go.Ground.data }, { on := 18, ground := Go.Ground.data }], guard := none }) (v := ?vg105) rfl (by kernel_rfl) (fun _ _ _ h => h) (Or.inr hHeld) (Or.inl ⟨by rfl, ?yg105⟩) ?_
    case yg105 => (intro wS _; go_simp <;> with_reducible rfl)
    try simp only [Act.put, List.setIfInBounds_toArray, List.set_cons_zero, List.set_cons_succ]
    refine wpG_done (by kernel_rfl) ?_
    have HSc := Lib.hid HSb.out.drew
    have y0 : wb.drew.cell? ⟨X, 0, none⟩ = some (.slice (some ⟨g, 0, none⟩) n cp) := z0
    have yf : wb.drew.frozen? ⟨X, 0, none⟩ = false := zf
    clear t0 t1 t2 t3 t4 t5 p0 z0 zf hHeld
    generalize wb.drew = wc at *
    have HSd := Lib.hid (HSc.out.shrink k (by omega))
    have HU2 := Lib.hid (up_take k HU.out)
    have hkc : k ≤ cp := by omega
    go_wp2_with fail
    go_roundw
    case rel => exact ⟨m, k, (M.take k), by omega, by omega, by omega, by go_num, HU2, Lib.hid (HSd.out.more (by omega))⟩
    case measure => (simp [intOf]; try omega)
end Go.Proofs.Ytmlnecopbncdbaa
