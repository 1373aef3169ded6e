/- The contracts of looking up in a trie: the program's walker. -/
import Derived.Test.YteknmjebokimjaaDoorLook
namespace Go.Proofs.YteknmjebokimjaaDoor
set_option linter.unusedVariables false
open Go.ChangeShapes Go.WideShapes Go.ChangeAt Go.RowKit
set_option maxRecDepth 100000

set_option maxHeartbeats 1000000 in
theorem insert_nil (x : Int) (w : World) : Calls Tryd.prog 79 #[.slice none 0 0, .int .i64 0, .slice (some ⟨w.heap.size, 0, none⟩) 1 1] (w.alloc (.cells #[.int .i64 x] 3)) fun e w' => ∃ v, e = .returned v ∧ w'.ownsRow w.heap.size 3 1 v [x].length (ints [x]) ∧ Below w.heap.size w w' := by
  have HRW : Hid (Rw (w.alloc (.cells #[.int .i64 x] 3)) (some ⟨w.heap.size, 0, none⟩) (ints [x])) := Lib.hid (by
    refine .inr ⟨w.heap.size, 0, rfl, by simp, fun i u hi => ?_⟩
    rw [Nat.zero_add, World.cell?_alloc_new]
    simpa [ints] using hi)
  go_enter Tryd.func79, Tryd.ntmps79
  go_wp2_with (at_builtin; refine app_ints rfl _ _ rfl w.heap.size _ [] rfl (World.ownsRow_nil _ _ _ _) _ _ _ [x] rfl rfl HRW.out (by simp) (by simp) ?_)
  intro v' w' ho _ hb
  have HO := Lib.hid ho
  have HB := Lib.hid (((Below.refl _ _).alloc (Nat.le_refl _) _ : Below w.heap.size w _).trans hb); clear ho hb
  go_wp2_with fail
  go_ret
  exact ⟨_, rfl, HO.out, HB.out⟩
set_option maxHeartbeats 1000000 in
theorem impl_withO (base : Nat) (v : Value) (xs : List Int) (n : Int) (w : World) (ho : w.ownsRow base 3 1 v xs.length (ints xs)) (hb : base ≤ w.heap.size) (hl : xs.length ≤ 1048576) (hs : xs.Pairwise (· < ·)) :
    Calls Tryd.prog 46 #[v, .int .i64 n] w (WithOf base xs n w) := by
  rcases ho.2 with ⟨rfl, h0⟩ | ⟨g, cap, cur, rfl, _⟩
  · obtain rfl : xs = [] := List.length_eq_zero_iff.1 h0
    have hR : putR [] n = [n] := by simp [putR, putK]
    unfold WithOf
    rw [hR]
    have HS := Lib.hid (Tryd.slices_BinarySearch_int_empty none 0 n w)
    have HI := Lib.hid (insert_nil n w)
    clear ho h0 hl hs hR
    go_enter Tryd.func46, Tryd.ntmps46
    go_wp2_with fail
    refine HS.out.mono ?_
    rintro e w1 ⟨rfl, rfl⟩
    go_wp2_with fail
    refine HI.out.mono ?_
    rintro e w2 ⟨v, rfl, ho2, hb2⟩
    have HO2 := Lib.hid (own_mono ho2 hb); have HB2 := Lib.hid (hb2.mono hb); clear ho2 hb2 HI HS
    obtain ⟨g2, cp2, rfl, _⟩ := HO2.out.form (by simp)
    go_wp2_with fail
    go_ret
    exact ⟨g2, cp2, rfl, HO2.out, HB2.out⟩
  · exact impl_with base g cap xs n w ho hb hl hs

/-! ### the walker's state -/
def St (W0 : World) (B B2 : Nat) (T : Value) (xs : List Int) (c : Nat) (w : World) : Prop :=
  ∃ v, w.heap[B]? = some (.cells #[T, v, .int .i64 (c : Int)] 74) ∧ w.ownsRow B2 3 1 v xs.length (ints xs) ∧ Below B W0 w ∧ (∀ b, b < B2 → b ≠ B → w.heap[b]? = W0.heap[b]?) ∧ B2 ≤ w.heap.size
theorem st_cells {W0 : World} {B B2 : Nat} {T : Value} {xs : List Int} {c : Nat} {w : World} (h : St W0 B B2 T xs c w) : ∃ v, w.cell? ⟨B, 0, none⟩ = some T ∧ w.cell? ⟨B, 1, none⟩ = some v ∧ w.cell? ⟨B, 2, none⟩ = some (.int .i64 (c : Int)) ∧ w.frozen? ⟨B, 1, none⟩ = false ∧ w.frozen? ⟨B, 2, none⟩ = false ∧ w.ownsRow B2 3 1 v xs.length (ints xs) := by
  obtain ⟨v, hh, ho, _⟩ := h
  exact ⟨v, by simp [World.cell?, hh], by simp [World.cell?, hh], by simp [World.cell?, hh], by simp [World.frozen?, hh], by simp [World.frozen?, hh], ho⟩
theorem st_lt {W0 : World} {B B2 : Nat} {T : Value} {xs : List Int} {c : Nat} {w : World} (h : St W0 B B2 T xs c w) : B2 ≤ w.heap.size := by obtain ⟨_, _, _, _, _, h⟩ := h; exact h
theorem st_cell {W0 : World} {B B2 : Nat} {T : Value} {xs : List Int} {c : Nat} {w : World} (h : St W0 B B2 T xs c w) {b i : Nat} {u : Value} (hc : W0.cell? ⟨b, i, none⟩ = some u) (hb : b < B2) (hne : b ≠ B) : w.cell? ⟨b, i, none⟩ = some u := by
  obtain ⟨_, _, _, _, h4, _⟩ := h
  exact (World.cell?_of_block (a := ⟨b, i, none⟩) (h4 b hb hne)).trans hc
theorem own_set {w : World} {B2 B i n : Nat} {v u : Value} {xs : List Value} (h : w.ownsRow B2 3 1 v n xs) (hB : B < B2) : (w.setCell ⟨B, i, none⟩ u).ownsRow B2 3 1 v n xs := by
  refine ⟨h.1, ?_⟩
  rcases h.2 with h0 | ⟨g, cap, cur, rfl, hg, hh, r⟩
  · exact .inl h0
  · exact .inr ⟨g, cap, cur, rfl, hg, (Below.heap_setCell w ⟨B, i, none⟩ u g (by show g ≠ B; omega)).trans hh, r⟩
theorem st_set {W0 : World} {B B2 : Nat} {T : Value} {ys : List Int} {c c' i : Nat} {w : World} {v u : Value} (hB : B < B2) (hh : w.heap[B]? = some (.cells #[T, v, .int .i64 (c : Int)] 74)) (hb : Below B W0 w) (hn : ∀ b, b < B2 → b ≠ B → w.heap[b]? = W0.heap[b]?) (hz : B2 ≤ w.heap.size) (v' : Value) (ho : w.ownsRow B2 3 1 v' ys.length (ints ys))
    (he : #[T, v, .int .i64 (c : Int)].setIfInBounds i u = #[T, v', .int .i64 (c' : Int)]) : St W0 B B2 T ys c' (w.setCell ⟨B, i, none⟩ u) := by
  refine ⟨v', ?_, own_set ho hB, hb.setCell (p := ⟨B, i, none⟩) (Nat.le_refl _) u, fun b h1 h2 => (Below.heap_setCell w ⟨B, i, none⟩ u b h2).trans (hn b h1 h2), by simpa [World.setCell] using hz⟩
  rw [← he]
  simp [World.setCell, Array.getElem?_modify, hh]
theorem st_count {W0 : World} {B B2 : Nat} {T : Value} {xs : List Int} {c : Nat} {w : World} (hB : B < B2) (h : St W0 B B2 T xs c w) (c' : Nat) : St W0 B B2 T xs c' (w.setCell ⟨B, 2, none⟩ (.int .i64 (c' : Int))) := by
  obtain ⟨v, hh, ho, hb, hn, hz⟩ := h
  exact st_set hB hh hb hn hz v ho rfl
theorem st_later {W0 : World} {B B2 : Nat} {T : Value} {xs : List Int} {c : Nat} {w w' : World} (hB : B < B2) (h : St W0 B B2 T xs c w) (hb : Below w.heap.size w w') : St W0 B B2 T xs c w' := by
  obtain ⟨v, hh, ho, hb0, hn, hz⟩ := h
  exact ⟨v, (hb.block B (by omega)).trans hh, own_later ho hb, hb0.trans (hb.mono (by omega)), fun b h1 h2 => (hb.block b (by omega)).trans (hn b h1 h2), Nat.le_trans hz hb.size⟩
theorem st_drew {W0 : World} {B B2 : Nat} {T : Value} {xs : List Int} {c : Nat} {w : World} (hB : B < B2) (h : St W0 B B2 T xs c w) : St W0 B B2 T xs c w.drew := st_later hB h (Below.refl _ _).drew
theorem st_who {W0 : World} {B B2 : Nat} {T : Value} {xs ys : List Int} {c : Nat} {w w3 : World} {v' : Value} (hB : B < B2) (h : St W0 B B2 T xs c w) (ho : w3.ownsRow B2 3 1 v' ys.length (ints ys)) (hb : Below B2 w w3) :
    St W0 B B2 T ys c (w3.setCell ⟨B, 1, none⟩ v') ∧ (∃ u, w3.cell? ⟨B, 1, none⟩ = some u) ∧ w3.frozen? ⟨B, 1, none⟩ = false := by
  obtain ⟨v, hh, _, hb0, hn, hz⟩ := h
  have hh3 := (hb.block B hB).trans hh
  exact ⟨st_set hB hh3 (hb0.trans (hb.mono (by omega))) (fun b h1 h2 => (hb.block b h1).trans (hn b h1 h2)) (Nat.le_trans hz hb.size) v' ho rfl, ⟨v, by simp [World.cell?, hh3]⟩, by simp [World.frozen?, hh3]⟩
theorem st_rd {W0 : World} {B B2 : Nat} {T : Value} {xs : List Int} {c : Nat} {w : World} (hB : B < B2) (h : St W0 B B2 T xs c w) {cs : List Value} {t : List Nd} (ht : kTrieNodeS.rd B W0 cs t) : kTrieNodeS.rd B w cs t ∧ kTrieNodeS.rd w.heap.size w cs t := by
  obtain ⟨_, _, _, hb, _, hz⟩ := h
  have := kTrieNodeS_ok.rbelow ht hb
  exact ⟨this, kTrieNodeS_ok.rmono this (by omega)⟩
def Rx (W0 : World) (B B2 : Nat) (a : Option Addr) (vs : List Value) : Prop :=
  vs = [] ∨ ∃ b off, a = some ⟨b, off, none⟩ ∧ b < B2 ∧ b ≠ B ∧ ∀ i u, vs[i]? = some u → W0.cell? ⟨b, off + i, none⟩ = some u

theorem impl_down_neg (B : Nat) (kr : Int) (hk : kr < 0) (v : Value) (w : World) : Calls Tryd.prog 57 #[.pointer (some ⟨B, 0, none⟩), .int .i64 kr, v] w fun e w' => e = .returned (.tuple #[]) ∧ w = w' := by
  go_enter Tryd.func57, Tryd.ntmps57
  go_wp2_with fail
  (try simp only [Exit.inBlock, Exit.then])
  first | (refine bodyPost_ret (results_none rfl _ _ _) rfl ?_) | (refine bodyPost_end (results_none rfl _ _ _) rfl ?_)
  exact ⟨rfl, rfl⟩
set_option maxHeartbeats 2000000 in
theorem impl_hash (t : List Nd) (tb tf cap : Nat) (W0 : World) (B B2 : Nat) (ht : kTrieNodeS.rd B W0 [.slice (some ⟨tb, tf, none⟩) t.length cap] t) (hB : B < B2) (hl : t.length ≤ 181) (hw30 : whosN t ≤ 30) (u : Nat) (hu : u < t.length) (hm : (nd t u).1 = more)
    (xs : List Int) (c : Nat) (w : World) (HST : Hid (St W0 B B2 (.slice (some ⟨tb, tf, none⟩) t.length cap) xs c w)) (hs : xs.Pairwise (· < ·)) (hxl : xs.length ≤ 1000000) (hcl : c ≤ 1000000) :
    Calls Tryd.prog 57 #[.pointer (some ⟨B, 0, none⟩), .int .i64 (u : Int), .slice none 0 0] w fun e w' => e = .returned (.tuple #[]) ∧ St W0 B B2 (.slice (some ⟨tb, tf, none⟩) t.length cap) (puts xs (nd t u).2.2) (c + 1) w' := by
  obtain ⟨v0, d0, d1, d2, z1, z2, _⟩ := st_cells HST.out
  obtain ⟨x, b', off', aw, cw, hx, ha, hbl, e0, e1, e2, hs1, _, hrw⟩ := nd_cells ht hu
  simp only [Option.some.injEq, Addr.mk.injEq, and_true] at ha
  obtain ⟨rfl, rfl⟩ := ha
  have hnd := nd_at hx
  have hne : tb ≠ B := by omega
  have hlt2 : tb < B2 := by omega
  have c0 := st_cell HST.out e0 hlt2 hne
  have c2 := st_cell HST.out e2 hlt2 hne
  have HE0 := Lib.hid e0; have HRW := Lib.hid hrw
  have HND := Lib.hid hnd
  have hw30' := nd_who hw30 u
  have hln := (sl_len ht).2
  rw [hnd] at hw30'
  have hlw := (sl_len hrw).2
  have HT0 := Lib.hid ht
  have HS1 := Lib.hid (st_count hB HST.out (c + 1))
  rw [hnd] at hm ⊢
  have hm' : (x.1.toList == [35]) = true := by simp only [beq_iff_eq]; exact (is1 x.1 35).2 hm
  clear hm hx hnd
  go_enter Tryd.func57, Tryd.ntmps57
  go_wp2_with fail
  obtain ⟨w1, hw1⟩ : ∃ z : World, z = w.setCell ⟨B, 2, none⟩ (.int .i64 ((c + 1 : Nat) : Int)) := ⟨_, rfl⟩
  have hcc : ((c + 1 : Nat) : Int) = (c : Int) + 1 := by omega
  rw [hcc] at hw1 HS1
  rw [← hw1] at HS1 ⊢
  clear hw1 hcc d0 d1 d2 z1 z2 c0 c2 hrw ht e0 e1 e2 HST
  go_loopw [40] (fun iv wr => ∃ (i : Nat), i ≤ x.2.2.length ∧ iv = .int .i64 (i : Int) ∧ Hid (St W0 B B2 (.slice (some ⟨tb, tf, none⟩) t.length cap) (puts xs (x.2.2.take i)) (c + 1) wr)) (fun iv _ => x.2.2.length - (intOf iv).toNat)
  case atStart => exact ⟨0, by omega, rfl, HS1⟩
  case round =>
    obtain ⟨i, hil, rfl, HSI⟩ := hrel
    by_cases hlt : i < x.2.2.length
    case pos =>
      obtain ⟨y, hy⟩ : ∃ y, x.2.2[i]? = some y := ⟨x.2.2[i], List.getElem?_eq_getElem hlt⟩
      obtain ⟨u', bw, offw, hu', hea, hbw, hcw⟩ := sl_one kInt_ok rfl HRW.out hy
      obtain ⟨hu', _⟩ := hu'
      simp only [List.cons.injEq, and_true] at hu'
      subst hu'
      have q0 : wr.cell? ⟨bw, offw + i, none⟩ = some (.int .i64 y) := st_cell HSI.out hcw (by omega) (by omega)
      obtain ⟨v, k0, k1, k2, z1, z2, ho⟩ := st_cells HSI.out
      have HPT := Lib.hid (puts_take xs x.2.2 i y hy)
      have HPS : Hid ((puts xs (x.2.2.take i)).Pairwise (· < ·)) := Lib.hid (puts_sorted hs)
      have hpl : (puts xs (x.2.2.take i)).length ≤ xs.length + 30 := by have h1 := puts_len xs (x.2.2.take i); rw [List.length_take] at h1; omega
      have HWO := Lib.hid (impl_withO B2 v (puts xs (x.2.2.take i)) y wr ho (st_lt HSI.out) (by omega) HPS.out)
      subst hea
      clear hy ho hcw
      go_wp2_with fail
      refine HWO.out.mono ?_
      rintro e w3 ⟨g3, cp3, rfl, ho3, hb3⟩
      obtain ⟨hs3, ⟨uu, m1⟩, m2⟩ := st_who hB HSI.out ho3 hb3
      have HS3 := Lib.hid hs3; clear hs3 ho3 hb3
      go_wp2_with fail
      go_roundw
      case rel => exact ⟨i + 1, by omega, by go_num, by rw [HPT.out]; exact HS3⟩
      case measure => simp [intOf]; omega
    obtain rfl : i = x.2.2.length := by omega
    rw [List.take_length] at HSI
    obtain ⟨v, k0, k1, k2, z1, z2, _⟩ := st_cells HSI.out
    have c0 := st_cell HSI.out HE0.out hlt2 hne
    go_wp2_with fail
    (try simp only [Exit.inBlock, Exit.then])
    first | (refine bodyPost_ret (results_none rfl _ _ _) rfl ?_) | (refine bodyPost_end (results_none rfl _ _ _) rfl ?_)
    exact ⟨rfl, HSI.out⟩
end Go.Proofs.YteknmjebokimjaaDoor
