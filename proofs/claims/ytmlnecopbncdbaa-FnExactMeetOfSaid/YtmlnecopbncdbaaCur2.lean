/- The contracts of the draws: a number, yes or no, one of some. -/
import Derived.Test.YtmlnecopbncdbaaCur
namespace Go.Proofs.Ytmlnecopbncdbaa
set_option linter.unusedVariables false
set_option linter.unusedSimpArgs false
open Go.ChangeShapes Go.WideShapes Go.ChangeAt Go.RowKit
set_option maxRecDepth 100000

theorem PC.mono {w : World} {B K K' : Nat} (h : PC w B K) (hk : K ≤ K') : PC w B K' := by
  obtain ⟨a, c, p, seed, cs, h1, h2, r⟩ := h
  exact ⟨a, c, p, seed, cs, h1, by omega, r⟩
theorem PC.lt {w : World} {B K : Nat} (h : PC w B K) : B < w.heap.size := by
  obtain ⟨a, c, p, seed, cs, h1, _⟩ := h
  exact (Array.getElem?_eq_some_iff.1 h1).1
theorem PC.later {w w' : World} {B K : Nat} (h : PC w B K) (hb : Below w.heap.size w w') : PC w' B K := by
  have hl := h.lt
  obtain ⟨a, c, p, seed, cs, h1, h2, h3, h4, h5, h6, h7⟩ := h
  exact ⟨a, c, p, seed, cs, (hb.block B hl).trans h1, h2, h3, h4, h5, h6, h7.below (hb.mono (by omega))⟩
set_option maxHeartbeats 1000000 in
theorem cur_pick (B K : Nat) (n : Int) (w : World) (h : PC w B K) (hK : K ≤ 900000000000) (hn : n ≤ 2147483648) :
    Calls Try.prog 49 #[.pointer (some ⟨B, 0, none⟩), .int .i64 n] w fun e w' => ∃ r : Nat, e = .returned (.int .i64 (r : Int)) ∧ ((r : Int) < n ∨ r = 0) ∧ PC w' B (K + 2) ∧ Wrote (fun k => k = B) w w' := by
  by_cases h1 : n ≤ 1
  · have HP := Lib.hid (h.mono (show K ≤ K + 2 by omega)); clear h
    go_enter Try.func49, Try.ntmps49
    go_wp2_with fail
    go_ret
    exact ⟨0, rfl, .inr rfl, HP.out, Wrote.refl _ _⟩
  have HN := Lib.hid (cur_next B K w h (by omega))
  have HN2 := Lib.hid (fun wx (hx : PC wx B (K + 1)) => cur_next B (K + 1) wx hx (by omega))
  clear h
  go_enter Try.func49, Try.ntmps49
  go_wp2_with fail
  refine HN.out.mono ?_
  rintro e w1 ⟨r, rfl, hr, hp, hw⟩
  have HP := Lib.hid hp; have HW := Lib.hid hw; clear hp hw HN
  by_cases h2 : n ≤ 200
  · have hm : (r : Int) % n < n := Int.emod_lt_of_pos _ (by omega)
    have hm0 : 0 ≤ (r : Int) % n := Int.emod_nonneg _ (by omega)
    go_wp2_with fail
    go_ret
    exact ⟨((r : Int) % n).toNat, by rw [Int.toNat_of_nonneg hm0]; rfl, .inl (by omega), HP.out.mono (by omega), HW.out⟩
  · go_wp2_with fail
    refine (HN2.out _ HP.out).mono ?_
    rintro e w2 ⟨r2, rfl, hr2, hp, hw⟩
    have HP2 := Lib.hid hp; have HW2 := Lib.hid (HW.out.trans hw); clear hp hw HN2
    have hm : ((r : Int) * 256 + (r2 : Int)) % n < n := Int.emod_lt_of_pos _ (by omega)
    have hm0 : 0 ≤ ((r : Int) * 256 + (r2 : Int)) % n := Int.emod_nonneg _ (by omega)
    go_wp2_with fail
    go_ret
    exact ⟨(((r : Int) * 256 + (r2 : Int)) % n).toNat, by rw [Int.toNat_of_nonneg hm0]; rfl, .inl (by omega), HP2.out.mono (by omega), HW2.out⟩
set_option maxHeartbeats 400000 in
theorem cur_one (B K : Nat) (n : Int) (w : World) (h : PC w B K) (hK : K ≤ 900000000000) (hn : n ≤ 2147483648) :
    Calls Try.prog 50 #[.pointer (some ⟨B, 0, none⟩), .int .i64 n] w fun e w' => ∃ b : Bool, e = .returned (.bool b) ∧ PC w' B (K + 2) ∧ Wrote (fun k => k = B) w w' := by
  have HN := Lib.hid (cur_pick B K n w h hK hn); clear h
  go_enter Try.func50, Try.ntmps50
  go_wp2_with fail
  refine HN.out.mono ?_
  rintro e w1 ⟨r, rfl, _, hp, hw⟩
  have HP := Lib.hid hp; have HW := Lib.hid hw; clear hp hw HN
  go_wp2_with fail
  go_ret
  exact ⟨_, rfl, HP.out, HW.out⟩
set_option maxHeartbeats 400000 in
theorem cur_of (B K : Nat) (l : List ByteArray) (b off c : Nat) (w : World) (h : PC w B K) (hK : K ≤ 900000000000) (hl : 1 ≤ l.length) (hl2 : l.length ≤ 1000000) (hlc : l.length ≤ c) (hc : c ≤ 9223372036854775807) (hb : b ≠ B) (hcc : ∀ (i : Nat) (x : ByteArray), l[i]? = some x → w.cell? ⟨b, off + i, none⟩ = some (Value.string x)) :
    Calls Try.prog 51 #[.pointer (some ⟨B, 0, none⟩), .slice (some ⟨b, off, none⟩) l.length c] w fun e w' => ∃ x, x ∈ l ∧ e = .returned (Value.string x) ∧ PC w' B (K + 2) ∧ Wrote (fun k => k = B) w w' := by
  have HN := Lib.hid (cur_pick B K (l.length : Int) w h hK (by omega)); clear h
  have HC := Lib.hid hcc; clear hcc
  go_enter Try.func51, Try.ntmps51
  go_wp2_with fail
  refine HN.out.mono ?_
  rintro e w1 ⟨r, rfl, hr, hp, hw⟩
  have HP := Lib.hid hp; have HW := Lib.hid hw; clear hp hw HN
  have hrl : r < l.length := by omega
  have cx := HW.out.cell (HC.out r _ (List.getElem?_eq_getElem hrl)) hb
  have HM : Hid (l[r] ∈ l) := Lib.hid (List.getElem_mem hrl)
  clear hr
  generalize l[r] = x at *
  go_wp2_with fail
  go_ret
  exact ⟨x, HM.out, rfl, HP.out, HW.out⟩

set_option maxHeartbeats 400000 in
theorem cur_among (B K : Nat) (l : List Int) (b off c : Nat) (w : World) (h : PC w B K) (hK : K ≤ 900000000000) (hl : 1 ≤ l.length) (hl2 : l.length ≤ 1000000) (hlc : l.length ≤ c) (hc : c ≤ 9223372036854775807) (hb : b ≠ B) (hcc : ∀ (i : Nat) (x : Int), l[i]? = some x → w.cell? ⟨b, off + i, none⟩ = some (Value.int .i64 x)) :
    Calls Try.prog 75 #[.pointer (some ⟨B, 0, none⟩), .slice (some ⟨b, off, none⟩) l.length c] w fun e w' => ∃ x, x ∈ l ∧ e = .returned (Value.int .i64 x) ∧ PC w' B (K + 2) ∧ Wrote (fun k => k = B) w w' := by
  have HN := Lib.hid (cur_pick B K (l.length : Int) w h hK (by omega)); clear h
  have HC := Lib.hid hcc; clear hcc
  go_enter Try.func75, Try.ntmps75
  go_wp2_with fail
  refine HN.out.mono ?_
  rintro e w1 ⟨r, rfl, hr, hp, hw⟩
  have HP := Lib.hid hp; have HW := Lib.hid hw; clear hp hw HN
  have hrl : r < l.length := by omega
  have cx := HW.out.cell (HC.out r _ (List.getElem?_eq_getElem hrl)) hb
  have HM : Hid (l[r] ∈ l) := Lib.hid (List.getElem_mem hrl)
  clear hr
  generalize l[r] = x at *
  go_wp2_with fail
  go_ret
  exact ⟨x, HM.out, rfl, HP.out, HW.out⟩

end Go.Proofs.Ytmlnecopbncdbaa
