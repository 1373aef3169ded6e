/- The draw of rising fields' bytes. -/
import Derived.Test.YtlmgckijbamgpaaFld6
namespace Go.Proofs.Ytlmgckijbamgpaa
set_option linter.unusedVariables false
set_option linter.unusedSimpArgs false
open Go.ChangeShapes Go.WideShapes Go.ChangeAt Go.RowKit
set_option maxRecDepth 100000

def litR : List ByteArray := [{ data := #[] }, { data := #[97, 98] }, { data := #[116, 101, 120, 116] }]
def RisOf (B K : Nat) (w : World) (e : Ending) (w' : World) : Prop :=
  ∃ s : ByteArray, e = .returned (.string s) ∧ s.size ≤ 402 ∧ PC w' B (K + 300) ∧ Wrote (WS B w.heap.size) w w'
set_option maxHeartbeats 2000000 in
theorem cur_rising (B K : Nat) (w : World) (h : PC w B K) (hK : K ≤ 700000000000) :
    Calls Try.prog 93 #[.pointer (some ⟨B, 0, none⟩)] w (RisOf B K w) := by
  obtain ⟨i0, hi, hz0, hz1, hz2⟩ := info_parts Try.infoFld
  have hBl := h.lt
  have HFS : Hid (FSt w B (K + 20) (.slice none 0 0) [] w) := Lib.hid ⟨World.ownsRow_nil _ _ _ _, h.mono (by omega), Wrote.refl _ _⟩
  clear h
  unfold RisOf
  go_enter Try.func93, Try.ntmps93
  go_wp2_with fail
  go_loopw [3, 4] (fun lv nv wr => ∃ (n : Nat) (v : Value) (l : List Fld), lv = v ∧ nv = .int .i64 (n : Int) ∧ n ≤ 7 ∧ l.length ≤ n ∧ Hid (FSt w B (K + 20 * n) v l wr)) (fun _ nv _ => 7 - (intOf nv).toNat)
  case atStart => exact ⟨1, _, [], rfl, by go_num, by omega, by simp, HFS⟩
  case round =>
    clear HFS
    obtain ⟨w1, rfl⟩ : ∃ z : World, z = wr := ⟨_, rfl⟩
    obtain ⟨n, v, l, rfl, rfl, hn7, hnl, HS⟩ := hrel
    obtain ⟨qa, qc, rfl⟩ := form_of_own HS.out.own
    by_cases hlt : n < 7
    case neg =>
      have hge : ¬ (n : Int) < 7 := by omega
      have HF := Lib.hid (spec_FieldsBytes qa qc l w1 (own_rw HS.out.own) (by omega))
      have hsz := RF_size l
      generalize (R_FieldsBytes l).1 = s at *
      generalize (R_FieldsBytes l).2 = ok at *
      go_wp2_with fail
      refine HF.out.mono ?_
      rintro e w2 ⟨rfl, hb⟩
      have HS2 := Lib.hid (HS.out.ws hBl (ws_below hb (Nat.le_refl _)) (HS.out.pc.later hb)); clear hb HF
      go_wp2_with fail
      refine (cur_one B _ 12 w2 HS2.out.pc (by omega) (by omega)).mono ?_
      rintro e w3 ⟨b, rfl, hp, hw⟩
      have HS3 := Lib.hid (HS2.out.ws hBl (ws_cur hw) hp); clear hp hw
      cases b with
      | false =>
        go_wp2_with fail
        go_ret
        exact ⟨s, rfl, by omega, HS3.out.pc.mono (by omega), HS3.out.wr⟩
      | true =>
        go_wp2_with fail
        refine (cur_spoilt B _ s { data := #[0, 8, 18] } w3 HS3.out.pc (by omega) (by omega) (by decide) (by decide)).mono ?_
        rintro e w4 ⟨t, rfl, ht, hp, hw⟩
        have HS4 := Lib.hid (HS3.out.ws hBl hw hp); clear hp hw
        go_wp2_with fail
        go_ret
        exact ⟨t, rfl, by omega, HS4.out.pc.mono (by omega), HS4.out.wr⟩
    have hlti : (n : Int) < 7 := by omega
    go_wp2_with fail
    refine (cur_one B _ 2 w1 HS.out.pc (by omega) (by omega)).mono ?_
    rintro e w2 ⟨b, rfl, hp, hw⟩
    have HS2 := Lib.hid (HS.out.ws hBl (ws_cur hw) hp); clear hp hw
    cases b with
    | false =>
      go_wp2_with fail
      go_roundw
      case rel => exact ⟨n + 1, _, l, rfl, by go_num, by omega, by omega, Lib.hid (HS2.out.more (by omega))⟩
      case measure => (simp [intOf]; try omega)
    | true =>
    go_wp2_with fail
    refine (cur_small B _ w2 HS2.out.pc (by omega)).mono ?_
    rintro e w3 ⟨x, rfl, hx, hp, hw⟩
    have HS3 := Lib.hid (HS2.out.ws hBl hw hp); clear hp hw
    have hXz := HS3.out.wr.size
    have hvX : ∀ k, (Value.slice qa l.length qc).ownBlock = some k → k < w3.heap.size := fun k hk => (HS3.out.own.lt k hk).2
    have HS4 := Lib.hid (HS3.out.alloc hBl (.cells #[.int .i64 (n : Int), .int .i64 0, .int .i64 x, .string { data := #[] }] 57))
    have HX4 := Lib.hid (heap_alloc_new w3 (.cells #[.int .i64 (n : Int), .int .i64 0, .int .i64 x, .string { data := #[] }] 57))
    have z4 : w3.heap.size < (w3.alloc (.cells #[.int .i64 (n : Int), .int .i64 0, .int .i64 x, .string { data := #[] }] 57)).heap.size := by simp
    go_wp2_with fail
    generalize w3.alloc (.cells #[.int .i64 (n : Int), .int .i64 0, .int .i64 x, .string { data := #[] }] 57) = w4 at *
    refine (cur_one B _ 3 w4 HS4.out.pc (by omega) (by omega)).mono ?_
    rintro e w5 ⟨b, rfl, hp, hw⟩
    have HS5 := Lib.hid (HS4.out.ws hBl (ws_cur hw) hp)
    have hXB : ¬ w3.heap.size = B := by omega
    have HX5 := Lib.hid (hw.heap HX4.out hXB)
    have z5 : w3.heap.size < w5.heap.size := Nat.lt_of_lt_of_le z4 hw.size
    clear hp hw HX4
    cases b with
    | false =>
      obtain ⟨⟨e0, e1, e2, e3⟩, -⟩ := box4 HX5.out
      have HNW := Lib.hid (World.news_of_block (cs := #[Value.int .i64 (Fld.mk (n : Int) 0 x { data := #[] }).no, .int .i64 (Fld.mk (n : Int) 0 x { data := #[] }).kind, .int .i64 (Fld.mk (n : Int) 0 x { data := #[] }).num, .string (Fld.mk (n : Int) 0 x { data := #[] }).data]) (t := 57) (fr := (0, 0)) (heap_alloc_new w5 (.cells #[.int .i64 (Fld.mk (n : Int) 0 x { data := #[] }).no, .int .i64 (Fld.mk (n : Int) 0 x { data := #[] }).kind, .int .i64 (Fld.mk (n : Int) 0 x { data := #[] }).num, .string (Fld.mk (n : Int) 0 x { data := #[] }).data] 57)))
      have hWz := HS5.out.wr.size
      go_wp2_with (at_builtin; refine wpList_append_own _ rfl _ _ 49 rfl w.heap.size 57 i0 (.agg #[.int .i64 0, .int .i64 0, .int .i64 0, .string ByteArray.empty]) 4 40 Try.underlying49 hi hz0 hz1 hz2 rfl (by decide) _ l.length _ rfl (HS5.out.own.alloc _) _ 1 1 [.int .i64 (Fld.mk (n : Int) 0 x { data := #[] }).no, .int .i64 (Fld.mk (n : Int) 0 x { data := #[] }).kind, .int .i64 (Fld.mk (n : Int) 0 x { data := #[] }).num, .string (Fld.mk (n : Int) 0 x { data := #[] }).data] rfl rfl HNW.out (by simp [Value.oneCell']) (by unfold maxLen; omega) (by omega) (Nat.le_trans hWz (by simp)) ?_)
      intro v9 w9 hown hgrow _
      have HS9 := Lib.hid ((HS5.out.alloc hBl _).grow hBl (Fld.mk (n : Int) 0 x { data := #[] }) hown hgrow)
      clear hown hgrow HNW
      go_wp2_with fail
      go_roundw
      case rel => exact ⟨n + 1, _, l ++ [Fld.mk (n : Int) 0 x { data := #[] }], rfl, by go_num, by omega, by simp; omega, Lib.hid (HS9.out.more (by omega))⟩
      case measure => (simp [intOf]; try omega)
    | true =>
      have HBL := Lib.hid ((Below.refl w5.heap.size w5).alloc (Nat.le_refl _) (.cells (litR.map Value.string).toArray 9))
      have HOF := Lib.hid (cur_of B _ litR w5.heap.size 0 3 _ (HS5.out.pc.later HBL.out) (by omega) (by decide) (by decide) (by decide) (by decide) (by have := HS5.out.pc.lt; omega) (lit_cells w5 _ _))
      have HS7 := Lib.hid (HS5.out.alloc hBl (.cells (litR.map Value.string).toArray 9))
      have HX7 := Lib.hid (heap_later HBL.out HX5.out)
      simp only [litR, List.map_cons, List.map_nil] at HOF HS7 HX7
      clear HBL
      go_wp2_with fail
      refine HOF.out.mono ?_
      rintro e w8 ⟨y, hy, rfl, hp, hw⟩
      have HS8 := Lib.hid (HS7.out.ws hBl (ws_cur hw) hp)
      have HX8 := Lib.hid (hw.heap HX7.out hXB)
      obtain ⟨⟨e0, e1, e2, e3⟩, f0, f1, f2, f3⟩ := box4 HX8.out
      have z8 : w3.heap.size < w8.heap.size := Nat.lt_of_lt_of_le z5 (by have := hw.size; simp at this; omega)
      have HS9 := Lib.hid ((((HS8.out.set hBl w3.heap.size 0 (.int .i64 (n : Int)) hXz hvX).set hBl w3.heap.size 1 (.int .i64 2) hXz hvX).set hBl w3.heap.size 2 (.int .i64 0) hXz hvX).set hBl w3.heap.size 3 (.string y) hXz hvX)
      clear hp hw hy HOF HS7 HS5
      clear e0 e1 e2 e3 f0 f1 f2 f3
      obtain ⟨⟨e0, -, -, -⟩, f0, -, -, -⟩ := box4 HX8.out
      have HXA := Lib.hid (box4_s0 HX8.out (.int .i64 (n : Int)))
      generalize hA : w8.setCell ⟨w3.heap.size, 0, none⟩ (.int .i64 (n : Int)) = wA at *
      obtain ⟨⟨-, e1, -, -⟩, -, f1, -, -⟩ := box4 HXA.out
      have HXB := Lib.hid (box4_s1 HXA.out (.int .i64 2))
      generalize hB : wA.setCell ⟨w3.heap.size, 1, none⟩ (.int .i64 2) = wB at *
      obtain ⟨⟨-, -, e2, -⟩, -, -, f2, -⟩ := box4 HXB.out
      have HXC := Lib.hid (box4_s2 HXB.out (.int .i64 0))
      generalize hC : wB.setCell ⟨w3.heap.size, 2, none⟩ (.int .i64 0) = wC at *
      obtain ⟨⟨-, -, -, e3⟩, -, -, -, f3⟩ := box4 HXC.out
      have HXD := Lib.hid (box4_s3 HXC.out (.string y))
      generalize hD : wC.setCell ⟨w3.heap.size, 3, none⟩ (.string y) = w9 at *
      obtain ⟨⟨g0, g1, g2, g3⟩, -⟩ := box4 HXD.out
      have HNW := Lib.hid (World.news_of_block (cs := #[Value.int .i64 (Fld.mk (n : Int) 2 0 y).no, .int .i64 (Fld.mk (n : Int) 2 0 y).kind, .int .i64 (Fld.mk (n : Int) 2 0 y).num, .string (Fld.mk (n : Int) 2 0 y).data]) (t := 57) (fr := (0, 0)) (heap_alloc_new w9 (.cells #[.int .i64 (Fld.mk (n : Int) 2 0 y).no, .int .i64 (Fld.mk (n : Int) 2 0 y).kind, .int .i64 (Fld.mk (n : Int) 2 0 y).num, .string (Fld.mk (n : Int) 2 0 y).data] 57)))
      have hWz := HS9.out.wr.size
      go_wp2_with (at_builtin; refine wpList_append_own _ rfl _ _ 49 rfl w.heap.size 57 i0 (.agg #[.int .i64 0, .int .i64 0, .int .i64 0, .string ByteArray.empty]) 4 40 Try.underlying49 hi hz0 hz1 hz2 rfl (by decide) _ l.length _ rfl (HS9.out.own.alloc _) _ 1 1 [.int .i64 (Fld.mk (n : Int) 2 0 y).no, .int .i64 (Fld.mk (n : Int) 2 0 y).kind, .int .i64 (Fld.mk (n : Int) 2 0 y).num, .string (Fld.mk (n : Int) 2 0 y).data] rfl rfl HNW.out (by simp [Value.oneCell']) (by unfold maxLen; omega) (by omega) (Nat.le_trans hWz (by simp)) ?_)
      intro v9 w9 hown hgrow _
      have HS9 := Lib.hid ((HS9.out.alloc hBl _).grow hBl (Fld.mk (n : Int) 2 0 y) hown hgrow)
      clear hown hgrow HNW
      go_wp2_with fail
      go_roundw
      case rel => exact ⟨n + 1, _, l ++ [Fld.mk (n : Int) 2 0 y], rfl, by go_num, by omega, by simp; omega, Lib.hid (HS9.out.more (by omega))⟩
      case measure => (simp [intOf]; try omega)
end Go.Proofs.Ytlmgckijbamgpaa
