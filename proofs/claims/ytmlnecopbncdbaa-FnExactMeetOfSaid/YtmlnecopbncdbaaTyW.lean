/- How deep a tree is: the reference's walk. -/
import Derived.Test.YtmlnecopbncdbaaTyV
namespace Go.Proofs.Ytmlnecopbncdbaa
set_option linter.unusedVariables false
set_option linter.unusedSimpArgs false
open Go.ChangeShapes Go.WideShapes Go.ChangeAt Go.RowKit
set_option maxRecDepth 100000

theorem KS.open {S : Nat → Prop} {w : World} {t : Tr} {cs : List Value} (h : KS S w t cs) : ∃ a c vss, cs = [.int .i64 t.kind, .string t.name, .int .i64 t.no, .bool t.must, .int .i64 t.most, .slice a t.kids.length c] ∧ t.name.size ≤ maxLen ∧ t.kids.length ≤ c ∧ c ≤ 9223372036854775807 ∧ RS S w a (List.flatten vss) ∧ KSs S w t.kids vss := by
  match t, h with
  | .node k nm no m mo ks, h =>
    rw [KS] at h
    exact h
/-- a part by value in memory, in a later world -/
theorem kss_at {S : Nat → Prop} {w wr : World} {a : Option Addr} {ks : List Tr} {vss : List (List Value)} (hrow : RS S w a (List.flatten vss)) (hks : KSs S w ks vss) (hB : Below w.heap.size w wr) {i : Nat} {t : Tr} (ht : ks[i]? = some t) :
    ∃ b off va c, a = some ⟨b, off, none⟩ ∧ b < w.heap.size ∧ wr.cell? ⟨b, off + i * 6, none⟩ = some (.int .i64 t.kind) ∧ wr.cell? ⟨b, off + i * 6 + 1, none⟩ = some (.string t.name) ∧ wr.cell? ⟨b, off + i * 6 + 2, none⟩ = some (.int .i64 t.no) ∧ wr.cell? ⟨b, off + i * 6 + 3, none⟩ = some (.bool t.must) ∧ wr.cell? ⟨b, off + i * 6 + 4, none⟩ = some (.int .i64 t.most) ∧ wr.cell? ⟨b, off + i * 6 + 5, none⟩ = some (.slice va t.kids.length c) ∧ KS S w t [.int .i64 t.kind, .string t.name, .int .i64 t.no, .bool t.must, .int .i64 t.most, .slice va t.kids.length c] ∧ t.kids.length ≤ c ∧ c ≤ 9223372036854775807 ∧ t.name.size ≤ maxLen := by
  obtain ⟨v, hv, hk⟩ := hks.at ht
  have h6 := hks.len.2
  obtain ⟨va, c, ws, rfl, h5, h7, h8, -⟩ := hk.open
  have key : ∀ j u, [Value.int .i64 t.kind, .string t.name, .int .i64 t.no, .bool t.must, .int .i64 t.most, .slice va t.kids.length c][j]? = some u → (List.flatten vss)[i * 6 + j]? = some u := fun j u hj => by
    rw [flat_six vss i _ j h6 hv (by have := (List.getElem?_eq_some_iff.1 hj).1; simpa using this)]; exact hj
  obtain ⟨b, off, rfl, hb, hc⟩ := hrow.rw.at (by intro e; have := key 0 _ rfl; rw [e] at this; simp at this)
  refine ⟨b, off, va, c, rfl, hb, below_later hB (hc _ _ (key 0 _ rfl)), ?_, ?_, ?_, ?_, ?_, hk, h7, h8, h5⟩
  · rw [Nat.add_assoc]; exact below_later hB (hc _ _ (key 1 _ rfl))
  · rw [Nat.add_assoc]; exact below_later hB (hc _ _ (key 2 _ rfl))
  · rw [Nat.add_assoc]; exact below_later hB (hc _ _ (key 3 _ rfl))
  · rw [Nat.add_assoc]; exact below_later hB (hc _ _ (key 4 _ rfl))
  · rw [Nat.add_assoc]; exact below_later hB (hc _ _ (key 5 _ rfl))
set_option maxHeartbeats 4000000 in
theorem spec_l2Deep_one {S : Nat → Prop} {w : World} {t : Tr} {cs : List Value} (h : KS S w t cs) (hl : countT t ≤ 1048576) (IH : ∀ (wx : World) (x : Tr) (v : List Value), x ∈ t.kids → KS S wx x v → Calls Try.prog 59 #[.agg v.toArray] wx fun e w' => e = .returned (.int .i64 (deepT x : Int)) ∧ Below wx.heap.size wx w') :
    Calls Try.prog 59 #[.agg cs.toArray] w fun e w' => e = .returned (.int .i64 (deepT t : Int)) ∧ Below w.heap.size w w' := by
  have hcl := count_kids t
  have hln := count_len t.kids
  obtain ⟨a, c, vss, rfl, hnm, hkc, hcm, hrow, hks⟩ := h.open
  have HHO := Lib.hid (fun wx => spec_holds t.kind wx)
  have hB1 := Below.alloc (Below.refl w.heap.size w) (Nat.le_refl _) (.cells #[.int .i64 t.kind, .string t.name, .int .i64 t.no, .bool t.must, .int .i64 t.most, .slice a t.kids.length c] 59)
  have hX := heap_alloc_new w (.cells #[.int .i64 t.kind, .string t.name, .int .i64 t.no, .bool t.must, .int .i64 t.most, .slice a t.kids.length c] 59)
  generalize hw1 : w.alloc (.cells #[.int .i64 t.kind, .string t.name, .int .i64 t.no, .bool t.must, .int .i64 t.most, .slice a t.kids.length c] 59) = w1 at *
  have hwl := hp_lt hX
  have HB1 := Lib.hid hB1
  have HROW := Lib.hid (hrow.keep (T := S) (kept_below hB1) (fun _ h _ => h)); have HKS := Lib.hid (KSs.keep (T := S) (kept_below hB1) (fun _ h _ => h) _ _ hks); have HIH := Lib.hid IH
  have HDL := Lib.hid (deepL_le t.kids)
  have HX := Lib.hid hX
  obtain ⟨x0, x1, x2, x3, x4, x5⟩ := box6 hX
  rw [deepT_eq]
  generalize t.kids = ks at *
  clear hrow hks IH h hB1 hX
  show Calls Try.prog 59 #[.agg #[.int .i64 t.kind, .string t.name, .int .i64 t.no, .bool t.must, .int .i64 t.most, .slice a ks.length c]] w _
  cases hh : holdsK t.kind
  all_goals
    rw [hh] at HHO
    simp only [Bool.false_eq_true, if_false, if_true]
    go_enter Try.func59, Try.ntmps59
    go_wp2_with fail
    go_loopw [3, 10] (fun dv iv wr => ∃ i : Nat, i ≤ ks.length ∧ iv = .int .i64 (i : Int) ∧ dv = .int .i64 (deepL (ks.take i) : Int) ∧ Hid (Below w1.heap.size w1 wr)) (fun _ iv _ => ks.length - (intOf iv).toNat)
    case atStart => exact ⟨0, by omega, rfl, by simp [deepL], Lib.hid (Below.refl _ _)⟩
    case round =>
      obtain ⟨wo, rfl⟩ : ∃ z : World, z = wr := ⟨_, rfl⟩
      obtain ⟨i, hi, rfl, rfl, HB⟩ := hrel
      have hzo := HB.out.size
      by_cases hil : i < ks.length
      case neg =>
        obtain rfl : i = ks.length := by omega
        rw [List.take_length]
        have hd := HDL.out
        have y0 := below_later HB.out x0
        go_wp2_with fail
        refine (HHO.out _).mono ?_
        rintro e w' ⟨rfl, rfl⟩
        go_wp2_with fail
        go_ret
        exact ⟨by first | rfl | simp, HB1.out.trans (HB.out.mono HB1.out.size)⟩
      obtain ⟨x, hx⟩ : ∃ x, ks[i]? = some x := ⟨ks[i], List.getElem?_eq_getElem hil⟩
      obtain ⟨rb, off, va, ca, rfl, hrb, r0, r1, r2, r3, r4, r5, hkp, -⟩ := kss_at HROW.out HKS.out HB.out hx
      have HBN := Lib.hid (HB.out.alloc HB.out.size (.cells #[.int .i64 x.kind, .string x.name, .int .i64 x.no, .bool x.must, .int .i64 x.most, .slice va x.kids.length ca] 59))
      have HC := Lib.hid (HIH.out (wo.alloc (.cells #[.int .i64 x.kind, .string x.name, .int .i64 x.no, .bool x.must, .int .i64 x.most, .slice va x.kids.length ca] 59)) x _ (List.mem_of_getElem? hx) (hkp.keep (kept_below HBN.out) (fun _ h _ => h)))
      have HE : Hid (((deepL (ks.take (i + 1)) : Nat) : Int) = if (deepL (ks.take i) : Int) < (deepT x : Int) then (deepT x : Int) else (deepL (ks.take i) : Int)) := Lib.hid (by rw [take_snocT hx, deepL_snoc]; split <;> omega)
      have hrbo : rb < wo.heap.size := by omega
      clear hx hkp
      by_cases hgt : (deepL (ks.take i) : Int) < (deepT x : Int)
      · rw [if_pos hgt] at HE
        have hgt2 : (deepT x : Int) > (deepL (ks.take i) : Int) := hgt
        go_wp2_with fail
        refine HC.out.mono ?_
        rintro e w3 ⟨rfl, hb3⟩
        have HB3 := Lib.hid (HBN.out.trans (hb3.mono HBN.out.size))
        clear hb3
        go_wp2_with fail
        go_roundw
        case rel => exact ⟨i + 1, by omega, by go_num, by rw [HE.out], HB3⟩
        case measure => (simp [intOf]; try omega)
      · rw [if_neg hgt] at HE
        have hgt2 : ¬ (deepT x : Int) > (deepL (ks.take i) : Int) := hgt
        go_wp2_with fail
        refine HC.out.mono ?_
        rintro e w3 ⟨rfl, hb3⟩
        have HB3 := Lib.hid (HBN.out.trans (hb3.mono HBN.out.size))
        clear hb3
        go_wp2_with fail
        go_roundw
        case rel => exact ⟨i + 1, by omega, by go_num, by rw [HE.out], HB3⟩
        case measure => (simp [intOf]; try omega)
theorem spec_l2Deep {S : Nat → Prop} : ∀ (f : Nat) (w : World) (t : Tr) (cs : List Value), countT t ≤ f → KS S w t cs → countT t ≤ 1048576 → Calls Try.prog 59 #[.agg cs.toArray] w fun e w' => e = .returned (.int .i64 (deepT t : Int)) ∧ Below w.heap.size w w'
  | 0, w, t, p, hf, _, _ => by have := countT_pos t; omega
  | f + 1, w, t, p, hf, h, hl => spec_l2Deep_one h hl (fun wx x v hx hk => by
      have h1 := count_mem hx
      have h2 := count_kids t
      exact spec_l2Deep f wx x v (by omega) hk (by omega))
end Go.Proofs.Ytmlnecopbncdbaa
