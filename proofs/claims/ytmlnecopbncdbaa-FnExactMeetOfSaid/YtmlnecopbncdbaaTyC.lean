/- A tree told as a row: the reference's walk and the program's. -/
import Derived.Test.YtmlnecopbncdbaaTyX
namespace Go.Proofs.Ytmlnecopbncdbaa
set_option linter.unusedVariables false
set_option linter.unusedSimpArgs false
open Go.ChangeShapes Go.WideShapes Go.ChangeAt Go.RowKit
set_option maxRecDepth 100000

theorem Try.infoTyp : (Try.prog.info? 85).map (fun i => (i.zero, i.size, i.bytes)) = some (some (.agg #[.int .i64 0, .string ByteArray.empty, .int .i64 0, .bool false, .int .i64 0, .int .i64 0]), 6, 56) := by kernel_rfl
theorem flatL_snoc (p : Nat) : ∀ (l : List Tr) (s : Nat) (t : Tr), flatL p s (l ++ [t]) = flatL p s l ++ flatT (p : Int) (s + countL l) t
  | [], s, t => by simp [flatL, countL]
  | x :: r, s, t => by rw [List.cons_append, flatL, flatL_snoc p r, flatL, countL, List.append_assoc, Nat.add_assoc]
theorem flatT_eq (up : Int) (k : Nat) (t : Tr) : flatT up k t = Ty.mk t.kind t.name t.no t.must up t.most :: flatL k (k + 1) t.kids := by
  cases t with
  | node kd n o m mo ks => rw [flatT]; rfl
theorem wrote_grow2 {S : Nat → Prop} {a b c : World} {row : Option Nat} (h : Wrote S a b) (hg : b.grownBy c row) (hr : ∀ k, k < a.heap.size → row = some k → S k) : Wrote S a c :=
  ⟨hg.os.trans h.os, hg.tape.trans h.tape, hg.output.trans h.output, Nat.le_trans h.size hg.size, fun k hk hs => (hg.block k (Nat.lt_of_lt_of_le hk h.size) (fun e => hs (hr k hk e.symm))).trans (h.block k hk hs)⟩
theorem Wrote.then {S T : Nat → Prop} {a b c : World} (h : Wrote S a b) (g : Wrote T b c) (hr : ∀ k, k < a.heap.size → T k → S k) : Wrote S a c :=
  ⟨g.os.trans h.os, g.tape.trans h.tape, g.output.trans h.output, Nat.le_trans h.size g.size, fun k hk hs => (g.block k (Nat.lt_of_lt_of_le hk h.size) (fun e => hs (hr k hk e))).trans (h.block k hk hs)⟩
theorem Wrote.kept {S T : Nat → Prop} {a b : World} (h : Wrote S a b) (hr : ∀ k, T k → ¬ S k) : Kept T a b := ⟨h.size, fun k hk hl => h.block k hl (hr k hk)⟩
/-- what a tree is told as, behind a row of one's own -/
def FlatO (base : Nat) (L : List Ty) (v0 : Value) (w : World) (e : Ending) (w' : World) : Prop :=
  ∃ v, e = .returned v ∧ w'.ownsRow base 85 6 v L.length (tysV L) ∧ Wrote (fun k => v0.ownBlock = some k) w w' ∧ (v.ownBlock = v0.ownBlock ∨ ∀ k, v.ownBlock = some k → w.heap.size ≤ k)
set_option maxHeartbeats 4000000 in
theorem spec_l2Flat_one {S : Nat → Prop} {w : World} {t : Tr} {cs : List Value} (base : Nat) (L0 : List Ty) (v0 : Value) (up : Int) (h : KS S w t cs) (ho : w.ownsRow base 85 6 v0 L0.length (tysV L0)) (hb : base ≤ w.heap.size) (hS : ∀ k, S k → v0.ownBlock ≠ some k) (hl : L0.length + countT t ≤ 1048576)
    (IH : ∀ (T : Nat → Prop) (wx : World) (x : Tr) (v : List Value) (L1 : List Ty) (v1 : Value), x ∈ t.kids → KS T wx x v → wx.ownsRow base 85 6 v1 L1.length (tysV L1) → base ≤ wx.heap.size → (∀ k, T k → v1.ownBlock ≠ some k) → L1.length + countT x ≤ 1048576 → Calls Try.prog 67 #[.agg v.toArray, .int .i64 (L0.length : Int), v1] wx (FlatO base (L1 ++ flatT (L0.length : Int) L1.length x) v1 wx)) :
    Calls Try.prog 67 #[.agg cs.toArray, .int .i64 up, v0] w (FlatO base (L0 ++ flatT up L0.length t) v0 w) := by
  obtain ⟨i0, hi0, hz0, hz1, hz2⟩ := info_parts Try.infoTyp
  have hcl := countT_eq t
  have hln := count_len t.kids
  obtain ⟨va0, vc0, rfl⟩ := form_of_own ho
  have hcap0 := own_cap ho
  rw [flatT_eq]
  obtain ⟨a, c, vss, rfl, hnm, hkc, hcm, hrow, hks⟩ := h.open
  have hB1 := Below.alloc (Below.refl w.heap.size w) (Nat.le_refl _) (.cells #[.int .i64 t.kind, .string t.name, .int .i64 t.no, .bool t.must, .int .i64 t.most, .slice a t.kids.length c] 59)
  have hX := heap_alloc_new w (.cells #[.int .i64 t.kind, .string t.name, .int .i64 t.no, .bool t.must, .int .i64 t.most, .slice a t.kids.length c] 59)
  generalize hw1 : w.alloc (.cells #[.int .i64 t.kind, .string t.name, .int .i64 t.no, .bool t.must, .int .i64 t.most, .slice a t.kids.length c] 59) = w1 at *
  have hwl := hp_lt hX
  have HB1 := Lib.hid hB1
  have HX := Lib.hid hX
  have HO1 := Lib.hid (own_later ho hB1)
  have HROW := Lib.hid hrow; have HKS := Lib.hid hks; have HIH := Lib.hid IH; have HS := Lib.hid hS
  have HO := Lib.hid ho
  obtain ⟨x0, x1, x2, x3, x4, x5⟩ := box6 hX
  generalize t.kids = ks at *
  unfold FlatO
  clear hrow hks IH h hB1 hX hS ho
  show Calls Try.prog 67 #[.agg #[.int .i64 t.kind, .string t.name, .int .i64 t.no, .bool t.must, .int .i64 t.most, .slice a ks.length c], _, _] w _
  go_enter Try.func67, Try.ntmps67
  go_wp2_with (at_builtin; refine wpList_append_lies _ rfl _ _ 26 rfl base 85 i0 (.agg #[.int .i64 0, .string ByteArray.empty, .int .i64 0, .bool false, .int .i64 0, .int .i64 0]) 6 56 Try.underlying26 hi0 hz0 hz1 hz2 rfl (by decide) _ L0.length _ rfl (HO1.out.alloc _) ⟨w1.heap.size, 0, none⟩ 1 1 [.int .i64 t.kind, .string t.name, .int .i64 t.no, .bool t.must, .int .i64 up, .int .i64 t.most] rfl rfl (World.news_of_block (cs := #[.int .i64 t.kind, .string t.name, .int .i64 t.no, .bool t.must, .int .i64 up, .int .i64 t.most]) (t := 85) (fr := (0, 0)) (heap_alloc_new w1 _)) (by simp [Value.oneCell']) (by omega) (by unfold maxLen; omega) (by omega) (by simp; omega) (w1.heap.size + 1) (by simp) ?_)
  intro g cp w2 hown hgrow hat hlt
  have HX2 := Lib.hid (hp_grown hgrow (hp_alloc (.cells #[.int .i64 t.kind, .string t.name, .int .i64 t.no, .bool t.must, .int .i64 up, .int .i64 t.most] 85) HX.out) (fun e => by have := (HO.out.lt _ e).2; omega))
  have HW2 := Lib.hid (wrote_grow2 (S := fun k => (Value.slice va0 L0.length vc0).ownBlock = some k) (Wrote.of_below (HB1.out.alloc (Nat.le_of_lt hwl) (.cells #[.int .i64 t.kind, .string t.name, .int .i64 t.no, .bool t.must, .int .i64 up, .int .i64 t.most] 85))) hgrow (fun k _ hk => hk))
  have HO2 : Hid (w2.ownsRow base 85 6 (.slice (some ⟨g, 0, none⟩) (L0.length + 1) cp) (L0 ++ [Ty.mk t.kind t.name t.no t.must up t.most]).length (tysV (L0 ++ [Ty.mk t.kind t.name t.no t.must up t.most]))) := Lib.hid (by rw [tysV_snoc, List.length_append]; exact hown)
  have HV2 : Hid ((Value.slice (some ⟨g, 0, none⟩) (L0.length + 1) cp).ownBlock = (Value.slice va0 L0.length vc0).ownBlock ∨ ∀ k, (Value.slice (some ⟨g, 0, none⟩) (L0.length + 1) cp).ownBlock = some k → w.heap.size ≤ k) := Lib.hid (by
    rcases hat with e | e
    · exact .inl e.symm
    · refine .inr (fun k hk => ?_)
      simp only [Value.ownBlock, Option.some.injEq] at hk
      omega)
  have hz2 := HW2.out.size
  clear hown hgrow hat hlt x0 x1 x2 x3 x4 x5
  obtain ⟨x0, x1, x2, x3, x4, x5⟩ := box6 HX2.out
  go_wp2_with fail
  go_loopw [2, 30] (fun lv iv wr => ∃ (i : Nat) (L1 : List Ty), i ≤ ks.length ∧ iv = .int .i64 (i : Int) ∧ Hid (L1 = L0 ++ [Ty.mk t.kind t.name t.no t.must up t.most] ++ flatL L0.length (L0.length + 1) (ks.take i)) ∧ Hid (wr.ownsRow base 85 6 lv L1.length (tysV L1)) ∧ Hid (Wrote (fun k => (Value.slice va0 L0.length vc0).ownBlock = some k) w wr) ∧ Hid (lv.ownBlock = (Value.slice va0 L0.length vc0).ownBlock ∨ ∀ k, lv.ownBlock = some k → w.heap.size ≤ k)) (fun _ iv _ => ks.length - (intOf iv).toNat)
  case atStart => exact ⟨0, _, by omega, rfl, Lib.hid (by rw [List.take_zero, flatL, List.append_nil]), HO2, HW2, HV2⟩
  case round =>
    obtain ⟨wo, rfl⟩ : ∃ z : World, z = wr := ⟨_, rfl⟩
    obtain ⟨i, L1, hi, rfl, HL, HO3, HW, HV⟩ := hrel
    obtain ⟨la, lc, rfl⟩ := form_of_own HO3.out
    have hzo := HW.out.size
    by_cases hil : i < ks.length
    case neg =>
      obtain rfl : i = ks.length := by omega
      go_wp2_with fail
      go_ret
      refine ⟨_, rfl, ?_, HW.out, HV.out⟩
      have e : L0 ++ Ty.mk t.kind t.name t.no t.must up t.most :: flatL L0.length (L0.length + 1) ks = L1 := by rw [HL.out, List.take_length]; simp
      rw [e]
      exact HO3.out
    obtain ⟨x, hx⟩ : ∃ x, ks[i]? = some x := ⟨ks[i], List.getElem?_eq_getElem hil⟩
    have hkp := HW.out.kept (T := S) (fun k hk e => HS.out k hk e)
    obtain ⟨rb, off, va, ca, rfl, hrb, r0, r1, r2, r3, r4, r5, hks, -⟩ := kss_at (HROW.out.keep (T := fun q => S q ∧ q < w.heap.size) hkp (fun q h1 h2 => ⟨h1, h2⟩)) (KSs.keep (T := fun q => S q ∧ q < w.heap.size) hkp (fun q h1 h2 => ⟨h1, h2⟩) _ _ HKS.out) (Below.refl _ wo) hx
    have HBN := Lib.hid ((Below.refl wo.heap.size wo).alloc (Nat.le_refl _) (.cells #[.int .i64 x.kind, .string x.name, .int .i64 x.no, .bool x.must, .int .i64 x.most, .slice va x.kids.length ca] 59))
    have hcx := countL_take ks (i + 1)
    rw [take_snocT hx, countL_snoc] at hcx
    have hL1 : L1.length = L0.length + 1 + countL (ks.take i) := by rw [HL.out]; simp [flatL_len]; omega
    have HC := Lib.hid (HIH.out (fun q => S q ∧ q < w.heap.size) (wo.alloc (.cells #[.int .i64 x.kind, .string x.name, .int .i64 x.no, .bool x.must, .int .i64 x.most, .slice va x.kids.length ca] 59)) x _ L1 _ (List.mem_of_getElem? hx) (hks.keep (kept_below HBN.out) (fun _ h _ => h)) (own_later HO3.out HBN.out) (by have := HBN.out.size; omega) (fun k hk e => by
      rcases HV.out with h | h
      · rw [h] at e; exact HS.out k hk.1 e
      · have := h k e; have := hk.2; omega) (by omega))
    have HLN : Hid (L1 ++ flatT (L0.length : Int) L1.length x = L0 ++ [Ty.mk t.kind t.name t.no t.must up t.most] ++ flatL L0.length (L0.length + 1) (ks.take (i + 1))) := Lib.hid (by
      rw [take_snocT hx, flatL_snoc, hL1, HL.out]; simp)
    clear hx hks hkp hcx hL1
    go_wp2_with fail
    refine HC.out.mono ?_
    rintro e w3 ⟨v3, rfl, ho3, hw3, hv3⟩
    have HO4 := Lib.hid ho3
    have HW4 := Lib.hid ((HW.out.trans (Wrote.of_below HBN.out)).then hw3 (fun k hk e => by
      rcases HV.out with h | h
      · rw [← h]; exact e
      · have := h k e; omega))
    have HV4 : Hid (v3.ownBlock = (Value.slice va0 L0.length vc0).ownBlock ∨ ∀ k, v3.ownBlock = some k → w.heap.size ≤ k) := Lib.hid (by
      rcases hv3 with h | h
      · rw [h]; exact HV.out
      · exact .inr (fun k hk => by have := h k hk; have := HBN.out.size; omega))
    clear ho3 hw3 hv3
    go_wp2_with fail
    go_roundw
    case rel => exact ⟨i + 1, _, by omega, by go_num, HLN, HO4, HW4, HV4⟩
    case measure => (simp [intOf]; try omega)
theorem spec_l2Flat (base : Nat) : ∀ (f : Nat) {S : Nat → Prop} (w : World) (t : Tr) (cs : List Value) (L0 : List Ty) (v0 : Value) (up : Int), countT t ≤ f → KS S w t cs → w.ownsRow base 85 6 v0 L0.length (tysV L0) → base ≤ w.heap.size → (∀ k, S k → v0.ownBlock ≠ some k) → L0.length + countT t ≤ 1048576 → Calls Try.prog 67 #[.agg cs.toArray, .int .i64 up, v0] w (FlatO base (L0 ++ flatT up L0.length t) v0 w)
  | 0, S, w, t, cs, L0, v0, up, hf, _, _, _, _, _ => by have := countT_pos t; omega
  | f + 1, S, w, t, cs, L0, v0, up, hf, h, ho, hb, hS, hl => spec_l2Flat_one base L0 v0 up h ho hb hS hl (fun T wx x v L1 v1 hx hk ho1 hb1 hT hl1 => by
      have h1 := count_mem hx
      have h2 := count_kids t
      exact spec_l2Flat base f wx x v L1 v1 _ (by omega) hk ho1 hb1 hT hl1)
end Go.Proofs.Ytmlnecopbncdbaa
