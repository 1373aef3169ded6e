/- A tree told as a schema that must be good: the reference's walk. -/
import Derived.Test.YtmlnecopbncdbaaTyD
import Derived.Test.YtmlnecopbncdbaaTyY
namespace Go.Proofs.Ytmlnecopbncdbaa
set_option linter.unusedVariables false
set_option linter.unusedSimpArgs false
open Go.ChangeShapes Go.WideShapes Go.ChangeAt Go.RowKit
set_option maxRecDepth 100000

mutual
theorem ks_names {S : Nat → Prop} {w : World} (up : Int) (k : Nat) : ∀ (t : Tr) (cs : List Value), KS S w t cs → ∀ x ∈ flatT up k t, x.name.size ≤ maxLen
  | .node kd n o m mo ks, cs, h, x, hx => by
    rw [KS] at h
    obtain ⟨a, c, vss, -, h2, -, -, -, h6⟩ := h
    rw [flatT] at hx
    rcases List.mem_cons.1 hx with rfl | hx
    · exact h2
    · exact kss_names k (k + 1) ks vss h6 x hx
theorem kss_names {S : Nat → Prop} {w : World} (p s : Nat) : ∀ (ts : List Tr) (vss : List (List Value)), KSs S w ts vss → ∀ x ∈ flatL p s ts, x.name.size ≤ maxLen
  | [], vss, h, x, hx => by simp [flatL] at hx
  | t :: r, vss, h, x, hx => by
    rw [KSs] at h
    obtain ⟨v, us, -, h2, h3⟩ := h
    rw [flatL] at hx
    rcases List.mem_append.1 hx with hx | hx
    · exact ks_names (p : Int) s t v h2 x hx
    · exact kss_names p (s + countT t) r us h3 x hx
end
mutual
theorem kp_names {S : Nat → Prop} {w : World} (up : Int) (k : Nat) : ∀ (t : Tr) (v : Value), KP S w t v → ∀ x ∈ flatT up k t, x.name.size ≤ maxLen
  | .node kd n o m mo ks, v, h, x, hx => by
    rw [KP] at h
    obtain ⟨b, a, c, vs, -, -, -, h2, -, -, -, h6⟩ := h
    rw [flatT] at hx
    rcases List.mem_cons.1 hx with rfl | hx
    · exact h2
    · exact kps_names k (k + 1) ks vs h6 x hx
theorem kps_names {S : Nat → Prop} {w : World} (p s : Nat) : ∀ (ts : List Tr) (vs : List Value), KPs S w ts vs → ∀ x ∈ flatL p s ts, x.name.size ≤ maxLen
  | [], vs, h, x, hx => by simp [flatL] at hx
  | t :: r, vs, h, x, hx => by
    rw [KPs] at h
    obtain ⟨v, us, -, h2, h3⟩ := h
    rw [flatL] at hx
    rcases List.mem_append.1 hx with hx | hx
    · exact kp_names (p : Int) s t v h2 x hx
    · exact kps_names p (s + countT t) r us h3 x hx
end
theorem sch_own {w : World} {base : Nat} {L : List Ty} {a : Option Addr} {cap : Nat} (h : w.ownsRow base 85 6 (.slice a L.length cap) L.length (tysV L)) (hl : L.length ≤ 1048576) (hn : ∀ x ∈ L, x.name.size ≤ maxLen) : Sch w.heap.size w L a cap :=
  ⟨(own_cap h).1, (own_cap h).2, hl, hn, (own_rw h).rb, Nat.le_refl _⟩
set_option maxHeartbeats 2000000 in
theorem spec_l2Tell {S : Nat → Prop} {w : World} {t : Tr} {cs : List Value} (h : KS S w t cs) (hl : countT t ≤ 1048576) (hwf : WfT t) : Calls Try.prog 36 #[.agg cs.toArray] w (TellO t w) := by
  have hnms := ks_names (-1) 0 t cs h
  have hgf := flat_good hwf
  obtain ⟨ka, kc, vss, rfl, hnm, hkc, hcm, hrow, hks⟩ := h.open
  have hB1 := Below.alloc (Below.refl w.heap.size w) (Nat.le_refl _) (.cells #[.int .i64 t.kind, .string t.name, .int .i64 t.no, .bool t.must, .int .i64 t.most, .slice ka t.kids.length kc] 59)
  have hX1 := heap_alloc_new w (.cells #[.int .i64 t.kind, .string t.name, .int .i64 t.no, .bool t.must, .int .i64 t.most, .slice ka t.kids.length kc] 59)
  generalize hw1 : w.alloc (.cells #[.int .i64 t.kind, .string t.name, .int .i64 t.no, .bool t.must, .int .i64 t.most, .slice ka t.kids.length kc] 59) = w1 at *
  have l1 := hp_lt hX1
  have hB2 := hB1.alloc (Nat.le_of_lt l1) (.cells #[.slice none 0 0] 28)
  have hX1 := hp_alloc (.cells #[.slice none 0 0] 28) hX1
  have hX2 := heap_alloc_new w1 (.cells #[.slice none 0 0] 28)
  generalize hw2 : w1.alloc (.cells #[.slice none 0 0] 28) = w2 at *
  have l2 := hp_lt hX2
  have HF := Lib.hid (spec_l2Flat w.heap.size _ w2 t _ [] (.slice none 0 0) (-1) (Nat.le_refl _) (h.keep (T := S) (kept_below hB2) (fun _ h _ => h)) (World.ownsRow_nil _ _ _ _) (by omega) (fun k _ => by simp [Value.ownBlock]) (by simpa using hl))
  simp only [List.nil_append, List.length_nil] at HF
  unfold FlatO at HF
  have HX2 := Lib.hid hX2
  have HB2 := Lib.hid hB2
  have HNM := Lib.hid hnms
  have HLN : Hid ((flatT (-1) 0 t).length = countT t) := Lib.hid (flatT_len _ _ _)
  have HGF : Hid (goodL (flatT (-1) 0 t) = goodT t) := Lib.hid hgf
  have HGL : Hid (tellL t = if goodT t = true then flatT (-1) 0 t else []) := Lib.hid rfl
  obtain ⟨x0, x1, x2, x3, x4, x5⟩ := box6 hX1
  unfold TellO
  clear h hB1 hX1 hB2 hX2 hnms hgf hrow hks
  generalize flatT (-1) 0 t = F at *
  generalize tellL t = TL at *
  show Calls Try.prog 36 #[.agg #[.int .i64 t.kind, .string t.name, .int .i64 t.no, .bool t.must, .int .i64 t.most, .slice ka t.kids.length kc]] w _
  cases hg : goodT t
  all_goals
    go_enter Try.func36, Try.ntmps36
    go_wp2_with fail
    refine HF.out.mono ?_
    rintro e w3 ⟨v, rfl, ho, hw, hv⟩
    have hnot : ∀ k, (Value.slice none 0 0).ownBlock = some k → False := fun k e => by simp [Value.ownBlock] at e
    have hv3 : ∀ k, v.ownBlock = some k → w2.heap.size ≤ k := by
      rcases hv with h | h
      · intro k hk; rw [h] at hk; exact (hnot _ hk).elim
      · exact h
    obtain ⟨va, vc, rfl⟩ := form_of_own ho
    have HO3 := Lib.hid ho
    have HV3 := Lib.hid hv3
    have HX3 := Lib.hid ((hw.block w1.heap.size (by omega) (fun e => hnot _ e)).trans HX2.out)
    have HB3 := Lib.hid (HB2.out.trans (hw.below (B := w.heap.size) (by omega) (fun k hk => (hnot _ hk).elim)))
    have hz3 := hw.size
    clear ho hw hv hv3
    have HB4 := Lib.hid (HB3.out.alloc HB3.out.size (.cells #[.slice va F.length vc] 28))
    have HO4 := Lib.hid (HO3.out.alloc (.cells #[.slice va F.length vc] 28))
    have HX4 := Lib.hid (hp_alloc (.cells #[.slice va F.length vc] 28) HX3.out)
    have HN4 := Lib.hid (heap_alloc_new w3 (.cells #[.slice va F.length vc] 28))
    have HGS := Lib.hid (spec_GoodSchema (sch_own HO4.out (by rw [HLN.out]; exact hl) HNM.out))
    rw [HGF.out, hg] at HGS
    rw [hg] at HGL
    have l4 : w3.heap.size < (w3.alloc (.cells #[.slice va F.length vc] 28)).heap.size := by simp
    go_wp2_with fail
    refine HGS.out.mono ?_
    rintro e w5 ⟨rfl, hb⟩
    have HB5 := Lib.hid (HB4.out.trans (hb.mono HB4.out.size))
    have HX5 := Lib.hid (hp_later hb HX4.out)
    have HN5 := Lib.hid (hp_later hb HN4.out)
    have HO5 := Lib.hid (own_later HO4.out hb)
    have x0 : w5.cell? ⟨w1.heap.size, 0, none⟩ = some (.slice none 0 0) := by simp [World.cell?, HX5.out]
    have f0 : w5.frozen? ⟨w1.heap.size, 0, none⟩ = false := by simp [World.frozen?, HX5.out]
    have n0 : w5.cell? ⟨w3.heap.size, 0, none⟩ = some (.slice va F.length vc) := by simp [World.cell?, HN5.out]
    clear hb x1 x2 x3 x4 x5
  · have y0 : (w5.setCell ⟨w1.heap.size, 0, none⟩ (.slice none 0 0)).cell? ⟨w1.heap.size, 0, none⟩ = some (.slice none 0 0) := by simp [World.setCell, Array.getElem?_modify, HX5.out, World.cell?]
    go_wp2_with fail
    refine bodyPost_ret (v := .tuple #[.agg #[.slice none 0 0], .bool false]) (by simp [results, Try.results36, go_sem, y0]) rfl ?_
    exact ⟨_, rfl, by rw [HGL.out]; exact World.ownsRow_nil _ _ _ _, below_set HB5.out (Nat.le_of_lt l1) 0 _⟩
  · have y0 : (w5.setCell ⟨w1.heap.size, 0, none⟩ (.slice va F.length vc)).cell? ⟨w1.heap.size, 0, none⟩ = some (.slice va F.length vc) := by simp [World.setCell, Array.getElem?_modify, HX5.out, World.cell?]
    have HO6 := Lib.hid ((wrote_cell w5 w1.heap.size 0 (.slice va F.length vc)).own HO5.out (fun k hk => by have := HV3.out k hk; omega))
    go_wp2_with fail
    refine bodyPost_ret (v := .tuple #[.agg #[.slice va F.length vc], .bool true]) (by simp [results, Try.results36, go_sem, y0]) rfl ?_
    exact ⟨_, rfl, by rw [HGL.out]; exact HO6.out, below_set HB5.out (Nat.le_of_lt l1) 0 _⟩
end Go.Proofs.Ytmlnecopbncdbaa
