/- What both of two types tell: the reference puts a part where its number says. -/
import Derived.Test.YtmlnecopbncdbaaMtP
namespace Go.Proofs.Ytmlnecopbncdbaa
set_option linter.unusedVariables false
set_option linter.unusedSimpArgs false
open Go.ChangeShapes Go.WideShapes Go.ChangeAt Go.RowKit
set_option maxRecDepth 100000

/-- what the reference's putting hands back -/
def PutO (S : Nat → Prop) (k : Int) (nm : ByteArray) (no : Int) (m : Bool) (mo : Int) (ts : List Tr) (x : Tr) (w : World) (e : Ending) (w' : World) : Prop :=
  ∃ v vss, e = .returned (.agg #[.int .i64 k, .string nm, .int .i64 no, .bool m, .int .i64 mo, v]) ∧ Below w.heap.size w w' ∧ w'.ownsRow w.heap.size 59 6 v (ts.length + 1) (List.flatten vss) ∧ KSs S w' (putNo ts x) vss
theorem news6_take {w : World} {base : Nat} {e : TypeId} {g cap n : Nat} {vss : List (List Value)} (h6 : ∀ v ∈ vss, v.length = 6) (h : w.ownsRow base e 6 (.slice (some ⟨g, 0, none⟩) n cap) n vss.flatten) (k : Nat) : ∀ (j : Nat) (u : Value), ((vss.take k).flatten)[j]? = some u → w.cell? ((⟨g, 0, none⟩ : Addr).add j) = some u := by
  intro j u hu
  rw [← flat_take6 vss k h6, List.getElem?_take] at hu
  split at hu
  · exact h.cells rfl j u hu
  · cases hu
theorem news6_drop {w : World} {base : Nat} {e : TypeId} {g cap n : Nat} {vss : List (List Value)} (h6 : ∀ v ∈ vss, v.length = 6) (h : w.ownsRow base e 6 (.slice (some ⟨g, 0, none⟩) n cap) n vss.flatten) (k : Nat) : ∀ (j : Nat) (u : Value), ((vss.drop k).flatten)[j]? = some u → w.cell? ((⟨g, k * 6, none⟩ : Addr).add j) = some u := by
  intro j u hu
  rw [← flat_drop6 vss k h6, List.getElem?_drop] at hu
  have h1 := h.cells rfl (k * 6 + j) u hu
  have e : ((⟨g, k * 6, none⟩ : Addr).add j) = (⟨g, 0, none⟩ : Addr).add (k * 6 + j) := by unfold Addr.add; split <;> simp_all
  rw [e]; exact h1
set_option maxHeartbeats 4000000 in
theorem spec_put_nil {S : Nat → Prop} {w : World} (k : Int) (nm : ByteArray) (no : Int) (m : Bool) (mo : Int) {x : Tr} {px : List Value} (hx : KS S w x px) : Calls Try.prog 66 #[.agg #[.int .i64 k, .string nm, .int .i64 no, .bool m, .int .i64 mo, .slice none 0 0], .agg px.toArray] w (PutO S k nm no m mo [] x w) := by
  obtain ⟨i0, hi, hz0, hz1, hz2⟩ := info_parts Try.infoTyT
  have HX := Lib.hid hx
  obtain ⟨xa, xc, xss, rfl, hxn, hxk, hxcm, -⟩ := hx.open
  have hB1 := Below.alloc (Below.refl w.heap.size w) (Nat.le_refl _) (.cells #[.int .i64 k, .string nm, .int .i64 no, .bool m, .int .i64 mo, .slice (none) (0) (0)] 59)
  have hX1 := heap_alloc_new w (.cells #[.int .i64 k, .string nm, .int .i64 no, .bool m, .int .i64 mo, .slice (none) (0) (0)] 59)
  generalize hw1 : w.alloc (.cells #[.int .i64 k, .string nm, .int .i64 no, .bool m, .int .i64 mo, .slice (none) (0) (0)] 59) = w1 at *
  have l1 := hp_lt hX1
  have hB2 := hB1.alloc (Nat.le_of_lt l1) (.cells #[.int .i64 x.kind, .string x.name, .int .i64 x.no, .bool x.must, .int .i64 x.most, .slice xa x.kids.length xc] 59)
  have hX1 := hp_alloc (.cells #[.int .i64 x.kind, .string x.name, .int .i64 x.no, .bool x.must, .int .i64 x.most, .slice xa x.kids.length xc] 59) hX1
  have hX2 := heap_alloc_new w1 (.cells #[.int .i64 x.kind, .string x.name, .int .i64 x.no, .bool x.must, .int .i64 x.most, .slice xa x.kids.length xc] 59)
  generalize hw2 : w1.alloc (.cells #[.int .i64 x.kind, .string x.name, .int .i64 x.no, .bool x.must, .int .i64 x.most, .slice xa x.kids.length xc] 59) = w2 at *
  have l2 := hp_lt hX2
  have hB3 := hB2.alloc (by omega) (.cells #[.int .i64 0, .string { data := #[] }, .int .i64 0, .bool false, .int .i64 0, .slice none 0 0] 59)
  have hX1 := hp_alloc (.cells #[.int .i64 0, .string { data := #[] }, .int .i64 0, .bool false, .int .i64 0, .slice none 0 0] 59) hX1
  have hX2 := hp_alloc (.cells #[.int .i64 0, .string { data := #[] }, .int .i64 0, .bool false, .int .i64 0, .slice none 0 0] 59) hX2
  have hX3 := heap_alloc_new w2 (.cells #[.int .i64 0, .string { data := #[] }, .int .i64 0, .bool false, .int .i64 0, .slice none 0 0] 59)
  generalize hw3 : w2.alloc (.cells #[.int .i64 0, .string { data := #[] }, .int .i64 0, .bool false, .int .i64 0, .slice none 0 0] 59) = w3 at *
  have l3 := hp_lt hX3
  have HB3 := Lib.hid hB3
  have HX1 := Lib.hid hX1
  have HX2 := Lib.hid hX2
  have HX3 := Lib.hid hX3
  obtain ⟨t0, t1, t2, t3, t4, t5⟩ := box6 hX1
  obtain ⟨u0, u1, u2, u3, u4, u5⟩ := box6 hX2
  unfold PutO
  clear hB1 hB2 hB3 hX1 hX2 hX3 hx
  show Calls Try.prog 66 #[_, .agg #[.int .i64 x.kind, .string x.name, .int .i64 x.no, .bool x.must, .int .i64 x.most, .slice xa x.kids.length xc]] w _
  go_enter Try.func66, Try.ntmps66
  go_wp2_with fail
  go_loopw [5] (fun iv wr => iv = .int .i64 0 ∧ Hid (wr = w3)) (fun iv _ => 0)
  case atStart => exact ⟨rfl, Lib.hid rfl⟩
  case round =>
    obtain ⟨rfl, HW⟩ := hrel
    obtain rfl := HW.out
    go_wp2_with fail
    go_quiet (fail)
    have HA := Lib.hid (show (wr.drewN nq).heap[w.heap.size]? = _ from HX1.out)
    have HD := Lib.hid (show (wr.drewN nq).heap[w1.heap.size]? = _ from HX2.out)
    have HC := Lib.hid (show (wr.drewN nq).heap[w2.heap.size]? = _ from HX3.out)
    have HBZ := Lib.hid (below_drewN HB3.out nq)
    have lz : w2.heap.size < (wr.drewN nq).heap.size := l3
    generalize wr.drewN nq = wz at *
    clear t0 t1 t2 t3 t4 t5 u0 u1 u2 u3 u4 u5
    obtain ⟨t0, t1, t2, t3, t4, t5⟩ := box6 HA.out
    obtain ⟨u0, u1, u2, u3, u4, u5⟩ := box6 HD.out
    go_wp2_with (at_builtin; first
      | (refine wpList_append_own_none rfl _ _ 57 rfl wz.heap.size 59 i0 6 Try.underlying57 hi _ 0 [] rfl (World.ownsRow_nil _ _ _ _) rfl ?_)
      | (refine wpList_append_own _ rfl _ _ 57 rfl wz.heap.size 59 i0 (.agg #[.int .i64 0, .string ByteArray.empty, .int .i64 0, .bool false, .int .i64 0, .slice none 0 0]) 6 72 Try.underlying57 hi hz0 hz1 hz2 rfl (by decide) _ 0 [] rfl (World.ownsRow_nil _ _ _ _) ⟨wz.heap.size, 0, none⟩ 1 1 [.int .i64 x.kind, .string x.name, .int .i64 x.no, .bool x.must, .int .i64 x.most, .slice xa x.kids.length xc] rfl rfl (World.news_of_block (cs := #[.int .i64 x.kind, .string x.name, .int .i64 x.no, .bool x.must, .int .i64 x.most, .slice xa x.kids.length xc]) (t := 59) (fr := (0, 0)) (heap_alloc_new wz _)) (by simp [Value.oneCell']) (by decide) (by decide) (by simp) ?_))
    intro v' wv hown hgrow hnil
    have hb0 := (Below.refl wz.heap.size wz).alloc (Nat.le_refl _) (.cells #[.int .i64 x.kind, .string x.name, .int .i64 x.no, .bool x.must, .int .i64 x.most, .slice xa x.kids.length xc] 59)
    have hbw := Below.grown hb0 hgrow (by simp) (fun j hj => by cases hj)
    have HBW := Lib.hid (HBZ.out.trans (hbw.mono HBZ.out.size))
    have HA := Lib.hid (hp_later hbw HA.out)
    have HC := Lib.hid (hp_later hbw HC.out)
    have HOW := Lib.hid hown
    obtain ⟨a9, c9, rfl⟩ := form_of_own hown
    clear hown hgrow hnil hb0 hbw t0 t1 t2 t3 t4 t5 u0 u1 u2 u3 u4 u5
    obtain ⟨t0, t1, t2, t3, t4, t5⟩ := box6 HA.out
    obtain ⟨-, -, -, -, -, x5⟩ := box6 HA.out
    have f5 := box6_z HA.out 5
    have HA9 := Lib.hid (box6_t5 HA.out (.slice a9 (0 + 1) c9))
    have HC9 := Lib.hid (hp_set HC.out (Y := w.heap.size) (i := 5) (u := .slice a9 (0 + 1) c9) (by omega))
    have HB9 := Lib.hid (below_set HBW.out (Nat.le_refl _) 5 (.slice a9 (0 + 1) c9))
    have HO9 := Lib.hid (ownsRow_setCell_below HOW.out (a := ⟨w.heap.size, 5, none⟩) (by simp only; omega) (.slice a9 (0 + 1) c9))
    generalize hw9 : (wv).setCell ⟨w.heap.size, 5, none⟩ (.slice a9 (0 + 1) c9) = w9 at *
    obtain ⟨y0, y1, y2, y3, y4, y5⟩ := box6 HA9.out
    have HBF := Lib.hid (below_set (below_set (below_set (below_set (below_set (below_set HB9.out (show w.heap.size ≤ w2.heap.size by omega) 0 (.int .i64 k)) (show w.heap.size ≤ w2.heap.size by omega) 1 (.string nm)) (show w.heap.size ≤ w2.heap.size by omega) 2 (.int .i64 no)) (show w.heap.size ≤ w2.heap.size by omega) 3 (.bool m)) (show w.heap.size ≤ w2.heap.size by omega) 4 (.int .i64 mo)) (show w.heap.size ≤ w2.heap.size by omega) 5 (.slice a9 (0 + 1) c9))
    have HOF := Lib.hid (ownsRow_setCell_below (ownsRow_setCell_below (ownsRow_setCell_below (ownsRow_setCell_below (ownsRow_setCell_below (ownsRow_setCell_below HO9.out (a := ⟨w2.heap.size, 0, none⟩) (by simp only; omega) (.int .i64 k)) (a := ⟨w2.heap.size, 1, none⟩) (by simp only; omega) (.string nm)) (a := ⟨w2.heap.size, 2, none⟩) (by simp only; omega) (.int .i64 no)) (a := ⟨w2.heap.size, 3, none⟩) (by simp only; omega) (.bool m)) (a := ⟨w2.heap.size, 4, none⟩) (by simp only; omega) (.int .i64 mo)) (a := ⟨w2.heap.size, 5, none⟩) (by simp only; omega) (.slice a9 (0 + 1) c9))
    obtain ⟨sa0, -, -, -, -, -⟩ := box6 HC9.out
    have sf0 := box6_z HC9.out 0
    have HSA := Lib.hid (box6_t0 HC9.out (.int .i64 k))
    generalize hsA : (w9).setCell ⟨w2.heap.size, 0, none⟩ (.int .i64 k) = wsA at *
    obtain ⟨-, sa1, -, -, -, -⟩ := box6 HSA.out
    have sf1 := box6_z HSA.out 1
    have HSB := Lib.hid (box6_t1 HSA.out (.string nm))
    generalize hsB : wsA.setCell ⟨w2.heap.size, 1, none⟩ (.string nm) = wsB at *
    obtain ⟨-, -, sa2, -, -, -⟩ := box6 HSB.out
    have sf2 := box6_z HSB.out 2
    have HSC := Lib.hid (box6_t2 HSB.out (.int .i64 no))
    generalize hsC : wsB.setCell ⟨w2.heap.size, 2, none⟩ (.int .i64 no) = wsC at *
    obtain ⟨-, -, -, sa3, -, -⟩ := box6 HSC.out
    have sf3 := box6_z HSC.out 3
    have HSD := Lib.hid (box6_t3 HSC.out (.bool m))
    generalize hsD : wsC.setCell ⟨w2.heap.size, 3, none⟩ (.bool m) = wsD at *
    obtain ⟨-, -, -, -, sa4, -⟩ := box6 HSD.out
    have sf4 := box6_z HSD.out 4
    have HSE := Lib.hid (box6_t4 HSD.out (.int .i64 mo))
    generalize hsE : wsD.setCell ⟨w2.heap.size, 4, none⟩ (.int .i64 mo) = wsE at *
    obtain ⟨-, -, -, -, -, sa5⟩ := box6 HSE.out
    have sf5 := box6_z HSE.out 5
    have HSF := Lib.hid (box6_t5 HSE.out (.slice a9 (0 + 1) c9))
    generalize hsF : wsE.setCell ⟨w2.heap.size, 5, none⟩ (.slice a9 (0 + 1) c9) = wsF at *
    obtain ⟨sg0, sg1, sg2, sg3, sg4, sg5⟩ := box6 HSF.out
    have HKX := Lib.hid (KS.keep (T := S) (kept_below HBF.out) (fun _ h _ => h) _ _ HX.out)
    clear t0 t1 t2 t3 t4 t5
    obtain ⟨t0, t1, t2, t3, t4, t5⟩ := box6 HA.out
    go_wp2_with (at_builtin; refine wpList_append_own_none rfl _ _ 57 rfl wz.heap.size 59 i0 6 Try.underlying57 hi _ 1 _ rfl HOW.out rfl ?_)
    refine bodyPost_ret (v := .agg #[.int .i64 k, .string nm, .int .i64 no, .bool m, .int .i64 mo, .slice a9 (0 + 1) c9]) (by simp [results, Try.results66, go_sem, sg0, sg1, sg2, sg3, sg4, sg5]) rfl ?_
    refine ⟨_, [[.int .i64 x.kind, .string x.name, .int .i64 x.no, .bool x.must, .int .i64 x.most, .slice xa x.kids.length xc]], rfl, HBF.out, ?_, ?_⟩
    · have := own_mono HOF.out (base' := w.heap.size) (by have := HBZ.out.size; omega)
      simpa using this
    · show KSs S _ [x] _
      rw [KSs]
      exact ⟨_, [], rfl, HKX.out, by rw [KSs]⟩
set_option maxHeartbeats 8000000 in
theorem spec_put_own {S : Nat → Prop} {w : World} {base : Nat} (k : Int) (nm : ByteArray) (no : Int) (m : Bool) (mo : Int) {ts : List Tr} {g cp : Nat} {vss : List (List Value)} (ho : w.ownsRow base 59 6 (.slice (some ⟨g, 0, none⟩) ts.length cp) ts.length (List.flatten vss)) (hks : KSs S w ts vss) (hl : ts.length ≤ 1048576) (hpos : 0 < ts.length) {x : Tr} {px : List Value} (hx : KS S w x px) : Calls Try.prog 66 #[.agg #[.int .i64 k, .string nm, .int .i64 no, .bool m, .int .i64 mo, .slice (some ⟨g, 0, none⟩) ts.length cp], .agg px.toArray] w (PutO S k nm no m mo ts x w) := by
  obtain ⟨i0, hi, hz0, hz1, hz2⟩ := info_parts Try.infoTyT
  have hne : ¬ ts = [] := List.length_pos_iff.1 hpos
  have HX := Lib.hid hx
  have hl6 := hks.len
  have H6 := Lib.hid hl6.2
  have hvl := hl6.1
  have hcap := own_cap ho
  have hgl := (ho.lt g rfl).2
  obtain ⟨xa, xc, xss, rfl, hxn, hxk, hxcm, -⟩ := hx.open
  have hoc := kss_oc hks
  have hB1 := Below.alloc (Below.refl w.heap.size w) (Nat.le_refl _) (.cells #[.int .i64 k, .string nm, .int .i64 no, .bool m, .int .i64 mo, .slice (some ⟨g, 0, none⟩) (ts.length) (cp)] 59)
  have hX1 := heap_alloc_new w (.cells #[.int .i64 k, .string nm, .int .i64 no, .bool m, .int .i64 mo, .slice (some ⟨g, 0, none⟩) (ts.length) (cp)] 59)
  generalize hw1 : w.alloc (.cells #[.int .i64 k, .string nm, .int .i64 no, .bool m, .int .i64 mo, .slice (some ⟨g, 0, none⟩) (ts.length) (cp)] 59) = w1 at *
  have l1 := hp_lt hX1
  have hB2 := hB1.alloc (Nat.le_of_lt l1) (.cells #[.int .i64 x.kind, .string x.name, .int .i64 x.no, .bool x.must, .int .i64 x.most, .slice xa x.kids.length xc] 59)
  have hX1 := hp_alloc (.cells #[.int .i64 x.kind, .string x.name, .int .i64 x.no, .bool x.must, .int .i64 x.most, .slice xa x.kids.length xc] 59) hX1
  have hX2 := heap_alloc_new w1 (.cells #[.int .i64 x.kind, .string x.name, .int .i64 x.no, .bool x.must, .int .i64 x.most, .slice xa x.kids.length xc] 59)
  generalize hw2 : w1.alloc (.cells #[.int .i64 x.kind, .string x.name, .int .i64 x.no, .bool x.must, .int .i64 x.most, .slice xa x.kids.length xc] 59) = w2 at *
  have l2 := hp_lt hX2
  have hB3 := hB2.alloc (by omega) (.cells #[.int .i64 0, .string { data := #[] }, .int .i64 0, .bool false, .int .i64 0, .slice none 0 0] 59)
  have hX1 := hp_alloc (.cells #[.int .i64 0, .string { data := #[] }, .int .i64 0, .bool false, .int .i64 0, .slice none 0 0] 59) hX1
  have hX2 := hp_alloc (.cells #[.int .i64 0, .string { data := #[] }, .int .i64 0, .bool false, .int .i64 0, .slice none 0 0] 59) hX2
  have hX3 := heap_alloc_new w2 (.cells #[.int .i64 0, .string { data := #[] }, .int .i64 0, .bool false, .int .i64 0, .slice none 0 0] 59)
  generalize hw3 : w2.alloc (.cells #[.int .i64 0, .string { data := #[] }, .int .i64 0, .bool false, .int .i64 0, .slice none 0 0] 59) = w3 at *
  have l3 := hp_lt hX3
  have HB3 := Lib.hid hB3
  have HX1 := Lib.hid hX1
  have HX2 := Lib.hid hX2
  have HX3 := Lib.hid hX3
  obtain ⟨t0, t1, t2, t3, t4, t5⟩ := box6 hX1
  obtain ⟨u0, u1, u2, u3, u4, u5⟩ := box6 hX2
  have HO3 := Lib.hid (own_later ho hB3)
  have HRS : Hid (RS (fun _ => True) w (some ⟨g, 0, none⟩) (List.flatten vss)) := Lib.hid (RS.own ho (fun _ _ => trivial))
  have HKS := Lib.hid (KSs.keep (T := fun _ => True) (Kept.refl S w) (fun _ _ _ => trivial) _ _ hks)
  have HKI := Lib.hid (fun (i : Nat) => KSs_ins hx i hks)
  have HOC := Lib.hid hoc
  unfold PutO
  clear hB1 hB2 hB3 hX1 hX2 hX3 hx hl6 ho hks hoc
  show Calls Try.prog 66 #[_, .agg #[.int .i64 x.kind, .string x.name, .int .i64 x.no, .bool x.must, .int .i64 x.most, .slice xa x.kids.length xc]] w _
  go_enter Try.func66, Try.ntmps66
  go_wp2_with fail
  go_loopw [5] (fun iv wr => ∃ i : Nat, i ≤ ts.length ∧ iv = .int .i64 (i : Int) ∧ Hid (∀ z ∈ ts.take i, z.no < x.no) ∧ Hid (Below w3.heap.size w3 wr)) (fun iv _ => ts.length - (intOf iv).toNat)
  case atStart => exact ⟨0, by omega, rfl, Lib.hid (by simp), Lib.hid (Below.refl _ _)⟩
  case round =>
    obtain ⟨wo, rfl⟩ : ∃ z : World, z = wr := ⟨_, rfl⟩
    obtain ⟨i, hil, rfl, HI, HB⟩ := hrel
    have hzo := HB.out.size
    have HBo := Lib.hid (HB3.out.trans (HB.out.mono HB3.out.size))
    have HAo := Lib.hid (hp_later HB.out HX1.out)
    have HDo := Lib.hid (hp_later HB.out HX2.out)
    have HCo := Lib.hid (hp_later HB.out HX3.out)
    have HOo := Lib.hid (own_later HO3.out HB.out)
    clear t0 t1 t2 t3 t4 t5 u0 u1 u2 u3 u4 u5
    obtain ⟨t0, t1, t2, t3, t4, t5⟩ := box6 HAo.out
    obtain ⟨u0, u1, u2, u3, u4, u5⟩ := box6 HDo.out
    by_cases hend : i < ts.length
    case neg =>
      have HPN := Lib.hid (putNo_is HI.out (fun z hz => by rw [List.getElem?_eq_none (by omega)] at hz; cases hz))
      have hge : ¬ ((i : Int) < (ts.length : Int)) := by omega
      have HDR : Hid (vss.drop i = []) := Lib.hid (List.drop_eq_nil_of_le (by omega))
      have hvt : ∀ v ∈ vss.take i, v.length = 6 := fun v hv => H6.out v (List.mem_of_mem_take hv)
      have hvd : ∀ v ∈ vss.drop i, v.length = 6 := fun v hv => H6.out v (List.mem_of_mem_drop hv)
      have HLT : Hid (((vss.take i).flatten).length = i * 6) := Lib.hid (by rw [flat_len6 _ hvt, List.length_take, hvl, Nat.min_eq_left hil])
      have HLD : Hid (((vss.drop i).flatten).length = (ts.length - i) * 6) := Lib.hid (by rw [flat_len6 _ hvd, List.length_drop, hvl])
      have HOCT : Hid (∀ u ∈ (vss.take i).flatten, u.oneCell' = true) := Lib.hid (fun u hu => HOC.out u (by rw [← flat_take6 vss i H6.out] at hu; exact List.mem_of_mem_take hu))
      have HOCD : Hid (∀ u ∈ (vss.drop i).flatten, u.oneCell' = true) := Lib.hid (fun u hu => HOC.out u (by rw [← flat_drop6 vss i H6.out] at hu; exact List.mem_of_mem_drop hu))
      have HKI := Lib.hid (HKI.out i)
      rw [← HPN.out] at HKI
      clear hvt hvd
      go_wp2_with fail
      go_quiet (fail)
      have HAZ := Lib.hid (show (wo.drewN nq).heap[w.heap.size]? = _ from HAo.out)
      have HD := Lib.hid (show (wo.drewN nq).heap[w1.heap.size]? = _ from HDo.out)
      have HCZ := Lib.hid (show (wo.drewN nq).heap[w2.heap.size]? = _ from HCo.out)
      have HOX := Lib.hid (ownN HOo.out nq)
      have HBZ := Lib.hid (below_drewN HBo.out nq)
      have lz : w3.heap.size ≤ (wo.drewN nq).heap.size := hzo
      have lg : g < (wo.drewN nq).heap.size := by omega
      generalize wo.drewN nq = wz at *
      have HA := HAZ
      have HC := HCZ
      have HOZ := HOX
      clear t0 t1 t2 t3 t4 t5 u0 u1 u2 u3 u4 u5
      obtain ⟨t0, t1, t2, t3, t4, t5⟩ := box6 HA.out
      obtain ⟨u0, u1, u2, u3, u4, u5⟩ := box6 HD.out
      go_wp2_with (at_builtin; refine wpList_append_own _ rfl _ _ 57 rfl wz.heap.size 59 i0 (.agg #[.int .i64 0, .string ByteArray.empty, .int .i64 0, .bool false, .int .i64 0, .slice none 0 0]) 6 72 Try.underlying57 hi hz0 hz1 hz2 rfl (by decide) _ 0 [] rfl (World.ownsRow_nil _ _ _ _) ⟨g, 0, none⟩ i cp ((vss.take i).flatten) rfl HLT.out (news6_take H6.out HOZ.out i) HOCT.out (by unfold maxLen; omega) (by omega) (Nat.le_refl _) ?_)
      intro v1 wp1 hown hgrow hnil
      have hb1 := Below.grown (Below.refl wz.heap.size wz) hgrow (Nat.le_refl _) (fun j hj => by cases hj)
      have HO1 := Lib.hid hown
      have HZ1 := Lib.hid hb1
      have HA := Lib.hid (hp_later hb1 HA.out)
      have HD := Lib.hid (hp_later hb1 HD.out)
      have HC := Lib.hid (hp_later hb1 HC.out)
      have HOZ := Lib.hid (own_later HOZ.out hb1)
      have lz1 := hb1.size
      clear hown hgrow hnil hb1 t0 t1 t2 t3 t4 t5 u0 u1 u2 u3 u4 u5
      try rw [Nat.zero_add] at HO1
      obtain ⟨t0, t1, t2, t3, t4, t5⟩ := box6 HA.out
      obtain ⟨u0, u1, u2, u3, u4, u5⟩ := box6 HD.out
      go_wp2_with (at_builtin; refine wpList_append_own _ rfl _ _ 57 rfl wz.heap.size 59 i0 (.agg #[.int .i64 0, .string ByteArray.empty, .int .i64 0, .bool false, .int .i64 0, .slice none 0 0]) 6 72 Try.underlying57 hi hz0 hz1 hz2 rfl (by decide) _ i _ rfl (HO1.out.alloc _) ⟨wp1.heap.size, 0, none⟩ 1 1 [.int .i64 x.kind, .string x.name, .int .i64 x.no, .bool x.must, .int .i64 x.most, .slice xa x.kids.length xc] rfl rfl (World.news_of_block (cs := #[.int .i64 x.kind, .string x.name, .int .i64 x.no, .bool x.must, .int .i64 x.most, .slice xa x.kids.length xc]) (t := 59) (fr := (0, 0)) (heap_alloc_new wp1 _)) (by simp [Value.oneCell']) (by unfold maxLen; omega) (by omega) (Nat.le_trans lz1 (by simp)) ?_)
      intro v2 wp2 hown hgrow hnil
      have hb2 := Below.grown (HZ1.out.alloc lz1 (.cells #[.int .i64 x.kind, .string x.name, .int .i64 x.no, .bool x.must, .int .i64 x.most, .slice xa x.kids.length xc] 59)) hgrow (Nat.le_trans lz1 (by simp)) (fun j hj => (HO1.out.lt j hj).1)
      have hnb : ∀ q, q < wz.heap.size → v1.ownBlock ≠ some q := fun q hq e => by have := (HO1.out.lt q e).1; omega
      have HZ2 := Lib.hid hb2
      have HO2 := Lib.hid hown
      have HA := Lib.hid (hp_grown hgrow (hp_alloc (.cells #[.int .i64 x.kind, .string x.name, .int .i64 x.no, .bool x.must, .int .i64 x.most, .slice xa x.kids.length xc] 59) HA.out) (hnb _ (by omega)))
      have HC := Lib.hid (hp_grown hgrow (hp_alloc (.cells #[.int .i64 x.kind, .string x.name, .int .i64 x.no, .bool x.must, .int .i64 x.most, .slice xa x.kids.length xc] 59) HC.out) (hnb _ (by omega)))
      have HOZ := Lib.hid (own_below HOX.out hb2 (fun q hq => (HOX.out.lt q hq).2))
      have lz2 := hb2.size
      clear hown hgrow hnil hb2 hnb t0 t1 t2 t3 t4 t5 u0 u1 u2 u3 u4 u5
      obtain ⟨t0, t1, t2, t3, t4, t5⟩ := box6 HA.out
      by_cases hcp : cp = i
      ·
        go_wp2_with (at_builtin; refine wpList_append_own _ rfl _ _ 57 rfl wz.heap.size 59 i0 (.agg #[.int .i64 0, .string ByteArray.empty, .int .i64 0, .bool false, .int .i64 0, .slice none 0 0]) 6 72 Try.underlying57 hi hz0 hz1 hz2 rfl (by decide) _ (i + 1) _ rfl HO2.out _ _ _ ((vss.drop i).flatten) rfl HLD.out (by rw [HDR.out]; intro j u hu; simp at hu) HOCD.out (by unfold maxLen; omega) (by omega) lz2 ?_)
        intro v3 wp3 hown hgrow hnil
        have hb3 := Below.grown HZ2.out hgrow lz2 (fun j hj => (HO2.out.lt j hj).1)
        have HBW := Lib.hid (HBZ.out.trans (hb3.mono HBZ.out.size))
        have HA := Lib.hid ((hb3.block w.heap.size (by omega)).trans HAZ.out)
        have HC := Lib.hid ((hb3.block w2.heap.size (by omega)).trans HCZ.out)
        have HOW := Lib.hid hown
        obtain ⟨a9, c9, rfl⟩ := form_of_own hown
        clear hown hgrow hnil hb3 t0 t1 t2 t3 t4 t5
        obtain ⟨t0, t1, t2, t3, t4, t5⟩ := box6 HA.out
        obtain ⟨-, -, -, -, -, x5⟩ := box6 HA.out
        have f5 := box6_z HA.out 5
        have HA9 := Lib.hid (box6_t5 HA.out (.slice a9 (i + 1 + (ts.length - i)) c9))
        have HC9 := Lib.hid (hp_set HC.out (Y := w.heap.size) (i := 5) (u := .slice a9 (i + 1 + (ts.length - i)) c9) (by omega))
        have HB9 := Lib.hid (below_set HBW.out (Nat.le_refl _) 5 (.slice a9 (i + 1 + (ts.length - i)) c9))
        have HO9 := Lib.hid (ownsRow_setCell_below HOW.out (a := ⟨w.heap.size, 5, none⟩) (by simp only; omega) (.slice a9 (i + 1 + (ts.length - i)) c9))
        generalize hw9 : (wp3).setCell ⟨w.heap.size, 5, none⟩ (.slice a9 (i + 1 + (ts.length - i)) c9) = w9 at *
        obtain ⟨y0, y1, y2, y3, y4, y5⟩ := box6 HA9.out
        have HBF := Lib.hid (below_set (below_set (below_set (below_set (below_set (below_set HB9.out (show w.heap.size ≤ w2.heap.size by omega) 0 (.int .i64 k)) (show w.heap.size ≤ w2.heap.size by omega) 1 (.string nm)) (show w.heap.size ≤ w2.heap.size by omega) 2 (.int .i64 no)) (show w.heap.size ≤ w2.heap.size by omega) 3 (.bool m)) (show w.heap.size ≤ w2.heap.size by omega) 4 (.int .i64 mo)) (show w.heap.size ≤ w2.heap.size by omega) 5 (.slice a9 (i + 1 + (ts.length - i)) c9))
        have HOF := Lib.hid (ownsRow_setCell_below (ownsRow_setCell_below (ownsRow_setCell_below (ownsRow_setCell_below (ownsRow_setCell_below (ownsRow_setCell_below HO9.out (a := ⟨w2.heap.size, 0, none⟩) (by simp only; omega) (.int .i64 k)) (a := ⟨w2.heap.size, 1, none⟩) (by simp only; omega) (.string nm)) (a := ⟨w2.heap.size, 2, none⟩) (by simp only; omega) (.int .i64 no)) (a := ⟨w2.heap.size, 3, none⟩) (by simp only; omega) (.bool m)) (a := ⟨w2.heap.size, 4, none⟩) (by simp only; omega) (.int .i64 mo)) (a := ⟨w2.heap.size, 5, none⟩) (by simp only; omega) (.slice a9 (i + 1 + (ts.length - i)) c9))
        obtain ⟨sa0, -, -, -, -, -⟩ := box6 HC9.out
        have sf0 := box6_z HC9.out 0
        have HSA := Lib.hid (box6_t0 HC9.out (.int .i64 k))
        generalize hsA : (w9).setCell ⟨w2.heap.size, 0, none⟩ (.int .i64 k) = wsA at *
        obtain ⟨-, sa1, -, -, -, -⟩ := box6 HSA.out
        have sf1 := box6_z HSA.out 1
        have HSB := Lib.hid (box6_t1 HSA.out (.string nm))
        generalize hsB : wsA.setCell ⟨w2.heap.size, 1, none⟩ (.string nm) = wsB at *
        obtain ⟨-, -, sa2, -, -, -⟩ := box6 HSB.out
        have sf2 := box6_z HSB.out 2
        have HSC := Lib.hid (box6_t2 HSB.out (.int .i64 no))
        generalize hsC : wsB.setCell ⟨w2.heap.size, 2, none⟩ (.int .i64 no) = wsC at *
        obtain ⟨-, -, -, sa3, -, -⟩ := box6 HSC.out
        have sf3 := box6_z HSC.out 3
        have HSD := Lib.hid (box6_t3 HSC.out (.bool m))
        generalize hsD : wsC.setCell ⟨w2.heap.size, 3, none⟩ (.bool m) = wsD at *
        obtain ⟨-, -, -, -, sa4, -⟩ := box6 HSD.out
        have sf4 := box6_z HSD.out 4
        have HSE := Lib.hid (box6_t4 HSD.out (.int .i64 mo))
        generalize hsE : wsD.setCell ⟨w2.heap.size, 4, none⟩ (.int .i64 mo) = wsE at *
        obtain ⟨-, -, -, -, -, sa5⟩ := box6 HSE.out
        have sf5 := box6_z HSE.out 5
        have HSF := Lib.hid (box6_t5 HSE.out (.slice a9 (i + 1 + (ts.length - i)) c9))
        generalize hsF : wsE.setCell ⟨w2.heap.size, 5, none⟩ (.slice a9 (i + 1 + (ts.length - i)) c9) = wsF at *
        obtain ⟨sg0, sg1, sg2, sg3, sg4, sg5⟩ := box6 HSF.out
        have HKX := Lib.hid (KSs.keep (T := S) (kept_below HBF.out) (fun _ h _ => h) _ _ HKI.out)
        clear t0 t1 t2 t3 t4 t5
        obtain ⟨t0, t1, t2, t3, t4, t5⟩ := box6 HA.out
        go_wp2_with fail
        refine bodyPost_ret (v := .agg #[.int .i64 k, .string nm, .int .i64 no, .bool m, .int .i64 mo, .slice a9 (i + 1 + (ts.length - i)) c9]) (by simp [results, Try.results66, go_sem, sg0, sg1, sg2, sg3, sg4, sg5]) rfl ?_
        refine ⟨_, _, rfl, HBF.out, ?_, HKX.out⟩
        have h3 := own_mono HOF.out (base' := w.heap.size) (by have := HBZ.out.size; omega)
        rw [show ts.length + 1 = i + 1 + (ts.length - i) by omega]
        simpa using h3
      ·
        go_wp2_with (at_builtin; refine wpList_append_own _ rfl _ _ 57 rfl wz.heap.size 59 i0 (.agg #[.int .i64 0, .string ByteArray.empty, .int .i64 0, .bool false, .int .i64 0, .slice none 0 0]) 6 72 Try.underlying57 hi hz0 hz1 hz2 rfl (by decide) _ (i + 1) _ rfl HO2.out _ _ _ ((vss.drop i).flatten) rfl HLD.out (news6_drop H6.out HOZ.out i) HOCD.out (by unfold maxLen; omega) (by omega) lz2 ?_)
        intro v3 wp3 hown hgrow hnil
        have hb3 := Below.grown HZ2.out hgrow lz2 (fun j hj => (HO2.out.lt j hj).1)
        have HBW := Lib.hid (HBZ.out.trans (hb3.mono HBZ.out.size))
        have HA := Lib.hid ((hb3.block w.heap.size (by omega)).trans HAZ.out)
        have HC := Lib.hid ((hb3.block w2.heap.size (by omega)).trans HCZ.out)
        have HOW := Lib.hid hown
        obtain ⟨a9, c9, rfl⟩ := form_of_own hown
        clear hown hgrow hnil hb3 t0 t1 t2 t3 t4 t5
        obtain ⟨t0, t1, t2, t3, t4, t5⟩ := box6 HA.out
        obtain ⟨-, -, -, -, -, x5⟩ := box6 HA.out
        have f5 := box6_z HA.out 5
        have HA9 := Lib.hid (box6_t5 HA.out (.slice a9 (i + 1 + (ts.length - i)) c9))
        have HC9 := Lib.hid (hp_set HC.out (Y := w.heap.size) (i := 5) (u := .slice a9 (i + 1 + (ts.length - i)) c9) (by omega))
        have HB9 := Lib.hid (below_set HBW.out (Nat.le_refl _) 5 (.slice a9 (i + 1 + (ts.length - i)) c9))
        have HO9 := Lib.hid (ownsRow_setCell_below HOW.out (a := ⟨w.heap.size, 5, none⟩) (by simp only; omega) (.slice a9 (i + 1 + (ts.length - i)) c9))
        generalize hw9 : (wp3).setCell ⟨w.heap.size, 5, none⟩ (.slice a9 (i + 1 + (ts.length - i)) c9) = w9 at *
        obtain ⟨y0, y1, y2, y3, y4, y5⟩ := box6 HA9.out
        have HBF := Lib.hid (below_set (below_set (below_set (below_set (below_set (below_set HB9.out (show w.heap.size ≤ w2.heap.size by omega) 0 (.int .i64 k)) (show w.heap.size ≤ w2.heap.size by omega) 1 (.string nm)) (show w.heap.size ≤ w2.heap.size by omega) 2 (.int .i64 no)) (show w.heap.size ≤ w2.heap.size by omega) 3 (.bool m)) (show w.heap.size ≤ w2.heap.size by omega) 4 (.int .i64 mo)) (show w.heap.size ≤ w2.heap.size by omega) 5 (.slice a9 (i + 1 + (ts.length - i)) c9))
        have HOF := Lib.hid (ownsRow_setCell_below (ownsRow_setCell_below (ownsRow_setCell_below (ownsRow_setCell_below (ownsRow_setCell_below (ownsRow_setCell_below HO9.out (a := ⟨w2.heap.size, 0, none⟩) (by simp only; omega) (.int .i64 k)) (a := ⟨w2.heap.size, 1, none⟩) (by simp only; omega) (.string nm)) (a := ⟨w2.heap.size, 2, none⟩) (by simp only; omega) (.int .i64 no)) (a := ⟨w2.heap.size, 3, none⟩) (by simp only; omega) (.bool m)) (a := ⟨w2.heap.size, 4, none⟩) (by simp only; omega) (.int .i64 mo)) (a := ⟨w2.heap.size, 5, none⟩) (by simp only; omega) (.slice a9 (i + 1 + (ts.length - i)) c9))
        obtain ⟨sa0, -, -, -, -, -⟩ := box6 HC9.out
        have sf0 := box6_z HC9.out 0
        have HSA := Lib.hid (box6_t0 HC9.out (.int .i64 k))
        generalize hsA : (w9).setCell ⟨w2.heap.size, 0, none⟩ (.int .i64 k) = wsA at *
        obtain ⟨-, sa1, -, -, -, -⟩ := box6 HSA.out
        have sf1 := box6_z HSA.out 1
        have HSB := Lib.hid (box6_t1 HSA.out (.string nm))
        generalize hsB : wsA.setCell ⟨w2.heap.size, 1, none⟩ (.string nm) = wsB at *
        obtain ⟨-, -, sa2, -, -, -⟩ := box6 HSB.out
        have sf2 := box6_z HSB.out 2
        have HSC := Lib.hid (box6_t2 HSB.out (.int .i64 no))
        generalize hsC : wsB.setCell ⟨w2.heap.size, 2, none⟩ (.int .i64 no) = wsC at *
        obtain ⟨-, -, -, sa3, -, -⟩ := box6 HSC.out
        have sf3 := box6_z HSC.out 3
        have HSD := Lib.hid (box6_t3 HSC.out (.bool m))
        generalize hsD : wsC.setCell ⟨w2.heap.size, 3, none⟩ (.bool m) = wsD at *
        obtain ⟨-, -, -, -, sa4, -⟩ := box6 HSD.out
        have sf4 := box6_z HSD.out 4
        have HSE := Lib.hid (box6_t4 HSD.out (.int .i64 mo))
        generalize hsE : wsD.setCell ⟨w2.heap.size, 4, none⟩ (.int .i64 mo) = wsE at *
        obtain ⟨-, -, -, -, -, sa5⟩ := box6 HSE.out
        have sf5 := box6_z HSE.out 5
        have HSF := Lib.hid (box6_t5 HSE.out (.slice a9 (i + 1 + (ts.length - i)) c9))
        generalize hsF : wsE.setCell ⟨w2.heap.size, 5, none⟩ (.slice a9 (i + 1 + (ts.length - i)) c9) = wsF at *
        obtain ⟨sg0, sg1, sg2, sg3, sg4, sg5⟩ := box6 HSF.out
        have HKX := Lib.hid (KSs.keep (T := S) (kept_below HBF.out) (fun _ h _ => h) _ _ HKI.out)
        clear t0 t1 t2 t3 t4 t5
        obtain ⟨t0, t1, t2, t3, t4, t5⟩ := box6 HA.out
        go_wp2_with fail
        refine bodyPost_ret (v := .agg #[.int .i64 k, .string nm, .int .i64 no, .bool m, .int .i64 mo, .slice a9 (i + 1 + (ts.length - i)) c9]) (by simp [results, Try.results66, go_sem, sg0, sg1, sg2, sg3, sg4, sg5]) rfl ?_
        refine ⟨_, _, rfl, HBF.out, ?_, HKX.out⟩
        have h3 := own_mono HOF.out (base' := w.heap.size) (by have := HBZ.out.size; omega)
        rw [show ts.length + 1 = i + 1 + (ts.length - i) by omega]
        simpa using h3
    obtain ⟨z, hz⟩ : ∃ z, ts[i]? = some z := ⟨ts[i], List.getElem?_eq_getElem hend⟩
    obtain ⟨rb, off, va, ca, hrr, -, -, -, r2, -, -, -, -, -⟩ := kss_at HRS.out HKS.out HBo.out hz
    simp only [Option.some.injEq, Addr.mk.injEq, and_true] at hrr
    obtain ⟨rfl, rfl⟩ := hrr
    rw [Nat.zero_add] at r2
    have hio : i < ts.length := hend
    have hii : (i : Int) < (ts.length : Int) := by omega
    have hi0 : (0 : Int) ≤ (i : Int) := Int.natCast_nonneg _
    by_cases hlt : z.no < x.no
    · have HI2 := Lib.hid (take_mem (P := fun z => z.no < x.no) HI.out hz hlt)
      clear hz
      go_wp2_with fail
      go_quiet (fail)
      go_wp2_with fail
      go_roundw
      case rel => exact ⟨i + 1, by omega, by go_num, HI2, Lib.hid (below_drewN HB.out _)⟩
      case measure => (simp [intOf]; try omega)
    have HPN := Lib.hid (putNo_is HI.out (fun y hy => by rw [hz] at hy; cases hy; exact hlt))
    have hcp : ¬ cp = i := by omega
    clear hz
    have hvt : ∀ v ∈ vss.take i, v.length = 6 := fun v hv => H6.out v (List.mem_of_mem_take hv)
    have hvd : ∀ v ∈ vss.drop i, v.length = 6 := fun v hv => H6.out v (List.mem_of_mem_drop hv)
    have HLT : Hid (((vss.take i).flatten).length = i * 6) := Lib.hid (by rw [flat_len6 _ hvt, List.length_take, hvl, Nat.min_eq_left hil])
    have HLD : Hid (((vss.drop i).flatten).length = (ts.length - i) * 6) := Lib.hid (by rw [flat_len6 _ hvd, List.length_drop, hvl])
    have HOCT : Hid (∀ u ∈ (vss.take i).flatten, u.oneCell' = true) := Lib.hid (fun u hu => HOC.out u (by rw [← flat_take6 vss i H6.out] at hu; exact List.mem_of_mem_take hu))
    have HOCD : Hid (∀ u ∈ (vss.drop i).flatten, u.oneCell' = true) := Lib.hid (fun u hu => HOC.out u (by rw [← flat_drop6 vss i H6.out] at hu; exact List.mem_of_mem_drop hu))
    have HKI := Lib.hid (HKI.out i)
    rw [← HPN.out] at HKI
    clear hvt hvd
    go_wp2_with fail
    go_quiet (fail)
    have HAZ := Lib.hid (show (wo.drewN nq).heap[w.heap.size]? = _ from HAo.out)
    have HD := Lib.hid (show (wo.drewN nq).heap[w1.heap.size]? = _ from HDo.out)
    have HCZ := Lib.hid (show (wo.drewN nq).heap[w2.heap.size]? = _ from HCo.out)
    have HOX := Lib.hid (ownN HOo.out nq)
    have HBZ := Lib.hid (below_drewN HBo.out nq)
    have lz : w3.heap.size ≤ (wo.drewN nq).heap.size := hzo
    have lg : g < (wo.drewN nq).heap.size := by omega
    generalize wo.drewN nq = wz at *
    have HA := HAZ
    have HC := HCZ
    have HOZ := HOX
    clear t0 t1 t2 t3 t4 t5 u0 u1 u2 u3 u4 u5
    obtain ⟨t0, t1, t2, t3, t4, t5⟩ := box6 HA.out
    obtain ⟨u0, u1, u2, u3, u4, u5⟩ := box6 HD.out
    go_wp2_with (at_builtin; refine wpList_append_own _ rfl _ _ 57 rfl wz.heap.size 59 i0 (.agg #[.int .i64 0, .string ByteArray.empty, .int .i64 0, .bool false, .int .i64 0, .slice none 0 0]) 6 72 Try.underlying57 hi hz0 hz1 hz2 rfl (by decide) _ 0 [] rfl (World.ownsRow_nil _ _ _ _) ⟨g, 0, none⟩ i cp ((vss.take i).flatten) rfl HLT.out (news6_take H6.out HOZ.out i) HOCT.out (by unfold maxLen; omega) (by omega) (Nat.le_refl _) ?_)
    intro v1 wp1 hown hgrow hnil
    have hb1 := Below.grown (Below.refl wz.heap.size wz) hgrow (Nat.le_refl _) (fun j hj => by cases hj)
    have HO1 := Lib.hid hown
    have HZ1 := Lib.hid hb1
    have HA := Lib.hid (hp_later hb1 HA.out)
    have HD := Lib.hid (hp_later hb1 HD.out)
    have HC := Lib.hid (hp_later hb1 HC.out)
    have HOZ := Lib.hid (own_later HOZ.out hb1)
    have lz1 := hb1.size
    clear hown hgrow hnil hb1 t0 t1 t2 t3 t4 t5 u0 u1 u2 u3 u4 u5
    try rw [Nat.zero_add] at HO1
    obtain ⟨t0, t1, t2, t3, t4, t5⟩ := box6 HA.out
    obtain ⟨u0, u1, u2, u3, u4, u5⟩ := box6 HD.out
    go_wp2_with (at_builtin; refine wpList_append_own _ rfl _ _ 57 rfl wz.heap.size 59 i0 (.agg #[.int .i64 0, .string ByteArray.empty, .int .i64 0, .bool false, .int .i64 0, .slice none 0 0]) 6 72 Try.underlying57 hi hz0 hz1 hz2 rfl (by decide) _ i _ rfl (HO1.out.alloc _) ⟨wp1.heap.size, 0, none⟩ 1 1 [.int .i64 x.kind, .string x.name, .int .i64 x.no, .bool x.must, .int .i64 x.most, .slice xa x.kids.length xc] rfl rfl (World.news_of_block (cs := #[.int .i64 x.kind, .string x.name, .int .i64 x.no, .bool x.must, .int .i64 x.most, .slice xa x.kids.length xc]) (t := 59) (fr := (0, 0)) (heap_alloc_new wp1 _)) (by simp [Value.oneCell']) (by unfold maxLen; omega) (by omega) (Nat.le_trans lz1 (by simp)) ?_)
    intro v2 wp2 hown hgrow hnil
    have hb2 := Below.grown (HZ1.out.alloc lz1 (.cells #[.int .i64 x.kind, .string x.name, .int .i64 x.no, .bool x.must, .int .i64 x.most, .slice xa x.kids.length xc] 59)) hgrow (Nat.le_trans lz1 (by simp)) (fun j hj => (HO1.out.lt j hj).1)
    have hnb : ∀ q, q < wz.heap.size → v1.ownBlock ≠ some q := fun q hq e => by have := (HO1.out.lt q e).1; omega
    have HZ2 := Lib.hid hb2
    have HO2 := Lib.hid hown
    have HA := Lib.hid (hp_grown hgrow (hp_alloc (.cells #[.int .i64 x.kind, .string x.name, .int .i64 x.no, .bool x.must, .int .i64 x.most, .slice xa x.kids.length xc] 59) HA.out) (hnb _ (by omega)))
    have HC := Lib.hid (hp_grown hgrow (hp_alloc (.cells #[.int .i64 x.kind, .string x.name, .int .i64 x.no, .bool x.must, .int .i64 x.most, .slice xa x.kids.length xc] 59) HC.out) (hnb _ (by omega)))
    have HOZ := Lib.hid (own_below HOX.out hb2 (fun q hq => (HOX.out.lt q hq).2))
    have lz2 := hb2.size
    clear hown hgrow hnil hb2 hnb t0 t1 t2 t3 t4 t5 u0 u1 u2 u3 u4 u5
    obtain ⟨t0, t1, t2, t3, t4, t5⟩ := box6 HA.out
    go_wp2_with (at_builtin; refine wpList_append_own _ rfl _ _ 57 rfl wz.heap.size 59 i0 (.agg #[.int .i64 0, .string ByteArray.empty, .int .i64 0, .bool false, .int .i64 0, .slice none 0 0]) 6 72 Try.underlying57 hi hz0 hz1 hz2 rfl (by decide) _ (i + 1) _ rfl HO2.out _ _ _ ((vss.drop i).flatten) rfl HLD.out (news6_drop H6.out HOZ.out i) HOCD.out (by unfold maxLen; omega) (by omega) lz2 ?_)
    intro v3 wp3 hown hgrow hnil
    have hb3 := Below.grown HZ2.out hgrow lz2 (fun j hj => (HO2.out.lt j hj).1)
    have HBW := Lib.hid (HBZ.out.trans (hb3.mono HBZ.out.size))
    have HA := Lib.hid ((hb3.block w.heap.size (by omega)).trans HAZ.out)
    have HC := Lib.hid ((hb3.block w2.heap.size (by omega)).trans HCZ.out)
    have HOW := Lib.hid hown
    obtain ⟨a9, c9, rfl⟩ := form_of_own hown
    clear hown hgrow hnil hb3 t0 t1 t2 t3 t4 t5
    obtain ⟨t0, t1, t2, t3, t4, t5⟩ := box6 HA.out
    obtain ⟨-, -, -, -, -, x5⟩ := box6 HA.out
    have f5 := box6_z HA.out 5
    have HA9 := Lib.hid (box6_t5 HA.out (.slice a9 (i + 1 + (ts.length - i)) c9))
    have HC9 := Lib.hid (hp_set HC.out (Y := w.heap.size) (i := 5) (u := .slice a9 (i + 1 + (ts.length - i)) c9) (by omega))
    have HB9 := Lib.hid (below_set HBW.out (Nat.le_refl _) 5 (.slice a9 (i + 1 + (ts.length - i)) c9))
    have HO9 := Lib.hid (ownsRow_setCell_below HOW.out (a := ⟨w.heap.size, 5, none⟩) (by simp only; omega) (.slice a9 (i + 1 + (ts.length - i)) c9))
    generalize hw9 : (wp3).setCell ⟨w.heap.size, 5, none⟩ (.slice a9 (i + 1 + (ts.length - i)) c9) = w9 at *
    obtain ⟨y0, y1, y2, y3, y4, y5⟩ := box6 HA9.out
    have HBF := Lib.hid (below_set (below_set (below_set (below_set (below_set (below_set HB9.out (show w.heap.size ≤ w2.heap.size by omega) 0 (.int .i64 k)) (show w.heap.size ≤ w2.heap.size by omega) 1 (.string nm)) (show w.heap.size ≤ w2.heap.size by omega) 2 (.int .i64 no)) (show w.heap.size ≤ w2.heap.size by omega) 3 (.bool m)) (show w.heap.size ≤ w2.heap.size by omega) 4 (.int .i64 mo)) (show w.heap.size ≤ w2.heap.size by omega) 5 (.slice a9 (i + 1 + (ts.length - i)) c9))
    have HOF := Lib.hid (ownsRow_setCell_below (ownsRow_setCell_below (ownsRow_setCell_below (ownsRow_setCell_below (ownsRow_setCell_below (ownsRow_setCell_below HO9.out (a := ⟨w2.heap.size, 0, none⟩) (by simp only; omega) (.int .i64 k)) (a := ⟨w2.heap.size, 1, none⟩) (by simp only; omega) (.string nm)) (a := ⟨w2.heap.size, 2, none⟩) (by simp only; omega) (.int .i64 no)) (a := ⟨w2.heap.size, 3, none⟩) (by simp only; omega) (.bool m)) (a := ⟨w2.heap.size, 4, none⟩) (by simp only; omega) (.int .i64 mo)) (a := ⟨w2.heap.size, 5, none⟩) (by simp only; omega) (.slice a9 (i + 1 + (ts.length - i)) c9))
    obtain ⟨sa0, -, -, -, -, -⟩ := box6 HC9.out
    have sf0 := box6_z HC9.out 0
    have HSA := Lib.hid (box6_t0 HC9.out (.int .i64 k))
    generalize hsA : (w9).setCell ⟨w2.heap.size, 0, none⟩ (.int .i64 k) = wsA at *
    obtain ⟨-, sa1, -, -, -, -⟩ := box6 HSA.out
    have sf1 := box6_z HSA.out 1
    have HSB := Lib.hid (box6_t1 HSA.out (.string nm))
    generalize hsB : wsA.setCell ⟨w2.heap.size, 1, none⟩ (.string nm) = wsB at *
    obtain ⟨-, -, sa2, -, -, -⟩ := box6 HSB.out
    have sf2 := box6_z HSB.out 2
    have HSC := Lib.hid (box6_t2 HSB.out (.int .i64 no))
    generalize hsC : wsB.setCell ⟨w2.heap.size, 2, none⟩ (.int .i64 no) = wsC at *
    obtain ⟨-, -, -, sa3, -, -⟩ := box6 HSC.out
    have sf3 := box6_z HSC.out 3
    have HSD := Lib.hid (box6_t3 HSC.out (.bool m))
    generalize hsD : wsC.setCell ⟨w2.heap.size, 3, none⟩ (.bool m) = wsD at *
    obtain ⟨-, -, -, -, sa4, -⟩ := box6 HSD.out
    have sf4 := box6_z HSD.out 4
    have HSE := Lib.hid (box6_t4 HSD.out (.int .i64 mo))
    generalize hsE : wsD.setCell ⟨w2.heap.size, 4, none⟩ (.int .i64 mo) = wsE at *
    obtain ⟨-, -, -, -, -, sa5⟩ := box6 HSE.out
    have sf5 := box6_z HSE.out 5
    have HSF := Lib.hid (box6_t5 HSE.out (.slice a9 (i + 1 + (ts.length - i)) c9))
    generalize hsF : wsE.setCell ⟨w2.heap.size, 5, none⟩ (.slice a9 (i + 1 + (ts.length - i)) c9) = wsF at *
    obtain ⟨sg0, sg1, sg2, sg3, sg4, sg5⟩ := box6 HSF.out
    have HKX := Lib.hid (KSs.keep (T := S) (kept_below HBF.out) (fun _ h _ => h) _ _ HKI.out)
    clear t0 t1 t2 t3 t4 t5
    obtain ⟨t0, t1, t2, t3, t4, t5⟩ := box6 HA.out
    go_wp2_with fail
    refine bodyPost_ret (v := .agg #[.int .i64 k, .string nm, .int .i64 no, .bool m, .int .i64 mo, .slice a9 (i + 1 + (ts.length - i)) c9]) (by simp [results, Try.results66, go_sem, sg0, sg1, sg2, sg3, sg4, sg5]) rfl ?_
    refine ⟨_, _, rfl, HBF.out, ?_, HKX.out⟩
    have h3 := own_mono HOF.out (base' := w.heap.size) (by have := HBZ.out.size; omega)
    rw [show ts.length + 1 = i + 1 + (ts.length - i) by omega]
    simpa using h3
end Go.Proofs.Ytmlnecopbncdbaa
