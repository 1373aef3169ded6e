/- Whether a program is good, how many steps it has, whether two are alike. -/
import Derived.Test.YtlmgckijbamgpaaPrgL
import Derived.Test.YtlmgckijbamgpaaFltV
namespace Go.Proofs.Ytlmgckijbamgpaa
set_option linter.unusedVariables false
set_option linter.unusedSimpArgs false
open Go.ChangeShapes Go.WideShapes Go.ChangeAt Go.RowKit
set_option maxRecDepth 100000

theorem rowI {w wr : World} {a : Option Addr} {l : List Ins} {k : Nat} {f : Ins} (hrow : Rw w a (insV l)) (hB : Below w.heap.size w wr) (hf : l[k]? = some f) :
    ∃ b off, a = some ⟨b, off, none⟩ ∧ b < wr.heap.size ∧ b < w.heap.size ∧ wr.cell? ⟨b, off + k * 6, none⟩ = some (.int .i64 f.code) ∧ wr.cell? ⟨b, off + k * 6 + 1, none⟩ = some (.int .i64 f.kind) ∧ wr.cell? ⟨b, off + k * 6 + 2, none⟩ = some (.int .i64 f.no) ∧ wr.cell? ⟨b, off + k * 6 + 3, none⟩ = some (.int .i64 f.num) ∧ wr.cell? ⟨b, off + k * 6 + 4, none⟩ = some (.string f.text) ∧ wr.cell? ⟨b, off + k * 6 + 5, none⟩ = some (.int .i64 f.dest) := by
  have hk : k < l.length := (List.getElem?_eq_some_iff.1 hf).1
  obtain ⟨b, off, rfl, hbl, hc⟩ := hrow.at (insV_ne hk)
  obtain ⟨e0, e1, e2, e3, e4, e5⟩ := insV_at l k f hf
  exact ⟨b, off, rfl, Nat.lt_of_lt_of_le hbl hB.size, hbl, (hB.cell (p := ⟨b, _, none⟩) hbl).trans (hc _ _ e0), (hB.cell (p := ⟨b, _, none⟩) hbl).trans (hc _ _ e1), (hB.cell (p := ⟨b, _, none⟩) hbl).trans (hc _ _ e2), (hB.cell (p := ⟨b, _, none⟩) hbl).trans (hc _ _ e3), (hB.cell (p := ⟨b, _, none⟩) hbl).trans (hc _ _ e4), (hB.cell (p := ⟨b, _, none⟩) hbl).trans (hc _ _ e5)⟩
set_option maxHeartbeats 2000000 in
theorem impl_instrOK (x : Ins) (i n : Nat) (w : World) (h : goodI x i n) (hn : n ≤ 1000000) : Calls Try.prog 101 #[.agg #[.int .i64 x.code, .int .i64 x.kind, .int .i64 x.no, .int .i64 x.num, .string x.text, .int .i64 x.dest], .int .i64 (i : Int), .int .i64 (n : Int)] w fun e w' => e = .returned (.bool true) ∧ Below w.heap.size w w' := by
  obtain ⟨cd, kd, no, nm, tx, to'⟩ := x
  unfold goodI at h
  simp only at h ⊢
  have hwn : IntKind.i64.wrap ((n : Int) - 1) = (n : Int) - 1 := IntWalk.i64_in _ (by omega)
  rcases h with ⟨rfl, h1, h2, rfl, rfl, rfl, rfl⟩ | ⟨rfl, h1, rfl, rfl, h2⟩ | ⟨rfl, h1, h2, h3, rfl, rfl, rfl⟩ | ⟨rfl, h1, rfl, rfl, rfl, rfl, rfl⟩ | ⟨rfl, h1, rfl, rfl, rfl, rfl, rfl⟩
  · have q1 : ((i : Int) == (n : Int) - 1) = false := beq_eq_false_iff_ne.2 (by omega)
    have HA := Lib.hid (fun wx => impl_within no 1 30 wx)
    rw [inR_iff.2 h2] at HA
    have HC := Lib.hid True.intro
    have HB := Lib.hid ((Below.refl w.heap.size w).alloc (Nat.le_refl _) (.cells #[.int .i64 1, .int .i64 0, .int .i64 no, .int .i64 0, .string ⟨#[]⟩, .int .i64 0] 125))
    clear h1 h2
    go_enter Try.func101, Try.ntmps101
    go_wp2_with ((with_reducible refine (HA.out _).mono ?_); rintro e w' ⟨rfl, rfl⟩)
    go_ret
    first | exact ⟨rfl, HB.out⟩ | exact ⟨ret_bool (by simp), HB.out⟩
  · have q1 : ((i : Int) == (n : Int) - 1) = false := beq_eq_false_iff_ne.2 (by omega)
    have HA := Lib.hid (fun wx => impl_testOK kd nm tx wx)
    rw [decide_eq_true h2] at HA
    have HB := Lib.hid ((Below.refl w.heap.size w).alloc (Nat.le_refl _) (.cells #[.int .i64 2, .int .i64 kd, .int .i64 0, .int .i64 nm, .string tx, .int .i64 0] 125))
    clear h1 h2
    go_enter Try.func101, Try.ntmps101
    go_wp2_with ((with_reducible refine (HA.out _).mono ?_); rintro e w' ⟨rfl, rfl⟩)
    go_ret
    first | exact ⟨rfl, HB.out⟩ | exact ⟨ret_bool (by simp), HB.out⟩
  · have q1 : ((i : Int) == (n : Int) - 1) = false := beq_eq_false_iff_ne.2 (by omega)
    have HA := Lib.hid (fun wx => impl_within nm 0 1 wx)
    rw [inR_iff.2 (show (0 : Int) ≤ nm ∧ nm ≤ 1 by omega)] at HA
    have HC := Lib.hid (fun wx => impl_within to' ((i : Int) + 1) ((n : Int) - 1) wx)
    rw [inR_iff.2 h3] at HC
    have hwi : IntKind.i64.wrap ((i : Int) + 1) = (i : Int) + 1 := IntWalk.i64_in _ (by omega)
    have HB := Lib.hid ((Below.refl w.heap.size w).alloc (Nat.le_refl _) (.cells #[.int .i64 3, .int .i64 0, .int .i64 0, .int .i64 nm, .string ⟨#[]⟩, .int .i64 to'] 125))
    clear h1 h2 h3
    go_enter Try.func101, Try.ntmps101
    go_wp2_with (first | ((with_reducible refine (HA.out _).mono ?_); rintro e w' ⟨rfl, rfl⟩) | ((with_reducible refine (HC.out _).mono ?_); rintro e w' ⟨rfl, rfl⟩))
    go_ret
    first | exact ⟨rfl, HB.out⟩ | exact ⟨ret_bool (by simp), HB.out⟩
  · have q1 : ((i : Int) == (n : Int) - 1) = false := beq_eq_false_iff_ne.2 (by omega)
    have HB := Lib.hid ((Below.refl w.heap.size w).alloc (Nat.le_refl _) (.cells #[.int .i64 4, .int .i64 0, .int .i64 0, .int .i64 0, .string ⟨#[]⟩, .int .i64 0] 125))
    clear h1
    go_enter Try.func101, Try.ntmps101
    go_wp2_with fail
    go_ret
    first | exact ⟨rfl, HB.out⟩ | exact ⟨ret_bool (by simp), HB.out⟩
  · have q1 : ((i : Int) == (n : Int) - 1) = true := beq_iff_eq.2 (by omega)
    have HB := Lib.hid ((Below.refl w.heap.size w).alloc (Nat.le_refl _) (.cells #[.int .i64 5, .int .i64 0, .int .i64 0, .int .i64 0, .string ⟨#[]⟩, .int .i64 0] 125))
    clear h1
    go_enter Try.func101, Try.ntmps101
    go_wp2_with fail
    go_ret
    first | exact ⟨rfl, HB.out⟩ | exact ⟨ret_bool (by simp), HB.out⟩
set_option maxHeartbeats 2000000 in
theorem impl_GoodProgram (pa : Option Addr) (pc : Nat) (p : List Ins) (w : World) (hrow : Rw w pa (insV p)) (hg : GoodP p) : Calls Try.prog 45 #[.agg #[.slice pa p.length pc]] w fun e w' => e = .returned (.bool true) ∧ Below w.heap.size w w' := by
  have HW := Lib.hid (fun wx => impl_within (p.length : Int) 1 60 wx)
  rw [inR_iff.2 (show (1 : Int) ≤ (p.length : Int) ∧ (p.length : Int) ≤ 60 by have := hg.1; omega)] at HW
  have HROW := Lib.hid hrow
  have HG := Lib.hid hg.2
  have h60 := hg.1.2
  have HB0 := Lib.hid ((Below.refl w.heap.size w).alloc (Nat.le_refl _) (.cells #[.slice pa p.length pc] 66))
  obtain ⟨n, hn⟩ : ∃ n, p.length = n := ⟨_, rfl⟩
  have HLN := Lib.hid hn
  rw [hn] at HW HG h60 HB0 ⊢
  clear hrow hg hn
  have HA : Hid ((w.alloc (.cells #[.slice pa n pc] 66)).cell? ⟨w.heap.size, 0, none⟩ = some (.slice pa n pc)) := Lib.hid (box_cell (box_start w (.cells #[.slice pa n pc] 66)) 0)
  go_enter Try.func45, Try.ntmps45
  go_wp2_with fail
  generalize w.alloc (.cells #[.slice pa n pc] 66) = w1 at *
  refine (HW.out _).mono ?_
  rintro e wq ⟨rfl, rfl⟩
  have y0 := HA.out
  go_wp2_with fail
  clear y0
  go_loopw [13] (fun iv wr => ∃ k : Nat, k ≤ n ∧ iv = .int .i64 (k : Int) ∧ Hid (Below w1.heap.size w1 wr)) (fun iv _ => n - (intOf iv).toNat)
  case atStart => exact ⟨0, Nat.zero_le _, rfl, Lib.hid (Below.refl _ _)⟩
  case round =>
    obtain ⟨wx, rfl⟩ : ∃ z : World, z = wr := ⟨_, rfl⟩
    obtain ⟨k, hk, rfl, HBX⟩ := hrel
    have HBW := Lib.hid (rstep HB0.out HBX.out)
    by_cases hkn : k < n
    case neg =>
      go_wp2_with fail
      go_ret
      exact ⟨rfl, HBW.out⟩
    obtain ⟨x, hx⟩ : ∃ x, p[k]? = some x := ⟨p[k]'(by have := HLN.out; omega), List.getElem?_eq_getElem _⟩
    have HI := Lib.hid (fun wy => impl_instrOK x k n wy (HG.out k x hx) (by omega))
    obtain ⟨b, off, rfl, hbx, hbw, c0, c1, c2, c3, c4, c5⟩ := rowI HROW.out HBW.out hx
    clear hx
    obtain ⟨cd, kd, no, nm, tx, ds⟩ := x
    simp only at c0 c1 c2 c3 c4 c5 HI
    have y1 := below_later HBX.out HA.out
    have HA2 := Lib.hid (heap_alloc_new wx (.cells #[.int .i64 cd, .int .i64 kd, .int .i64 no, .int .i64 nm, .string tx, .int .i64 ds] 125))
    have HB2 := Lib.hid (ralloc HBX.out (.cells #[.int .i64 cd, .int .i64 kd, .int .i64 no, .int .i64 nm, .string tx, .int .i64 ds] 125))
    have y2 := below_later HB2.out HA.out
    generalize hwy : wx.alloc (.cells #[.int .i64 cd, .int .i64 kd, .int .i64 no, .int .i64 nm, .string tx, .int .i64 ds] 125) = wy at *
    obtain ⟨z0, z1, z2, z3, z4, z5⟩ := box6 HA2.out
    go_wp2_with fail
    refine (HI.out _).mono ?_
    rintro e w5 ⟨rfl, hb⟩
    have HB5 := Lib.hid (rstep HB2.out hb); clear hb
    clear z0 z1 z2 z3 z4 z5 c0 c1 c2 c3 c4 c5 y1 y2
    go_wp2_with fail
    go_roundw
    case rel => exact ⟨k + 1, by omega, by go_num, HB5⟩
    case measure => (simp [intOf]; try omega)
set_option maxHeartbeats 1000000 in
theorem impl_StepsOf (pa : Option Addr) (pc : Nat) (p : List Ins) (w : World) (hrow : Rw w pa (insV p)) (hg : GoodP p) : Calls Try.prog 44 #[.agg #[.slice pa p.length pc]] w fun e w' => e = .returned (.tuple #[.int .i64 (p.length : Int), .bool true]) ∧ Below w.heap.size w w' := by
  have HG := Lib.hid (fun wx (h : Rw wx pa (insV p)) => impl_GoodProgram pa pc p wx h hg)
  have HROW := Lib.hid hrow
  have HB0 := Lib.hid ((Below.refl w.heap.size w).alloc (Nat.le_refl _) (.cells #[.slice pa p.length pc] 66))
  have HA : Hid ((w.alloc (.cells #[.slice pa p.length pc] 66)).cell? ⟨w.heap.size, 0, none⟩ = some (.slice pa p.length pc)) := Lib.hid (box_cell (box_start w (.cells #[.slice pa p.length pc] 66)) 0)
  clear hrow hg
  go_enter Try.func44, Try.ntmps44
  go_wp2_with fail
  generalize w.alloc (.cells #[.slice pa p.length pc] 66) = w1 at *
  refine (HG.out _ (HROW.out.below HB0.out)).mono ?_
  rintro e w2 ⟨rfl, hb⟩
  have y0 := below_later hb HA.out
  have HB2 := Lib.hid (rstep HB0.out hb); clear hb
  go_wp2_with fail
  go_ret2
  exact ⟨rfl, HB2.out⟩
set_option maxHeartbeats 1000000 in
theorem same_programs (a b : Option Addr) (cap cap' : Nat) (l : List Ins) (w : World) (ha : Rw w a (insV l)) (hb : Rw w b (insV l)) (hn : l.length ≤ 1000000) :
    Calls Try.prog 41 #[.agg #[.slice a l.length cap], .agg #[.slice b l.length cap']] w fun e w' => e = .returned (.bool true) ∧ Below w.heap.size w w' := by
  have HA := Lib.hid ha; have HB := Lib.hid hb
  clear ha hb
  have HC2 := Lib.hid (heap_alloc_new (w.alloc (.cells #[.slice a l.length cap] 66)) (.cells #[.slice b l.length cap'] 66))
  rw [World.size_alloc] at HC2
  have HC1 := Lib.hid (heap_keep ((Below.refl (w.alloc (.cells #[.slice a l.length cap] 66)).heap.size _).alloc (Nat.le_refl _) (.cells #[.slice b l.length cap'] 66)) (heap_alloc_new w (.cells #[.slice a l.length cap] 66)))
  have HB2 := Lib.hid (((Below.refl w.heap.size w).alloc (Nat.le_refl _) (.cells #[.slice a l.length cap] 66)).alloc (by simp) (.cells #[.slice b l.length cap'] 66))
  obtain ⟨wz, hwz⟩ : ∃ wz, (w.alloc (.cells #[.slice a l.length cap] 66)).alloc (.cells #[.slice b l.length cap'] 66) = wz := ⟨_, rfl⟩
  rw [hwz] at HC1 HC2 HB2
  obtain ⟨n, hnl⟩ : ∃ n, l.length = n := ⟨_, rfl⟩
  have HNL := Lib.hid hnl
  rw [hnl] at hn HC1 HC2 hwz ⊢
  clear hnl
  have y0 : wz.cell? ⟨w.heap.size, 0, none⟩ = some (.slice a n cap) := by have := HC1.out; simp [World.cell?, this]
  have y1 : wz.cell? ⟨w.heap.size + 1, 0, none⟩ = some (.slice b n cap') := by have := HC2.out; simp [World.cell?, this]
  have HW := Lib.hid hwz
  clear hwz
  go_enter Try.func41, Try.ntmps41
  go_wp2_with fail
  rw [HW.out]
  go_loopw [16] (fun i wr => ∃ k : Nat, k ≤ n ∧ i = .int .i64 k ∧ Drawn wz wr) (fun i _ => n - (intOf i).toNat)
  case atStart => exact ⟨0, Nat.zero_le _, rfl, Drawn.refl wz⟩
  case round =>
    obtain ⟨w1, rfl⟩ : ∃ z : World, z = wr := ⟨_, rfl⟩
    obtain ⟨k, hk, rfl, HD⟩ := hrel
    have HBZ : Hid (Below wz.heap.size wz w1) := Lib.hid (by obtain ⟨n, rfl⟩ := HD; exact below_drewN (Below.refl _ _) n)
    have HBD := Lib.hid (HB2.out.trans (HBZ.out.mono HB2.out.size))
    have x0 := below_later HBZ.out y0
    have x1 := below_later HBZ.out y1
    by_cases hlk : k < n
    · obtain ⟨f, hf⟩ : ∃ f, l[k]? = some f := ⟨l[k]'(by have := HNL.out; omega), List.getElem?_eq_getElem _⟩
      obtain ⟨b1, o1, rfl, hbl1, hbw1, c0, c1, c2, c3, c4, c5⟩ := rowI HA.out HBD.out hf
      obtain ⟨b2, o2, rfl, hbl2, hbw2, d0, d1, d2, d3, d4, d5⟩ := rowI HB.out HBD.out hf
      obtain ⟨cd, kd, no, nm, tx, ds⟩ := f
      simp only at c0 c1 c2 c3 c4 c5 d0 d1 d2 d3 d4 d5
      have e0 : (cd != cd) = false := by simp
      have e1 : (kd != kd) = false := by simp
      have e2 : (no != no) = false := by simp
      have e3 : (nm != nm) = false := by simp
      have e5 : (ds != ds) = false := by simp
      clear hf y0 y1
      have HDW := Lib.hid HD
      clear HD
      go_wp2_with fail
      refine wp_region_G [] (fun w' => (w'.cell? ⟨w.heap.size, 0, none⟩ = some (.slice (some ⟨b1, o1, none⟩) n cap) ∧ w'.cell? ⟨w.heap.size + 1, 0, none⟩ = some (.slice (some ⟨b2, o2, none⟩) n cap')) ∧ (w'.cell? ⟨b1, o1 + k * 6, none⟩ = some (.int .i64 cd) ∧ w'.cell? ⟨b1, o1 + k * 6 + 1, none⟩ = some (.int .i64 kd) ∧ w'.cell? ⟨b1, o1 + k * 6 + 2, none⟩ = some (.int .i64 no) ∧ w'.cell? ⟨b1, o1 + k * 6 + 3, none⟩ = some (.int .i64 nm) ∧ w'.cell? ⟨b1, o1 + k * 6 + 4, none⟩ = some (.string tx) ∧ w'.cell? ⟨b1, o1 + k * 6 + 5, none⟩ = some (.int .i64 ds)) ∧ w'.cell? ⟨b2, o2 + k * 6, none⟩ = some (.int .i64 cd) ∧ w'.cell? ⟨b2, o2 + k * 6 + 1, none⟩ = some (.int .i64 kd) ∧ w'.cell? ⟨b2, o2 + k * 6 + 2, none⟩ = some (.int .i64 no) ∧ w'.cell? ⟨b2, o2 + k * 6 + 3, none⟩ = some (.int .i64 nm) ∧ w'.cell? ⟨b2, o2 + k * 6 + 4, none⟩ = some (.string tx) ∧ w'.cell? ⟨b2, o2 + k * 6 + 5, none⟩ = some (.int .i64 ds)) (by kernel_rfl) ?_ (fun hHeld => ?_)
      · exact ⟨⟨x0, x1⟩, ⟨c0, c1, c2, c3, c4, c5⟩, d0, d1, d2, d3, d4, d5⟩
      refine wpG_pure (i := 0) (oi := { dst := some 19, op := Go.Op.fieldAddr 66 (Go.Operand.tmp 2) 0, type := 0, pos := "laws.go:666", after := #[], guard := none }) (v := ?vg1) rfl (by kernel_rfl) (fun _ _ _ h => h) (Or.inr hHeld) (Or.inl ⟨by rfl, ?yg1⟩) ?_
      case yg1 => (intro wS _; go_simp <;> with_reducible rfl)
      try simp only [Act.put, List.setIfInBounds_toArray, List.set_cons_zero, List.set_cons_succ]
      refine wpG_load (i := 1) (oi := { dst := some 20, op := Go.Op.load 64 (Go.Operand.tmp 19), type := 64, pos := "laws.go:666", after := #[{ on := 0, ground := Go.Ground.data }], guard := none }) (v := ?vg2) [] rfl (by kernel_rfl) (fun _ _ _ h => h) hHeld (Or.inl ⟨by rfl, ?yg2⟩) ?_
      case yg2 => (intro wS hSw; (try dsimp only at hSw); go_simp <;> with_reducible rfl)
      try simp only [Act.put, List.setIfInBounds_toArray, List.set_cons_zero, List.set_cons_succ]
      refine wpG_pure (i := 2) (oi := { dst := some 21, op := Go.Op.move (Go.Operand.tmp 5), type := 3, pos := "laws.go:666", after := #[], guard := none }) (v := ?vg3) rfl (by kernel_rfl) (fun _ _ _ h => h) (Or.inr hHeld) (Or.inl ⟨by rfl, ?yg3⟩) ?_
      case yg3 => (intro wS _; go_simp <;> with_reducible rfl)
      try simp only [Act.put, List.setIfInBounds_toArray, List.set_cons_zero, List.set_cons_succ]
      refine wpG_pure (i := 3) (oi := { dst := some 22, op := Go.Op.indexAddr 64 (Go.Operand.tmp 20) (Go.Operand.tmp 21), type := 0, pos := "laws.go:666", after := #[{ on := 1, ground := Go.Ground.data }, { on := 2, ground := Go.Ground.data }], guard := none }) (v := ?vg4) rfl (by kernel_rfl) (fun _ _ _ h => h) (Or.inr hHeld) (Or.inl ⟨by rfl, ?yg4⟩) ?_
      case yg4 => (intro wS _; go_simp <;> with_reducible rfl)
      try simp only [Act.put, List.setIfInBounds_toArray, List.set_cons_zero, List.set_cons_succ]
      refine wpG_load (i := 4) (oi := { dst := some 23, op := Go.Op.load 125 (Go.Operand.tmp 22), type := 125, pos := "laws.go:666", after := #[{ on := 3, ground := Go.Ground.data }], guard := none }) (v := ?vg5) [] rfl (by kernel_rfl) (fun _ _ _ h => h) hHeld (Or.inl ⟨by rfl, ?yg5⟩) ?_
      case yg5 => (intro wS hSw; (try dsimp only at hSw); go_simp <;> with_reducible rfl)
      try simp only [Act.put, List.setIfInBounds_toArray, List.set_cons_zero, List.set_cons_succ]
      refine wpG_pure (i := 5) (oi := { dst := some 24, op := Go.Op.fieldAddr 66 (Go.Operand.tmp 3) 0, type := 0, pos := "laws.go:666", after := #[], guard := none }) (v := ?vg6) rfl (by kernel_rfl) (fun _ _ _ h => h) (Or.inr hHeld) (Or.inl ⟨by rfl, ?yg6⟩) ?_
      case yg6 => (intro wS _; go_simp <;> with_reducible rfl)
      try simp only [Act.put, List.setIfInBounds_toArray, List.set_cons_zero, List.set_cons_succ]
      refine wpG_load (i := 6) (oi := { dst := some 25, op := Go.Op.load 64 (Go.Operand.tmp 24), type := 64, pos := "laws.go:666", after := #[{ on := 5, ground := Go.Ground.data }], guard := none }) (v := ?vg7) [] rfl (by kernel_rfl) (fun _ _ _ h => h) hHeld (Or.inl ⟨by rfl, ?yg7⟩) ?_
      case yg7 => (intro wS hSw; (try dsimp only at hSw); go_simp <;> with_reducible rfl)
      try simp only [Act.put, List.setIfInBounds_toArray, List.set_cons_zero, List.set_cons_succ]
      refine wpG_pure (i := 7) (oi := { dst := some 26, op := Go.Op.move (Go.Operand.tmp 5), type := 3, pos := "laws.go:666", after := #[], guard := none }) (v := ?vg8) rfl (by kernel_rfl) (fun _ _ _ h => h) (Or.inr hHeld) (Or.inl ⟨by rfl, ?yg8⟩) ?_
      case yg8 => (intro wS _; go_simp <;> with_reducible rfl)
      try simp only [Act.put, List.setIfInBounds_toArray, List.set_cons_zero, List.set_cons_succ]
      refine wpG_pure (i := 8) (oi := { dst := some 27, op := Go.Op.indexAddr 64 (Go.Operand.tmp 25) (Go.Operand.tmp 26), type := 0, pos := "laws.go:666", after := #[{ on := 6, ground := Go.Ground.data }, { on := 7, ground := Go.Ground.data }], guard := none }) (v := ?vg9) rfl (by kernel_rfl) (fun _ _ _ h => h) (Or.inr hHeld) (Or.inl ⟨by rfl, ?yg9⟩) ?_
      case yg9 => (intro wS _; go_simp <;> with_reducible rfl)
      try simp only [Act.put, List.setIfInBounds_toArray, List.set_cons_zero, List.set_cons_succ]
      refine wpG_load (i := 9) (oi := { dst := some 28, op := Go.Op.load 125 (Go.Operand.tmp 27), type := 125, pos := "laws.go:666", after := #[{ on := 8, ground := Go.Ground.data }], guard := none }) (v := ?vg10) [] rfl (by kernel_rfl) (fun _ _ _ h => h) hHeld (Or.inl ⟨by rfl, ?yg10⟩) ?_
      case yg10 => (intro wS hSw; (try dsimp only at hSw); go_simp <;> with_reducible rfl)
      try simp only [Act.put, List.setIfInBounds_toArray, List.set_cons_zero, List.set_cons_succ]
      refine wpG_pure (i := 10) (oi := { dst := some 29, op := Go.Op.binOp Go.BinOp.neq 125 (Go.Operand.tmp 23) (Go.Operand.tmp 28) 125, type := 4, pos := "laws.go:666", after := #[{ on := 4, ground := Go.Ground.data }, { on := 9, ground := Go.Ground.data }], guard := none }) (v := ?vg11) rfl (by kernel_rfl) (fun _ _ _ h => h) (Or.inr hHeld) (Or.inl ⟨by rfl, ?yg11⟩) ?_
      case yg11 => (intro wS _; go_simp <;> with_reducible rfl)
      try simp only [Act.put, List.setIfInBounds_toArray, List.set_cons_zero, List.set_cons_succ]
      refine wpG_done (by kernel_rfl) ?_
      go_wp2_with fail
      go_roundw
      case rel => exact ⟨k + 1, by omega, by go_num, HDW.out.trans ⟨1, rfl⟩⟩
      case measure => simp [intOf]; omega
    · clear HD y0 y1
      go_wp2_with fail
      go_ret
      exact ⟨rfl, HBD.out⟩
end Go.Proofs.Ytlmgckijbamgpaa
