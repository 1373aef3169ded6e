/- A path of a type, the type of a path: both walks. -/
import Derived.Test.YtmlnecopbncdbaaPa2
namespace Go.Proofs.Ytmlnecopbncdbaa
set_option linter.unusedVariables false
set_option linter.unusedSimpArgs false
open Go.ChangeShapes Go.WideShapes Go.ChangeAt Go.RowKit
set_option maxRecDepth 100000

/-- the path of a type that may not be there -/
noncomputable def pOf (L : List Ty) (k : Int) : ByteArray × Bool := if goodL L = true ∧ 0 ≤ k ∧ k < (L.length : Int) then (pathS L k.toNat, pathB L k.toNat) else (⟨#[]⟩, false)
def POfO (L : List Ty) (k : Int) (w : World) (e : Ending) (w' : World) : Prop :=
  e = .returned (.tuple #[.string (pOf L k).1, .bool (pOf L k).2]) ∧ Below w.heap.size w w'
theorem goodL_rows {L : List Ty} (h : goodL L = true) : RowsOK L ∧ L.length ≤ 30 ∧ 1 ≤ L.length := by
  have := goodL_iff.1 h
  exact ⟨this.2.1, this.1.2, this.1.1⟩
set_option maxHeartbeats 2000000 in
theorem spec_PathOf {B : Nat} {w : World} {L : List Ty} {a : Option Addr} {cap : Nat} (h : Sch B w L a cap) (k : Int) : Calls Try.prog 15 #[.agg #[.slice a L.length cap], .int .i64 k] w (POfO L k w) := by
  have hB1 := Below.alloc (Below.refl w.heap.size w) (Nat.le_refl _) (.cells #[.slice a L.length cap] 28)
  have hX1 := heap_alloc_new w (.cells #[.slice a L.length cap] 28)
  generalize hw1 : w.alloc (.cells #[.slice a L.length cap] 28) = w1 at *
  have l1 := hp_lt hX1
  have HX1 := Lib.hid hX1
  have HB1 := Lib.hid hB1
  have HS1 := Lib.hid (h.keep hB1)
  have hcm := h.hcm
  have hlc := h.hc
  have hlm := h.hl
  have hBw := h.hB
  have c1 : w1.cell? ⟨w.heap.size, 0, none⟩ = some (.slice a L.length cap) := by simp [World.cell?, hX1]
  have HG := Lib.hid (spec_GoodSchema (h.keep hB1))
  unfold POfO pOf
  clear hB1 hX1 h
  cases hg : goodL L with
  | false =>
    rw [if_neg (by simp)]
    rw [hg] at HG
    go_enter Try.func15, Try.ntmps15
    go_wp2_with fail
    refine HG.out.mono ?_
    rintro e w2 ⟨rfl, hb⟩
    have HB2 := Lib.hid (HB1.out.trans (hb.mono HB1.out.size))
    clear hb
    go_wp2_with fail
    go_ret2
    exact ⟨rfl, HB2.out⟩
  | true =>
  obtain ⟨hrows, h30, h1⟩ := goodL_rows hg
  rw [hg] at HG
  clear hg
  by_cases hk0 : k < 0
  · rw [if_neg (by omega)]
    go_enter Try.func15, Try.ntmps15
    go_wp2_with fail
    refine HG.out.mono ?_
    rintro e w2 ⟨rfl, hb⟩
    have HB2 := Lib.hid (HB1.out.trans (hb.mono HB1.out.size))
    clear hb
    go_wp2_with fail
    go_ret2
    exact ⟨rfl, HB2.out⟩
  by_cases hkl : k ≥ (L.length : Int)
  · rw [if_neg (by omega)]
    go_enter Try.func15, Try.ntmps15
    go_wp2_with fail
    refine HG.out.mono ?_
    rintro e w2 ⟨rfl, hb⟩
    have HB2 := Lib.hid (HB1.out.trans (hb.mono HB1.out.size))
    have c2 := below_later hb c1
    clear hb
    go_wp2_with fail
    go_ret2
    exact ⟨rfl, HB2.out⟩
  rw [if_pos ⟨rfl, by omega, by omega⟩]
  obtain ⟨n, rfl⟩ : ∃ n : Nat, k = (n : Int) := ⟨k.toNat, by omega⟩
  rw [Int.toNat_natCast]
  have HP := Lib.hid (fun wx (hs : Sch B wx L a cap) => spec_l3Path hrows h30 n n wx (Nat.le_refl _) (by omega) hs)
  unfold PathO at HP
  clear hrows
  go_enter Try.func15, Try.ntmps15
  go_wp2_with fail
  refine HG.out.mono ?_
  rintro e w2 ⟨rfl, hb⟩
  have HB2 := Lib.hid (HB1.out.trans (hb.mono HB1.out.size))
  have HC := Lib.hid (HP.out w2 (HS1.out.keep hb))
  have c2 := below_later hb c1
  clear hb
  go_wp2_with fail
  refine HC.out.mono ?_
  rintro e w3 ⟨rfl, hb⟩
  have HB3 := Lib.hid (HB2.out.trans (hb.mono HB2.out.size))
  clear hb
  go_wp2_with fail
  go_ret2
  exact ⟨rfl, HB3.out⟩
set_option maxHeartbeats 2000000 in
theorem impl_PathOf {B : Nat} {w : World} {L : List Ty} {a : Option Addr} {cap : Nat} (h : Sch B w L a cap) (k : Int) : Calls Try.prog 14 #[.agg #[.slice a L.length cap], .int .i64 k] w (POfO L k w) := by
  have hB1 := Below.alloc (Below.refl w.heap.size w) (Nat.le_refl _) (.cells #[.slice a L.length cap] 28)
  have hX1 := heap_alloc_new w (.cells #[.slice a L.length cap] 28)
  generalize hw1 : w.alloc (.cells #[.slice a L.length cap] 28) = w1 at *
  have l1 := hp_lt hX1
  have HX1 := Lib.hid hX1
  have HB1 := Lib.hid hB1
  have HS1 := Lib.hid (h.keep hB1)
  have hcm := h.hcm
  have hlc := h.hc
  have hlm := h.hl
  have hBw := h.hB
  have c1 : w1.cell? ⟨w.heap.size, 0, none⟩ = some (.slice a L.length cap) := by simp [World.cell?, hX1]
  have HG := Lib.hid (impl_GoodSchema (h.keep hB1))
  unfold POfO pOf
  clear hB1 hX1 h
  cases hg : goodL L with
  | false =>
    rw [if_neg (by simp)]
    rw [hg] at HG
    go_enter Try.func14, Try.ntmps14
    go_wp2_with fail
    refine HG.out.mono ?_
    rintro e w2 ⟨rfl, hb⟩
    have HB2 := Lib.hid (HB1.out.trans (hb.mono HB1.out.size))
    clear hb
    go_wp2_with fail
    go_ret2
    exact ⟨rfl, HB2.out⟩
  | true =>
  obtain ⟨hrows, h30, h1⟩ := goodL_rows hg
  rw [hg] at HG
  clear hg
  have hwr : IntKind.i64.wrap ((L.length : Int) - 1) = (L.length : Int) - 1 := IntWalk.i64_in _ (by omega)
  have HI := Lib.hid (fun wx => impl_within k 0 ((L.length : Int) - 1) wx)
  cases hin : inR k 0 ((L.length : Int) - 1) with
  | false =>
    rw [if_neg (by rw [Bool.eq_false_iff, Ne, inR_iff2] at hin; omega)]
    rw [hin] at HI
    clear hin
    go_enter Try.func14, Try.ntmps14
    go_wp2_with fail
    refine HG.out.mono ?_
    rintro e w2 ⟨rfl, hb⟩
    have HB2 := Lib.hid (HB1.out.trans (hb.mono HB1.out.size))
    have c2 := below_later hb c1
    clear hb
    go_wp2_with fail
    refine (HI.out _).mono ?_
    rintro e w3 ⟨rfl, rfl⟩
    go_wp2_with fail
    go_ret2
    exact ⟨rfl, HB2.out⟩
  | true =>
  have hk := inR_iff2.1 hin
  rw [hin] at HI
  clear hin
  rw [if_pos ⟨rfl, by omega, by omega⟩]
  obtain ⟨n, rfl⟩ : ∃ n : Nat, k = (n : Int) := ⟨k.toNat, by omega⟩
  rw [Int.toNat_natCast]
  have HP := Lib.hid (fun wx (hs : Sch B wx L a cap) => impl_pathOf hs hrows h30 n (by omega))
  unfold PathO at HP
  clear hrows
  go_enter Try.func14, Try.ntmps14
  go_wp2_with fail
  refine HG.out.mono ?_
  rintro e w2 ⟨rfl, hb⟩
  have HB2 := Lib.hid (HB1.out.trans (hb.mono HB1.out.size))
  have HC := Lib.hid (HP.out w2 (HS1.out.keep hb))
  have c2 := below_later hb c1
  clear hb
  go_wp2_with fail
  refine (HI.out _).mono ?_
  rintro e w3 ⟨rfl, rfl⟩
  go_wp2_with fail
  refine HC.out.mono ?_
  rintro e w3 ⟨rfl, hb⟩
  have HB3 := Lib.hid (HB2.out.trans (hb.mono HB2.out.size))
  clear hb
  go_wp2_with fail
  go_ret2
  exact ⟨rfl, HB3.out⟩
/-- the type of a path -/
def AtO (L : List Ty) (s : ByteArray) (r : Int) (b : Bool) : Prop :=
  (b = true ∧ goodL L = true ∧ ∃ k : Nat, r = (k : Int) ∧ k < L.length ∧ pathB L k = true ∧ pathS L k = s ∧ ∀ q, q < k → ¬ (pathB L q = true ∧ pathS L q = s)) ∨ (b = false ∧ r = 0 ∧ (goodL L = true → ∀ q, q < L.length → ¬ (pathB L q = true ∧ pathS L q = s)))
theorem AtO.same {L : List Ty} {s : ByteArray} {r r' : Int} {b b' : Bool} (h : AtO L s r b) (h' : AtO L s r' b') : r = r' ∧ b = b' := by
  rcases h with ⟨rfl, hg, k, rfl, h1, h2, h3, h4⟩ | ⟨rfl, rfl, h1⟩
  · rcases h' with ⟨rfl, -, k', rfl, g1, g2, g3, g4⟩ | ⟨rfl, rfl, g1⟩
    · rcases Nat.lt_trichotomy k k' with hlt | he | hgt
      · exact absurd ⟨h2, h3⟩ (g4 k hlt)
      · exact ⟨by rw [he], rfl⟩
      · exact absurd ⟨g2, g3⟩ (h4 k' hgt)
    · exact absurd ⟨h2, h3⟩ (g1 hg k h1)
  · rcases h' with ⟨rfl, hg, k', rfl, g1, g2, g3, g4⟩ | ⟨rfl, rfl, g1⟩
    · exact absurd ⟨g2, g3⟩ (h1 hg k' g1)
    · exact ⟨rfl, rfl⟩
def TyAtO (L : List Ty) (s : ByteArray) (w : World) (e : Ending) (w' : World) : Prop :=
  ∃ r b, e = .returned (.tuple #[.int .i64 r, .bool b]) ∧ AtO L s r b ∧ Below w.heap.size w w'
theorem toList_eq2 {a b : ByteArray} : (a.toList == b.toList) = true ↔ a = b := toList_eq
set_option maxHeartbeats 4000000 in
theorem spec_TypeAt {B : Nat} {w : World} {L : List Ty} {a : Option Addr} {cap : Nat} (h : Sch B w L a cap) (s : ByteArray) : Calls Try.prog 18 #[.agg #[.slice a L.length cap], .string s] w (TyAtO L s w) := by
  have hB1 := Below.alloc (Below.refl w.heap.size w) (Nat.le_refl _) (.cells #[.slice a L.length cap] 28)
  have hX1 := heap_alloc_new w (.cells #[.slice a L.length cap] 28)
  generalize hw1 : w.alloc (.cells #[.slice a L.length cap] 28) = w1 at *
  have l1 := hp_lt hX1
  have HX1 := Lib.hid hX1
  have HB1 := Lib.hid hB1
  have HS1 := Lib.hid (h.keep hB1)
  have hcm := h.hcm
  have hlc := h.hc
  have hlm := h.hl
  have hBw := h.hB
  have c1 : w1.cell? ⟨w.heap.size, 0, none⟩ = some (.slice a L.length cap) := by simp [World.cell?, hX1]
  have HG := Lib.hid (spec_GoodSchema (h.keep hB1))
  unfold TyAtO
  clear hB1 hX1 h
  cases hg : goodL L with
  | false =>
    have HN : Hid (AtO L s 0 false) := Lib.hid (.inr ⟨rfl, rfl, fun q => by rw [hg] at q; cases q⟩)
    rw [hg] at HG
    go_enter Try.func18, Try.ntmps18
    go_wp2_with fail
    refine HG.out.mono ?_
    rintro e w2 ⟨rfl, hb⟩
    have HB2 := Lib.hid (HB1.out.trans (hb.mono HB1.out.size))
    clear hb
    go_wp2_with fail
    go_ret2
    exact ⟨_, _, rfl, HN.out, HB2.out⟩
  | true =>
  obtain ⟨hrows, h30, h1⟩ := goodL_rows hg
  have HGD := Lib.hid hg
  rw [hg] at HG
  have HPO := Lib.hid (fun n (hn : n < L.length) wx (hs : Sch B wx L a cap) => spec_l3Path hrows h30 n n wx (Nat.le_refl _) hn hs)
  unfold PathO at HPO
  clear hg hrows
  go_enter Try.func18, Try.ntmps18
  go_wp2_with fail
  refine HG.out.mono ?_
  rintro e w2 ⟨rfl, hb⟩
  have HB2 := Lib.hid (HB1.out.trans (hb.mono HB1.out.size))
  have HS2 := Lib.hid (HS1.out.keep hb)
  have c2 := below_later hb c1
  clear hb c1
  go_wp2_with fail
  go_loopw [15] (fun iv wr => ∃ i : Nat, i ≤ L.length ∧ iv = .int .i64 (i : Int) ∧ Hid (∀ q, q < i → ¬ (pathB L q = true ∧ pathS L q = s)) ∧ Hid (Below w2.heap.size w2 wr)) (fun iv _ => L.length - (intOf iv).toNat)
  case atStart => exact ⟨0, by omega, rfl, Lib.hid (fun q hq => by omega), Lib.hid (Below.refl _ _)⟩
  case round =>
    obtain ⟨wo, rfl⟩ : ∃ z : World, z = wr := ⟨_, rfl⟩
    obtain ⟨i, hi, rfl, HQ, HB⟩ := hrel
    by_cases hil : i < L.length
    case neg =>
      obtain rfl : i = L.length := by omega
      go_wp2_with fail
      go_ret2
      exact ⟨_, _, rfl, .inr ⟨rfl, rfl, fun _ => HQ.out⟩, HB2.out.trans (HB.out.mono HB2.out.size)⟩
    have s1 := below_later HB.out c2
    have HP := Lib.hid (HPO.out i hil wo (HS2.out.keep HB.out))
    have HN : Hid (¬ (pathB L i = true ∧ pathS L i = s) → ∀ q, q < i + 1 → ¬ (pathB L q = true ∧ pathS L q = s)) := Lib.hid (fun hn q hq => by
      by_cases e : q = i
      · rw [e]; exact hn
      · exact HQ.out q (by omega))
    have HY : Hid (pathB L i = true → pathS L i = s → AtO L s (i : Int) true) := Lib.hid (fun g1 g2 => .inl ⟨rfl, HGD.out, i, rfl, hil, g1, g2, HQ.out⟩)
    generalize pathS L i = p at *
    generalize pathB L i = pb at *
    cases pb with
    | false =>
      have HN2 := Lib.hid (HN.out (by simp))
      clear HN HY
      go_wp2_with fail
      refine HP.out.mono ?_
      rintro e w3 ⟨rfl, hb⟩
      have HB3 := Lib.hid (HB.out.trans (hb.mono HB.out.size))
      clear hb
      go_wp2_with fail
      go_roundw
      case rel => exact ⟨i + 1, by omega, by go_num, HN2, HB3⟩
      case measure => (simp [intOf]; try omega)
    | true =>
    cases hps : (p.toList == s.toList) with
    | true =>
      have HY2 := Lib.hid (HY.out rfl (toList_eq.1 hps))
      clear HN HY
      go_wp2_with fail
      refine HP.out.mono ?_
      rintro e w3 ⟨rfl, hb⟩
      have HB3 := Lib.hid (HB.out.trans (hb.mono HB.out.size))
      clear hb
      go_wp2_with fail
      go_ret2
      exact ⟨_, _, rfl, HY2.out, HB2.out.trans (HB3.out.mono HB2.out.size)⟩
    | false =>
      have HN2 := Lib.hid (HN.out (fun q => by rw [toList_eq.2 q.2] at hps; cases hps))
      clear HN HY
      go_wp2_with fail
      refine HP.out.mono ?_
      rintro e w3 ⟨rfl, hb⟩
      have HB3 := Lib.hid (HB.out.trans (hb.mono HB.out.size))
      clear hb
      go_wp2_with fail
      go_roundw
      case rel => exact ⟨i + 1, by omega, by go_num, HN2, HB3⟩
      case measure => (simp [intOf]; try omega)
set_option maxHeartbeats 4000000 in
theorem impl_TypeAt {B : Nat} {w : World} {L : List Ty} {a : Option Addr} {cap : Nat} (h : Sch B w L a cap) (s : ByteArray) : Calls Try.prog 16 #[.agg #[.slice a L.length cap], .string s] w (TyAtO L s w) := by
  have hB1 := Below.alloc (Below.refl w.heap.size w) (Nat.le_refl _) (.cells #[.slice a L.length cap] 28)
  have hX1 := heap_alloc_new w (.cells #[.slice a L.length cap] 28)
  generalize hw1 : w.alloc (.cells #[.slice a L.length cap] 28) = w1 at *
  have l1 := hp_lt hX1
  have HX1 := Lib.hid hX1
  have HB1 := Lib.hid hB1
  have HS1 := Lib.hid (h.keep hB1)
  have hcm := h.hcm
  have hlc := h.hc
  have hlm := h.hl
  have hBw := h.hB
  have c1 : w1.cell? ⟨w.heap.size, 0, none⟩ = some (.slice a L.length cap) := by simp [World.cell?, hX1]
  have HG := Lib.hid (impl_GoodSchema (h.keep hB1))
  unfold TyAtO
  clear hB1 hX1 h
  cases hg : goodL L with
  | false =>
    have HN : Hid (AtO L s 0 false) := Lib.hid (.inr ⟨rfl, rfl, fun q => by rw [hg] at q; cases q⟩)
    rw [hg] at HG
    go_enter Try.func16, Try.ntmps16
    go_wp2_with fail
    refine HG.out.mono ?_
    rintro e w2 ⟨rfl, hb⟩
    have HB2 := Lib.hid (HB1.out.trans (hb.mono HB1.out.size))
    clear hb
    go_wp2_with fail
    go_ret2
    exact ⟨_, _, rfl, HN.out, HB2.out⟩
  | true =>
  obtain ⟨hrows, h30, h1⟩ := goodL_rows hg
  have HGD := Lib.hid hg
  rw [hg] at HG
  have HPO := Lib.hid (fun n (hn : n < L.length) wx (hs : Sch B wx L a cap) => impl_pathOf hs hrows h30 n hn)
  unfold PathO at HPO
  clear hg hrows
  go_enter Try.func16, Try.ntmps16
  go_wp2_with fail
  refine HG.out.mono ?_
  rintro e w2 ⟨rfl, hb⟩
  have HB2 := Lib.hid (HB1.out.trans (hb.mono HB1.out.size))
  have HS2 := Lib.hid (HS1.out.keep hb)
  have c2 := below_later hb c1
  clear hb c1
  go_wp2_with fail
  go_loopw [15] (fun iv wr => ∃ i : Nat, i ≤ L.length ∧ iv = .int .i64 (i : Int) ∧ Hid (∀ q, q < i → ¬ (pathB L q = true ∧ pathS L q = s)) ∧ Hid (Below w2.heap.size w2 wr)) (fun iv _ => L.length - (intOf iv).toNat)
  case atStart => exact ⟨0, by omega, rfl, Lib.hid (fun q hq => by omega), Lib.hid (Below.refl _ _)⟩
  case round =>
    obtain ⟨wo, rfl⟩ : ∃ z : World, z = wr := ⟨_, rfl⟩
    obtain ⟨i, hi, rfl, HQ, HB⟩ := hrel
    by_cases hil : i < L.length
    case neg =>
      obtain rfl : i = L.length := by omega
      go_wp2_with fail
      go_ret2
      exact ⟨_, _, rfl, .inr ⟨rfl, rfl, fun _ => HQ.out⟩, HB2.out.trans (HB.out.mono HB2.out.size)⟩
    have s1 := below_later HB.out c2
    have HP := Lib.hid (HPO.out i hil wo (HS2.out.keep HB.out))
    have HN : Hid (¬ (pathB L i = true ∧ pathS L i = s) → ∀ q, q < i + 1 → ¬ (pathB L q = true ∧ pathS L q = s)) := Lib.hid (fun hn q hq => by
      by_cases e : q = i
      · rw [e]; exact hn
      · exact HQ.out q (by omega))
    have HY : Hid (pathB L i = true → pathS L i = s → AtO L s (i : Int) true) := Lib.hid (fun g1 g2 => .inl ⟨rfl, HGD.out, i, rfl, hil, g1, g2, HQ.out⟩)
    generalize pathS L i = p at *
    generalize pathB L i = pb at *
    cases pb with
    | false =>
      have HN2 := Lib.hid (HN.out (by simp))
      clear HN HY
      go_wp2_with fail
      refine HP.out.mono ?_
      rintro e w3 ⟨rfl, hb⟩
      have HB3 := Lib.hid (HB.out.trans (hb.mono HB.out.size))
      clear hb
      go_wp2_with fail
      go_roundw
      case rel => exact ⟨i + 1, by omega, by go_num, HN2, HB3⟩
      case measure => (simp [intOf]; try omega)
    | true =>
    cases hps : (p.toList == s.toList) with
    | true =>
      have HY2 := Lib.hid (HY.out rfl (toList_eq.1 hps))
      clear HN HY
      go_wp2_with fail
      refine HP.out.mono ?_
      rintro e w3 ⟨rfl, hb⟩
      have HB3 := Lib.hid (HB.out.trans (hb.mono HB.out.size))
      clear hb
      go_wp2_with fail
      go_ret2
      exact ⟨_, _, rfl, HY2.out, HB2.out.trans (HB3.out.mono HB2.out.size)⟩
    | false =>
      have HN2 := Lib.hid (HN.out (fun q => by rw [toList_eq.2 q.2] at hps; cases hps))
      clear HN HY
      go_wp2_with fail
      refine HP.out.mono ?_
      rintro e w3 ⟨rfl, hb⟩
      have HB3 := Lib.hid (HB.out.trans (hb.mono HB.out.size))
      clear hb
      go_wp2_with fail
      go_roundw
      case rel => exact ⟨i + 1, by omega, by go_num, HN2, HB3⟩
      case measure => (simp [intOf]; try omega)
end Go.Proofs.Ytmlnecopbncdbaa
