/- Kinds of data: how many cells they take, how they are read, how a call owns them (which blocks), how much they weigh, what marks turn them into. No function of the program is named here. -/
import Derived.Test.YtmlnecopbncdbaaRead
import Derived.OwnWalk
import Derived.Deep.AppendLies
namespace Go.Proofs.Ytmlnecopbncdbaa
set_option linter.unusedVariables false
set_option linter.unusedSimpArgs false
open Go.ChangeShapes Go.WideShapes Go.ChangeAt Go.RowKit

structure Kind (α : Type) where
  n : Nat
  rd : Nat → World → List Value → α → Prop
  ow : List Nat → World → List Value → α → Prop
  wt : α → Nat
  cnt : α → Nat
  mark : Nat → α → α
  s : Nat

structure Kind.Ok {α : Type} (K : Kind α) : Prop where
  rlen : ∀ {B w cs x}, K.rd B w cs x → cs.length = K.n
  rbelow : ∀ {B w w' cs x}, K.rd B w cs x → Below B w w' → K.rd B w' cs x
  rmono : ∀ {B B' w cs x}, K.rd B w cs x → B ≤ B' → K.rd B' w cs x
  oframe : ∀ {fp w w' cs x}, K.ow fp w cs x → (∀ b ∈ fp, w'.heap[b]? = w.heap[b]?) → K.ow fp w' cs x
  ord : ∀ {fp B w cs x}, K.ow fp w cs x → (∀ b ∈ fp, b < B) → K.rd B w cs x
  olt : ∀ {fp w cs x}, K.ow fp w cs x → ∀ b ∈ fp, b < w.heap.size
  mcnt : ∀ k x, K.cnt (K.mark k x) = K.cnt x
  cwt : ∀ x, K.cnt x ≤ K.s + 8 * K.wt x

def kOf {α : Type} (V : α → Value) (p : α → Prop) (wt : α → Nat) (mk : Nat → α) : Kind α :=
  ⟨1, fun _ _ cs x => cs = [V x] ∧ p x, fun fp _ cs x => fp = [] ∧ cs = [V x] ∧ p x, wt, fun _ => 1, fun k _ => mk k, 1⟩
theorem kOf_ok {α : Type} (V : α → Value) (p : α → Prop) (wt : α → Nat) (mk : Nat → α) : (kOf V p wt mk).Ok :=
  ⟨fun h => by rw [h.1]; rfl, fun h _ => h, fun h _ => h, fun h _ => h, fun h _ => h.2, fun h => by rw [h.1]; simp, fun _ _ => rfl, fun x => by show 1 ≤ 1 + _; omega⟩
def kInt : Kind Int := kOf (Value.int .i64) (fun n => (Lit.int .i64 n).wf = true) (fun _ => 0) (fun k => (k : Int))
def kBool : Kind Bool := kOf Value.bool (fun _ => True) (fun _ => 0) (fun k => decide ((k : Int) % 3 = 0))
def kByte : Kind UInt8 := kOf (fun c => Value.int .u8 (c.toNat : Int)) (fun _ => True) (fun _ => 0) (fun k => UInt8.ofNat k)
def kStrOf (mt : Nat → ByteArray) : Kind ByteArray := kOf Value.string (fun s => s.size ≤ maxLen) (fun s => s.size) mt

def kPair {α β : Type} (K : Kind α) (L : Kind β) : Kind (α × β) :=
  ⟨K.n + L.n, fun B w cs x => ∃ c d, cs = c ++ d ∧ K.rd B w c x.1 ∧ L.rd B w d x.2,
   fun fp w cs x => ∃ f g c d, fp = f ++ g ∧ cs = c ++ d ∧ K.ow f w c x.1 ∧ L.ow g w d x.2,
   fun x => K.wt x.1 + L.wt x.2, fun x => K.cnt x.1 + L.cnt x.2, fun k x => (K.mark k x.1, L.mark (k + K.cnt x.1) x.2), K.s + L.s⟩
theorem kPair_ok {α β : Type} {K : Kind α} {L : Kind β} (hK : K.Ok) (hL : L.Ok) : (kPair K L).Ok := by
  refine ⟨?_, ?_, ?_, ?_, ?_, ?_, ?_, ?_⟩
  · rintro B w cs x ⟨c, d, rfl, h1, h2⟩; rw [List.length_append, hK.rlen h1, hL.rlen h2]; rfl
  · rintro B w w' cs x ⟨c, d, rfl, h1, h2⟩ hb; exact ⟨c, d, rfl, hK.rbelow h1 hb, hL.rbelow h2 hb⟩
  · rintro B B' w cs x ⟨c, d, rfl, h1, h2⟩ hb; exact ⟨c, d, rfl, hK.rmono h1 hb, hL.rmono h2 hb⟩
  · rintro fp w w' cs x ⟨f, g, c, d, rfl, rfl, h1, h2⟩ h; exact ⟨f, g, c, d, rfl, rfl, hK.oframe h1 fun b hb => h b (by simp [hb]), hL.oframe h2 fun b hb => h b (by simp [hb])⟩
  · rintro fp B w cs x ⟨f, g, c, d, rfl, rfl, h1, h2⟩ h; exact ⟨c, d, rfl, hK.ord h1 fun b hb => h b (by simp [hb]), hL.ord h2 fun b hb => h b (by simp [hb])⟩
  · rintro fp w cs x ⟨f, g, c, d, rfl, rfl, h1, h2⟩ b hb
    rcases List.mem_append.1 hb with hb | hb
    · exact hK.olt h1 b hb
    · exact hL.olt h2 b hb
  · intro k x; show K.cnt (K.mark k x.1) + L.cnt (L.mark _ x.2) = K.cnt x.1 + L.cnt x.2; rw [hK.mcnt, hL.mcnt]
  · intro x; show K.cnt x.1 + L.cnt x.2 ≤ K.s + L.s + 8 * (K.wt x.1 + L.wt x.2); have := hK.cwt x.1; have := hL.cwt x.2; omega

/-! ### rows -/
def RdL {α : Type} (K : Kind α) (B : Nat) (w : World) : List (List Value) → List α → Prop
  | [], [] => True
  | v :: vs, x :: xs => K.rd B w v x ∧ RdL K B w vs xs
  | _, _ => False
def OwL {α : Type} (K : Kind α) (w : World) : List (List Nat) → List (List Value) → List α → Prop
  | [], [], [] => True
  | f :: fs, v :: vs, x :: xs => K.ow f w v x ∧ OwL K w fs vs xs
  | _, _, _ => False
section
variable {α : Type} {K : Kind α} {B B' : Nat} {w w' : World}
theorem RdL.length : ∀ {vs : List (List Value)} {xs : List α}, RdL K B w vs xs → vs.length = xs.length
  | [], [], _ => rfl
  | _ :: _, _ :: _, h => by rw [List.length_cons, List.length_cons, h.2.length]
theorem RdL.imp {L : Kind α} (f : ∀ v x, K.rd B w v x → L.rd B' w' v x) : ∀ {vs : List (List Value)} {xs : List α}, RdL K B w vs xs → RdL L B' w' vs xs
  | [], [], _ => trivial
  | _ :: _, _ :: _, h => ⟨f _ _ h.1, h.2.imp f⟩
theorem RdL.at : ∀ {vs : List (List Value)} {xs : List α}, RdL K B w vs xs → ∀ (i : Nat) (x : α), xs[i]? = some x → ∃ v, vs[i]? = some v ∧ K.rd B w v x
  | [], [], _, i, x, hx => by simp at hx
  | v :: _, y :: _, h, 0, x, hx => by simp at hx; subst hx; exact ⟨v, rfl, h.1⟩
  | _ :: _, _ :: _, h, i + 1, x, hx => by
    obtain ⟨v, h1, h2⟩ := h.2.at i x (by simpa using hx)
    exact ⟨v, by simpa using h1, h2⟩
theorem RdL.flat (hK : K.Ok) : ∀ {vs : List (List Value)} {xs : List α}, RdL K B w vs xs → vs.flatten.length = xs.length * K.n
  | [], [], _ => by simp
  | v :: vs, x :: xs, h => by rw [List.flatten_cons, List.length_append, hK.rlen h.1, h.2.flat hK, List.length_cons, Nat.add_mul]; omega
theorem OwL.lengths : ∀ {fs : List (List Nat)} {vs : List (List Value)} {xs : List α}, OwL K w fs vs xs → fs.length = xs.length ∧ vs.length = xs.length
  | [], [], [], _ => ⟨rfl, rfl⟩
  | _ :: _, _ :: _, _ :: _, h => by obtain ⟨h1, h2⟩ := h.2.lengths; exact ⟨by simp [h1], by simp [h2]⟩
theorem OwL.frame (hK : K.Ok) : ∀ {fs : List (List Nat)} {vs : List (List Value)} {xs : List α}, OwL K w fs vs xs → (∀ b ∈ fs.flatten, w'.heap[b]? = w.heap[b]?) → OwL K w' fs vs xs
  | [], [], [], _, _ => trivial
  | _ :: _, _ :: _, _ :: _, h, hb => ⟨hK.oframe h.1 fun b hm => hb b (by simp [hm]), h.2.frame hK fun b hm => hb b (by rw [List.flatten_cons]; simp only [List.mem_append]; exact .inr hm)⟩
theorem OwL.rd (hK : K.Ok) : ∀ {fs : List (List Nat)} {vs : List (List Value)} {xs : List α}, OwL K w fs vs xs → (∀ b ∈ fs.flatten, b < B) → RdL K B w vs xs
  | [], [], [], _, _ => trivial
  | _ :: _, _ :: _, _ :: _, h, hb => ⟨hK.ord h.1 fun b hm => hb b (by simp [hm]), h.2.rd hK fun b hm => hb b (by rw [List.flatten_cons]; simp only [List.mem_append]; exact .inr hm)⟩
theorem OwL.lt (hK : K.Ok) : ∀ {fs : List (List Nat)} {vs : List (List Value)} {xs : List α}, OwL K w fs vs xs → ∀ b ∈ fs.flatten, b < w.heap.size
  | [], [], [], _, b, hb => by simp at hb
  | _ :: _, _ :: _, _ :: _, h, b, hb => by
    rw [List.flatten_cons] at hb
    rcases List.mem_append.1 hb with hb | hb
    · exact hK.olt h.1 b hb
    · exact h.2.lt hK b hb
theorem OwL.flat (hK : K.Ok) {fs : List (List Nat)} {vs : List (List Value)} {xs : List α} (h : OwL K w fs vs xs) : vs.flatten.length = xs.length * K.n :=
  (h.rd hK (B := w.heap.size) (h.lt hK)).flat hK
theorem OwL.snoc : ∀ {fs : List (List Nat)} {vs : List (List Value)} {xs : List α} {f : List Nat} {v : List Value} {x : α}, OwL K w fs vs xs → K.ow f w v x → OwL K w (fs ++ [f]) (vs ++ [v]) (xs ++ [x])
  | [], [], [], _, _, _, _, h => ⟨h, trivial⟩
  | _ :: _, _ :: _, _ :: _, _, _, _, h, h' => ⟨h.1, h.2.snoc h'⟩
theorem OwL.at : ∀ {fs : List (List Nat)} {vs : List (List Value)} {xs : List α}, OwL K w fs vs xs → ∀ (i : Nat) (x : α), xs[i]? = some x → ∃ f v, fs[i]? = some f ∧ vs[i]? = some v ∧ K.ow f w v x
  | [], [], [], _, i, x, hx => by simp at hx
  | f :: _, v :: _, y :: _, h, 0, x, hx => by simp at hx; subst hx; exact ⟨f, v, rfl, rfl, h.1⟩
  | _ :: _, _ :: _, _ :: _, h, i + 1, x, hx => by
    obtain ⟨f, v, h1, h2, h3⟩ := h.2.at i x (by simpa using hx)
    exact ⟨f, v, by simpa using h1, by simpa using h2, h3⟩
/-- one of the elements turns, in the world and maybe in its cells; what the others own is as it was -/
theorem OwL.turn (hK : K.Ok) : ∀ {fs : List (List Nat)} {vs : List (List Value)} {xs : List α}, OwL K w fs vs xs → fs.flatten.Nodup → ∀ (i : Nat) (f : List Nat) (v' : List Value) (x' : α), fs[i]? = some f →
    (∀ b ∈ fs.flatten, b ∉ f → w'.heap[b]? = w.heap[b]?) → K.ow f w' v' x' → OwL K w' fs (vs.set i v') (xs.set i x')
  | [], [], [], _, _, i, f, v', x', hf, _, _ => by simp at hf
  | g :: fs, v :: vs, x :: xs, h, hn, 0, f, v', x', hf, hb, ho => by
    simp at hf; subst hf
    rw [List.flatten_cons, List.nodup_append] at hn
    exact ⟨ho, h.2.frame hK fun b hm => hb b (by rw [List.flatten_cons]; simp only [List.mem_append]; exact .inr hm) fun hc => hn.2.2 b hc b hm rfl⟩
  | g :: fs, v :: vs, x :: xs, h, hn, i + 1, f, v', x', hf, hb, ho => by
    rw [List.flatten_cons, List.nodup_append] at hn
    have hf' : fs[i]? = some f := by simpa using hf
    refine ⟨hK.oframe h.1 fun b hm => hb b (by simp [hm]) fun hc => hn.2.2 b hm b ?_ rfl, h.2.turn hK hn.2.1 i f v' x' hf' (fun b hm => hb b (by rw [List.flatten_cons]; simp only [List.mem_append]; exact .inr hm)) ho⟩
    exact List.mem_flatten.2 ⟨f, List.mem_of_getElem? hf', hc⟩
end

def mkL {α : Type} (K : Kind α) : Nat → List α → List α
  | _, [] => []
  | k, x :: xs => K.mark k x :: mkL K (k + K.cnt x) xs
def sumL {α : Type} (f : α → Nat) : List α → Nat
  | [] => 0
  | x :: xs => f x + sumL f xs
@[simp] theorem mkL_length {α : Type} (K : Kind α) : ∀ (k : Nat) (xs : List α), (mkL K k xs).length = xs.length
  | _, [] => rfl
  | k, x :: xs => by simp [mkL, mkL_length K _ xs]
theorem sumL_mk {α : Type} {K : Kind α} (hK : K.Ok) : ∀ (k : Nat) (xs : List α), sumL K.cnt (mkL K k xs) = sumL K.cnt xs
  | _, [] => rfl
  | k, x :: xs => by rw [mkL, sumL, sumL, hK.mcnt, sumL_mk hK]
theorem sumL_take {α : Type} (f : α → Nat) : ∀ (xs : List α) (k : Nat) (x : α), xs[k]? = some x → sumL f (xs.take (k + 1)) = sumL f (xs.take k) + f x
  | [], k, x, h => by simp at h
  | y :: ys, 0, x, h => by simp at h; subst h; simp [sumL]
  | y :: ys, k + 1, x, h => by
    rw [List.take_succ_cons, List.take_succ_cons, sumL, sumL, sumL_take f ys k x (by simpa using h)]; omega
theorem sumL_le {α : Type} (f : α → Nat) : ∀ (xs : List α) (k : Nat), sumL f (xs.take k) ≤ sumL f xs
  | [], k => by simp
  | y :: ys, 0 => by simp [sumL]
  | y :: ys, k + 1 => by rw [List.take_succ_cons, sumL, sumL]; have := sumL_le f ys k; omega
theorem sumL_at {α : Type} (f : α → Nat) (xs : List α) (k : Nat) (x : α) (h : xs[k]? = some x) : f x ≤ sumL f xs := by
  have h1 := sumL_take f xs k x h
  have h2 := sumL_le f xs (k + 1)
  omega
theorem mkL_set {α : Type} (K : Kind α) : ∀ (xs : List α) (k0 k : Nat) (x : α), xs[k]? = some x →
    (mkL K k0 (xs.take k) ++ xs.drop k).set k (K.mark (k0 + sumL K.cnt (xs.take k)) x) = mkL K k0 (xs.take (k + 1)) ++ xs.drop (k + 1)
  | [], k0, k, x, h => by simp at h
  | y :: ys, k0, 0, x, h => by simp at h; subst h; simp [mkL, sumL]
  | y :: ys, k0, k + 1, x, h => by
    rw [List.take_succ_cons, List.take_succ_cons, List.drop_succ_cons, List.drop_succ_cons, mkL, mkL, sumL, List.cons_append, List.set_cons_succ, List.cons_append, ← Nat.add_assoc, mkL_set K ys (k0 + K.cnt y) k x (by simpa using h)]
theorem mkL_at {α : Type} (K : Kind α) : ∀ (xs : List α) (k0 k : Nat) (x : α), xs[k]? = some x → (mkL K k0 xs)[k]? = some (K.mark (k0 + sumL K.cnt (xs.take k)) x)
  | [], k0, k, x, h => by simp at h
  | y :: ys, k0, 0, x, h => by simp at h; subst h; simp [mkL, sumL]
  | y :: ys, k0, k + 1, x, h => by
    rw [List.take_succ_cons, mkL, sumL, List.getElem?_cons_succ, mkL_at K ys (k0 + K.cnt y) k x (by simpa using h), Nat.add_assoc]

def kSl {α : Type} (e : TypeId) (K : Kind α) : Kind (List α) :=
  ⟨1, fun B w cs xs => ∃ a cap vss, cs = [.slice a xs.length cap] ∧ (xs.length ≤ cap ∧ cap ≤ maxLen) ∧ Rb B w a vss.flatten ∧ RdL K B w vss xs,
   fun fp w cs xs => ∃ v vss fps, cs = [v] ∧ w.ownsRow 0 e K.n v xs.length vss.flatten ∧ OwL K w fps vss xs ∧ fp = v.ownBlock.toList ++ fps.flatten ∧ fp.Nodup,
   fun xs => xs.length + sumL K.wt xs, fun xs => sumL K.cnt xs, fun k xs => mkL K k xs, 0⟩

theorem own_caps {w : World} {base : Nat} {e : TypeId} {size : Nat} {a : Option Addr} {n cap : Nat} {xs : List Value} (h : w.ownsRow base e size (.slice a n cap) n xs) : n ≤ cap ∧ cap ≤ maxLen := by
  rcases h.2 with ⟨h0, hn⟩ | ⟨g, cap', cur, hv, hb, hg, hnc, hcm, _⟩
  · cases h0; exact ⟨Nat.le_refl _, by unfold maxLen; omega⟩
  · cases hv; exact ⟨hnc, hcm⟩
theorem kSl_ok {α : Type} (e : TypeId) {K : Kind α} (hK : K.Ok) (hs : K.s ≤ 8) : (kSl e K).Ok := by
  refine ⟨?_, ?_, ?_, ?_, ?_, ?_, ?_, ?_⟩
  · rintro B w cs x ⟨a, cap, vss, rfl, _⟩; rfl
  · rintro B w w' cs x ⟨a, cap, vss, rfl, h1, h2, h3⟩ hb; exact ⟨a, cap, vss, rfl, h1, h2.below hb, h3.imp fun _ _ h => hK.rbelow h hb⟩
  · rintro B B' w cs x ⟨a, cap, vss, rfl, h1, h2, h3⟩ hb; exact ⟨a, cap, vss, rfl, h1, h2.mono hb, h3.imp fun _ _ h => hK.rmono h hb⟩
  · rintro fp w w' cs x ⟨v, vss, fps, rfl, h1, h2, rfl, h4⟩ h
    refine ⟨v, vss, fps, rfl, ⟨h1.1, ?_⟩, h2.frame hK fun b hb => h b (by simp only [List.mem_append]; exact .inr hb), rfl, h4⟩
    rcases h1.2 with h0 | ⟨g, cap', cur, rfl, hb', hg, r⟩
    · exact .inl h0
    · exact .inr ⟨g, cap', cur, rfl, hb', by rw [h g (by simp [Value.ownBlock])]; exact hg, r⟩
  · rintro fp B w cs x ⟨v, vss, fps, rfl, h1, h2, rfl, h4⟩ h
    obtain ⟨a, cap, rfl⟩ := form_of_own h1
    refine ⟨a, cap, vss, rfl, own_caps h1, ?_, h2.rd hK fun b hb => h b (by simp only [List.mem_append]; exact .inr hb)⟩
    rcases own_rw h1 with h0 | ⟨b, off, rfl, hl, hc⟩
    · exact .inl h0
    · exact .inr ⟨b, off, rfl, h b (by simp [Value.ownBlock]), hc⟩
  · rintro fp w cs x ⟨v, vss, fps, rfl, h1, h2, rfl, h4⟩ b hb
    rcases List.mem_append.1 hb with hb | hb
    · exact (h1.lt b (by simpa using hb)).2
    · exact h2.lt hK b hb
  · intro k xs; exact sumL_mk hK k xs
  · intro xs
    show sumL K.cnt xs ≤ 0 + 8 * (xs.length + sumL K.wt xs)
    induction xs with
    | nil => simp [sumL]
    | cons x xs ih => rw [sumL, sumL, List.length_cons]; have := hK.cwt x; omega

/-- A value that a call made: it owns it, in blocks that lay not there when the call began. -/
def Made {α : Type} (K : Kind α) (V : List Value → Value) (x : α) (w : World) (e : Ending) (w' : World) : Prop :=
  ∃ cs fp, e = .returned (V cs) ∧ K.ow fp w' cs x ∧ fp.Nodup ∧ (∀ b ∈ fp, w.heap.size ≤ b) ∧ Below w.heap.size w w'
def one (cs : List Value) : Value := cs.headD undef
def szR (l : Int) (n : Nat) : Int := if (n : Int) ≤ l then l - n else -1
theorem szR_step (l : Int) (a b : Nat) : szR l (a + b) = if (a : Int) ≤ l then szR (l - a) b else -1 := by
  unfold szR
  by_cases h : (a : Int) ≤ l
  · rw [if_pos h]
    by_cases h2 : ((a + b : Nat) : Int) ≤ l
    · rw [if_pos h2, if_pos (by omega)]; omega
    · rw [if_neg h2, if_neg (by omega)]
  · rw [if_neg h, if_neg (by omega)]
theorem szR_fit {l : Int} {n : Nat} (h : (n : Int) ≤ l) : szR l n = l - n := by unfold szR; rw [if_pos h]
theorem szR_not {l : Int} {n : Nat} (h : ¬ (n : Int) ≤ l) : szR l n = -1 := by unfold szR; rw [if_neg h]
theorem szR_fits {l : Int} {n : Nat} (h : 0 ≤ szR l n) : (n : Int) ≤ l := by
  unfold szR at h
  by_cases hc : (n : Int) ≤ l
  · exact hc
  · rw [if_neg hc] at h; omega
theorem Kind.Ok.later {α : Type} {K : Kind α} (hK : K.Ok) {w w' : World} {cs : List Value} {x : α} (h : K.rd w.heap.size w cs x) (hb : Below w.heap.size w w') : K.rd w'.heap.size w' cs x :=
  hK.rmono (hK.rbelow h hb) hb.size
theorem drop_cons {α : Type} (xs : List α) (k : Nat) (x : α) (h : xs[k]? = some x) : xs.drop k = x :: xs.drop (k + 1) := by
  obtain ⟨hk, rfl⟩ := List.getElem?_eq_some_iff.1 h
  exact List.drop_eq_getElem_cons hk
/-- where the cells of one element of a row lie -/
theorem flat_at {α : Type} {K : Kind α} (hK : K.Ok) {B : Nat} {w : World} : ∀ {vs : List (List Value)} {xs : List α}, RdL K B w vs xs → ∀ (k j : Nat) (v : List Value) (u : Value), vs[k]? = some v → v[j]? = some u → vs.flatten[k * K.n + j]? = some u
  | [], [], _, k, j, v, u, hv, _ => by simp at hv
  | v0 :: vs, x :: xs, h, 0, j, v, u, hv, hu => by
    simp at hv; subst hv
    have hj := (List.getElem?_eq_some_iff.1 hu).1
    rw [List.flatten_cons, Nat.zero_mul, Nat.zero_add, List.getElem?_append_left hj]; exact hu
  | v0 :: vs, x :: xs, h, k + 1, j, v, u, hv, hu => by
    have hl := hK.rlen h.1
    rw [List.flatten_cons, List.getElem?_append_right (by rw [hl, Nat.add_mul]; omega), hl, show (k + 1) * K.n + j - K.n = k * K.n + j by rw [Nat.add_mul]; omega]
    exact flat_at hK h.2 k j v u (by simpa using hv) hu
theorem elem_cells {α : Type} {K : Kind α} (hK : K.Ok) {n : Nat} (hn : K.n = n) (h0 : 0 < n) {B : Nat} {w : World} {a : Option Addr} {vss : List (List Value)} {xs : List α} (hrow : Rb B w a vss.flatten) (hl : RdL K B w vss xs) {k : Nat} {x : α} (hx : xs[k]? = some x) :
    ∃ v b off, K.rd B w v x ∧ vss[k]? = some v ∧ a = some ⟨b, off, none⟩ ∧ b < B ∧ ∀ j u, v[j]? = some u → w.cell? ⟨b, off + (k * n + j), none⟩ = some u := by
  obtain ⟨v, hv, hr⟩ := hl.at k x hx
  have hlen := hK.rlen hr
  obtain ⟨u0, hu0⟩ : ∃ u, v[0]? = some u := ⟨v[0]'(by omega), List.getElem?_eq_getElem _⟩
  have h1 := flat_at hK hl k 0 v u0 hv hu0
  obtain ⟨b, off, ha, hb, hc⟩ := hrow.at (by intro e; rw [e] at h1; simp at h1)
  refine ⟨v, b, off, hr, hv, ha, hb, fun j u hj => ?_⟩
  have := flat_at hK hl k j v u hv hj
  rw [hn] at this
  exact hc _ _ this

/-! ### a row that is laid from its head on -/
def zrow (z : List Value) (m : Nat) : List Value := (List.replicate m z).flatten
@[simp] theorem zrow_length (z : List Value) (m : Nat) : (zrow z m).length = m * z.length := by simp [zrow]
theorem zrow_at (z : List Value) : ∀ (m i : Nat), i < m * z.length → (zrow z m)[i]? = z[i % z.length]?
  | 0, i, h => by simp at h
  | m + 1, i, h => by
    have e : zrow z (m + 1) = z ++ zrow z m := by simp [zrow, List.replicate_succ]
    rw [e]
    by_cases hi : i < z.length
    · rw [List.getElem?_append_left hi, Nat.mod_eq_of_lt hi]
    · rw [List.getElem?_append_right (by omega), zrow_at z m (i - z.length) (by rw [Nat.add_mul, Nat.one_mul] at h; omega), ← Nat.mod_eq_sub_mod (by omega)]
theorem toList_made (z : List Value) (m n : Nat) (h0 : 0 < n) (hn : z.length = n) : (madeCells z.toArray (m * n)).toList = zrow z m := by
  subst hn
  apply List.ext_getElem?
  intro i
  by_cases hi : i < m * z.length
  · rw [zrow_at z m i hi]
    have hm : i % z.length < z.length := Nat.mod_lt _ h0
    simp [madeCells, hi, hm]
  · rw [List.getElem?_eq_none (by simp [madeCells]; omega), List.getElem?_eq_none (by simp; omega)]
def sets (L : List Value) : Nat → List Value → List Value
  | _, [] => L
  | i, q :: qs => sets (L.set i q) (i + 1) qs
theorem sets_mid : ∀ (v z A B : List Value), v.length = z.length → sets (A ++ (z ++ B)) A.length v = A ++ (v ++ B)
  | [], [], A, B, _ => rfl
  | q :: qs, y :: ys, A, B, h => by
    show sets ((A ++ (y :: (ys ++ B))).set A.length q) (A.length + 1) qs = _
    rw [List.set_append_right _ _ (Nat.le_refl _), Nat.sub_self, List.set_cons_zero]
    have := sets_mid qs ys (A ++ [q]) B (by simpa using h)
    simp only [List.length_append, List.length_singleton, List.append_assoc, List.singleton_append] at this
    rw [this]; simp
theorem lay_next (vss : List (List Value)) (v z : List Value) (k m n : Nat) (hf : vss.flatten.length = k * n) (hv : v.length = n) (hz : z.length = n) (hk : k < m) :
    sets (vss.flatten ++ zrow z (m - k)) (k * n) v = (vss ++ [v]).flatten ++ zrow z (m - (k + 1)) := by
  have e : zrow z (m - k) = z ++ zrow z (m - (k + 1)) := by rw [show m - k = (m - (k + 1)) + 1 by omega]; simp [zrow, List.replicate_succ]
  rw [e, ← hf, sets_mid v z _ _ (by omega)]; simp
theorem lay_at (vss : List (List Value)) (z : List Value) (k m n j : Nat) (hf : vss.flatten.length = k * n) (hz : z.length = n) (hk : k < m) (hj : j < n) :
    k * n + j < (vss.flatten ++ zrow z (m - k)).length := by
  rw [List.length_append, hf, zrow_length, hz]
  have h1 : 1 * n ≤ (m - k) * n := Nat.mul_le_mul_right n (by omega)
  omega
theorem take_next {α : Type} (xs : List α) (k : Nat) (x : α) (h : xs[k]? = some x) : xs.take (k + 1) = xs.take k ++ [x] := by
  obtain ⟨hk, rfl⟩ := List.getElem?_eq_some_iff.1 h
  exact List.take_succ_eq_append_getElem hk

/-! ### one element of a row turns -/
def Lens (n : Nat) (vss : List (List Value)) : Prop := ∀ v ∈ vss, v.length = n
theorem OwL.lens {α : Type} {K : Kind α} (hK : K.Ok) {w : World} : ∀ {fs : List (List Nat)} {vs : List (List Value)} {xs : List α}, OwL K w fs vs xs → Lens K.n vs
  | [], [], [], _ => fun v hv => by simp at hv
  | _ :: _, v0 :: _, _ :: _, h => fun v hv => by
    rcases List.mem_cons.1 hv with rfl | hv
    · exact hK.rlen (hK.ord h.1 (B := w.heap.size) (hK.olt h.1))
    · exact h.2.lens hK v hv
theorem RdL.lens {α : Type} {K : Kind α} (hK : K.Ok) {B : Nat} {w : World} : ∀ {vs : List (List Value)} {xs : List α}, RdL K B w vs xs → Lens K.n vs
  | [], [], _ => fun v hv => by simp at hv
  | v0 :: _, _ :: _, h => fun v hv => by
    rcases List.mem_cons.1 hv with rfl | hv
    · exact hK.rlen h.1
    · exact h.2.lens hK v hv
theorem Lens.set {n : Nat} {vss : List (List Value)} (h : Lens n vss) (k : Nat) {v : List Value} (hv : v.length = n) : Lens n (vss.set k v) := by
  intro u hu
  rcases List.mem_or_eq_of_mem_set hu with hu | rfl
  · exact h u hu
  · exact hv
theorem flat_get {n : Nat} : ∀ {vss : List (List Value)}, Lens n vss → ∀ (k j : Nat) (v : List Value) (u : Value), vss[k]? = some v → v[j]? = some u → vss.flatten[k * n + j]? = some u
  | [], _, k, j, v, u, hv, _ => by simp at hv
  | v0 :: vs, h, 0, j, v, u, hv, hu => by
    simp at hv; subst hv
    have hj := (List.getElem?_eq_some_iff.1 hu).1
    rw [List.flatten_cons, Nat.zero_mul, Nat.zero_add, List.getElem?_append_left hj]; exact hu
  | v0 :: vs, h, k + 1, j, v, u, hv, hu => by
    have hl := h v0 (by simp)
    rw [List.flatten_cons, List.getElem?_append_right (by rw [hl, Nat.add_mul]; omega), hl, show (k + 1) * n + j - n = k * n + j by rw [Nat.add_mul]; omega]
    exact flat_get (fun v hv => h v (by simp [hv])) k j v u (by simpa using hv) hu
theorem flat_set {n : Nat} : ∀ {vss : List (List Value)}, Lens n vss → ∀ (k j : Nat) (v : List Value) (u : Value), vss[k]? = some v → j < n → vss.flatten.set (k * n + j) u = (vss.set k (v.set j u)).flatten
  | [], _, k, j, v, u, hv, _ => by simp at hv
  | v0 :: vs, h, 0, j, v, u, hv, hj => by
    simp at hv; subst hv
    have hl := h v0 (by simp)
    rw [List.flatten_cons, Nat.zero_mul, Nat.zero_add, List.set_append_left _ _ (by omega), List.set_cons_zero, List.flatten_cons]
  | v0 :: vs, h, k + 1, j, v, u, hv, hj => by
    have hl := h v0 (by simp)
    rw [List.flatten_cons, List.set_append_right _ _ (by rw [hl, Nat.add_mul]; omega), hl, show (k + 1) * n + j - n = k * n + j by rw [Nat.add_mul]; omega, List.set_cons_succ, List.flatten_cons]
    rw [flat_set (fun v hv => h v (by simp [hv])) k j v u (by simpa using hv) hj]
/-- the row while one of its elements turns -/
def RowKd (w : World) (e : TypeId) (n : Nat) (sl : Value) (len : Nat) (vss : List (List Value)) (k : Nat) (v : List Value) : Prop :=
  w.ownsRow 0 e n sl len (vss.set k v).flatten ∧ Lens n vss ∧ v.length = n ∧ k < vss.length
theorem RowKd.begin {w : World} {e : TypeId} {n : Nat} {sl : Value} {len : Nat} {vss : List (List Value)} {k : Nat} {v : List Value} (h : w.ownsRow 0 e n sl len vss.flatten) (hl : Lens n vss) (hv : vss[k]? = some v) : RowKd w e n sl len vss k v := by
  obtain ⟨hk, hg⟩ := List.getElem?_eq_some_iff.1 hv
  have : vss.set k v = vss := by rw [← hg]; exact List.set_getElem_self hk
  exact ⟨by rw [this]; exact h, hl, hl v (List.mem_of_getElem? hv), hk⟩
theorem RowKd.cell {w : World} {e : TypeId} {n g : Nat} {len cap : Nat} {vss : List (List Value)} {k : Nat} {v : List Value} (h : RowKd w e n (.slice (some ⟨g, 0, none⟩) len cap) len vss k v) (j : Nat) (u : Value) (hu : v[j]? = some u) : w.cell? ⟨g, k * n + j, none⟩ = some u := by
  have h1 := flat_get (h.2.1.set k h.2.2.1) k j v u (by simp [h.2.2.2]) hu
  have hlt := (List.getElem?_eq_some_iff.1 h1).1
  rw [h.1.1] at hlt
  rw [h.1.cellAt (k * n + j) hlt]; exact h1
theorem RowKd.frozen {w : World} {e : TypeId} {n g : Nat} {len cap : Nat} {vss : List (List Value)} {k : Nat} {v : List Value} (h : RowKd w e n (.slice (some ⟨g, 0, none⟩) len cap) len vss k v) (j : Nat) : w.frozen? ⟨g, j, none⟩ = false := h.1.frozenAt j
theorem RowKd.store {w : World} {e : TypeId} {n g : Nat} {len cap : Nat} {vss : List (List Value)} {k : Nat} {v : List Value} (h : RowKd w e n (.slice (some ⟨g, 0, none⟩) len cap) len vss k v) (j : Nat) (u : Value) (hj : j < n) : RowKd (w.setCell ⟨g, k * n + j, none⟩ u) e n (.slice (some ⟨g, 0, none⟩) len cap) len vss k (v.set j u) := by
  refine ⟨?_, h.2.1, by rw [List.length_set]; exact h.2.2.1, h.2.2.2⟩
  have h1 := (h.1.stored (k * n + j) u).1
  rw [flat_set (h.2.1.set k h.2.2.1) k j v u (by simp [h.2.2.2]) hj, List.set_set] at h1
  exact h1
theorem RowKd.keep {w w' : World} {e : TypeId} {n : Nat} {sl : Value} {len : Nat} {vss : List (List Value)} {k : Nat} {v : List Value} (h : RowKd w e n sl len vss k v) (hb : ∀ b, sl.ownBlock = some b → w'.heap[b]? = w.heap[b]?) : RowKd w' e n sl len vss k v := by
  refine ⟨⟨h.1.1, ?_⟩, h.2⟩
  rcases h.1.2 with h0 | ⟨g, cap', cur, rfl, hb', hg, r⟩
  · exact .inl h0
  · exact .inr ⟨g, cap', cur, rfl, hb', by rw [hb g rfl]; exact hg, r⟩
theorem nodup_of_flatten : ∀ {fs : List (List Nat)} {k : Nat} {f : List Nat}, fs.flatten.Nodup → fs[k]? = some f → f.Nodup
  | [], k, f, _, h => by simp at h
  | g :: fs, 0, f, hn, h => by simp at h; subst h; rw [List.flatten_cons, List.nodup_append] at hn; exact hn.1
  | g :: fs, k + 1, f, hn, h => by rw [List.flatten_cons, List.nodup_append] at hn; exact nodup_of_flatten hn.2.1 (by simpa using h)
theorem wf_mark {k : Nat} (h : k ≤ 9223372036854775807) : (Lit.int .i64 (k : Int)).wf = true := WalkArith.wf_i64 (by omega)

/-! ### arguments -/
theorem RdL_of {α : Type} {K : Kind α} {B : Nat} {w : World} : ∀ {vss : List (List Value)} {xs : List α}, vss.length = xs.length → (∀ (i : Nat) (v : List Value) (x : α), vss[i]? = some v → xs[i]? = some x → K.rd B w v x) → RdL K B w vss xs
  | [], [], _, _ => trivial
  | v :: vss, x :: xs, h, f => ⟨f 0 v x rfl rfl, RdL_of (by simpa using h) fun i v x hv hx => f (i + 1) v x (by simpa using hv) (by simpa using hx)⟩
  | [], _ :: _, h, _ => by simp at h
  | _ :: _, [], h, _ => by simp at h
section
variable {P : Program} {t e : TypeId}
theorem readsK_int (ht : P.underlying t = some (.int .i64)) (hc : P.cellsOf t = 1) : Reads P t 1 kInt.rd := reads_int ht hc
theorem readsK_byte (ht : P.underlying t = some (.int .u8)) (hc : P.cellsOf t = 1) : Reads P t 1 kByte.rd := ⟨hc, fun h => by obtain ⟨x, hx⟩ := (reads_byte ht hc).read h; exact ⟨x, hx, trivial⟩⟩
theorem readsK_bool (ht : P.underlying t = some .bool) (hc : P.cellsOf t = 1) : Reads P t 1 kBool.rd := ⟨hc, fun h => by obtain ⟨x, hx⟩ := (reads_bool ht hc).read h; exact ⟨x, hx, trivial⟩⟩
theorem readsK_str (mt : Nat → ByteArray) (ht : P.underlying t = some .string) (hc : P.cellsOf t = 1) : Reads P t 1 (kStrOf mt).rd := reads_str ht hc
theorem readsK_sl {α : Type} {K : Kind α} {e' : TypeId} (hK : K.Ok) (ht : P.underlying t = some (.slice e)) (hc : P.cellsOf t = 1) (hk : 0 < K.n) (hR : Reads P e K.n K.rd) : Reads P t 1 (kSl e' K).rd := by
  refine ⟨hc, fun h => ?_⟩
  obtain ⟨xs, a, cap, vss, h1, h2, h3, h4, h5⟩ := (reads_slice ht hc hk hR).read h
  exact ⟨xs, a, cap, vss, h1, h2, h3, RdL_of h4 fun i v x hv hx => (h5 i v x hv hx).2⟩
structure ReadsF {α : Type} (P : Program) (fs : List Field) (off m : Nat) (R : CR α) : Prop where
  read : ∀ {H : Type} {enc : TypeId × Value → H} {w : World} {n : Nat} {cs : List Value}, cs.length = off + m → (∀ (i : Nat) (f : Field), fs[i]? = some f → ∃ y, DataW.trod enc P w 0 (fun _ => true) true n f.type ((cs.drop f.offset).take (P.cellsOf f.type)) = some y) → ∃ x, R w.heap.size w (cs.drop off) x
theorem readsF_one {α : Type} {f : Field} {off k : Nat} {R : CR α} (ho : f.offset = off) (hR : Reads P f.type k R) : ReadsF P [f] off k R := by
  refine ⟨fun hl h => ?_⟩
  obtain ⟨y, hy⟩ := h 0 f rfl
  rw [ho, hR.cells, List.take_of_length_le (by rw [List.length_drop]; omega)] at hy
  exact hR.read hy
theorem readsF_cons {α β : Type} {f : Field} {fs : List Field} {off m : Nat} {K : Kind α} {L : Kind β} (ho : f.offset = off) (hR : Reads P f.type K.n K.rd) (hL : ReadsF P fs (off + K.n) m L.rd) : ReadsF P (f :: fs) off (K.n + m) (kPair K L).rd := by
  refine ⟨fun {H enc w n cs} hl h => ?_⟩
  obtain ⟨y, hy⟩ := h 0 f rfl
  rw [ho, hR.cells] at hy
  obtain ⟨x, hx⟩ := hR.read hy
  obtain ⟨z, hz⟩ := hL.read (w := w) (enc := enc) (n := n) (cs := cs) (by omega) fun i f hf => h (i + 1) f (by simpa using hf)
  exact ⟨(x, z), _, _, (List.take_append_drop K.n _).symm, hx, by rw [List.drop_drop]; exact hz⟩
theorem readsK_struct {α : Type} {fs : List Field} {m : Nat} {R : CR α} (ht : P.underlying t = some (.struct fs.toArray)) (hc : P.cellsOf t = m) (hF : ReadsF P fs 0 m R) : Reads P t m R := by
  refine ⟨hc, fun {H enc w fuel cs d} h => ?_⟩
  obtain ⟨xs, n, _, _, hl, hlen, hf⟩ := DataW.trod_struct ht h
  have := hF.read (w := w) (enc := enc) (n := n) (cs := cs) (by omega) fun i f hfi => by
    have hi : i < xs.length := by rw [hlen]; simpa using (List.getElem?_eq_some_iff.1 hfi).1
    exact ⟨xs[i], by have := hf i f (by simpa using hfi); rw [this]; exact List.getElem?_eq_getElem hi⟩
  simpa using this
end
/-- an argument of a law -/
def IsK {α : Type} (K : Kind α) (V : List Value → Value) (w : World) (v : Value) (x : α) : Prop := ∃ cs, v = V cs ∧ K.rd w.heap.size w cs x
theorem argSlK {H : Type} {enc : TypeId × Value → H} {P : Program} {t e : TypeId} {W : World} {r : Reach} {b0 : Nat} {v : Value} {d : DataW H} {ps : List MemPlace} {α : Type} {K : Kind (List α)} (ht : P.underlying t = some (.slice e)) (hR : Reads P t 1 K.rd) (hform : ∀ {B w cs xs}, K.rd B w cs xs → ∃ a cap, cs = [.slice a xs.length cap])
    (hval : Value.okWide P W r b0 t v) (h : DataW.Trod enc P W 0 (fun _ => true) true t v d ps) : ∃ x, IsK K one W v x := by
  obtain ⟨fuel, hf⟩ := h
  obtain ⟨xs, hs⟩ := hR.read hf
  obtain ⟨a, cap, hc⟩ := hform hs
  refine ⟨xs, v.cells.toList, ?_, hs⟩
  rw [hc]
  exact arg_slice ht hval hc
theorem argAggK {H : Type} {enc : TypeId × Value → H} {P : Program} {t : TypeId} {W : World} {r : Reach} {b0 : Nat} {v : Value} {d : DataW H} {ps : List MemPlace} {α : Type} {K : Kind α} {fs : Array Field} {n : Nat} (ht : P.underlying t = some (.struct fs)) (hR : Reads P t n K.rd)
    (hval : Value.okWide P W r b0 t v) (h : DataW.Trod enc P W 0 (fun _ => true) true t v d ps) : ∃ x, IsK K (fun cs => .agg cs.toArray) W v x := by
  obtain ⟨fuel, hf⟩ := h
  obtain ⟨xs, hs⟩ := hR.read hf
  exact ⟨xs, _, arg_struct ht hval, hs⟩
theorem kSl_form {α : Type} {e : TypeId} {K : Kind α} {B : Nat} {w : World} {cs : List Value} {xs : List α} (h : (kSl e K).rd B w cs xs) : ∃ a cap, cs = [.slice a xs.length cap] := by
  obtain ⟨a, cap, _, h, _⟩ := h
  exact ⟨a, cap, h⟩
/-- A value that a call returned, as it reads. -/
def ReadsAs {α : Type} (K : Kind α) (V : List Value → Value) (x : α) (w : World) (e : Ending) (w' : World) : Prop :=
  ∃ cs, e = .returned (V cs) ∧ K.rd w'.heap.size w' cs x ∧ Below w.heap.size w w'
theorem Made.reads {α : Type} {K : Kind α} (hK : K.Ok) {V : List Value → Value} {x : α} {w w' : World} {e : Ending} (h : Made K V x w e w') : ReadsAs K V x w e w' := by
  obtain ⟨cs, fp, he, ho, _, _, hb⟩ := h
  exact ⟨cs, he, hK.ord ho (hK.olt ho), hb⟩
theorem sl_at {α : Type} {e : TypeId} {K : Kind α} (hK : K.Ok) {n : Nat} (hn : K.n = n) (h0 : 0 < n) {B : Nat} {w : World} {a : Option Addr} {m cap : Nat} {xs : List α} (h : (kSl e K).rd B w [.slice a m cap] xs) {k : Nat} {x : α} (hx : xs[k]? = some x) :
    ∃ v b off, K.rd B w v x ∧ a = some ⟨b, off, none⟩ ∧ b < B ∧ ∀ j u, v[j]? = some u → w.cell? ⟨b, off + (k * n + j), none⟩ = some u := by
  obtain ⟨a', cap', vss, hc, _, hrow, hl⟩ := h
  simp only [List.cons.injEq, Value.slice.injEq, and_true] at hc
  obtain ⟨rfl, _, _⟩ := hc
  obtain ⟨v, b, off, h1, _, h2, h3, h4⟩ := elem_cells hK hn h0 hrow hl hx
  exact ⟨v, b, off, h1, h2, h3, h4⟩
theorem sl_one {α : Type} {e : TypeId} {K : Kind α} (hK : K.Ok) (hn : K.n = 1) {B : Nat} {w : World} {a : Option Addr} {m cap : Nat} {xs : List α} (h : (kSl e K).rd B w [.slice a m cap] xs) {k : Nat} {x : α} (hx : xs[k]? = some x) :
    ∃ u b off, K.rd B w [u] x ∧ a = some ⟨b, off, none⟩ ∧ b < B ∧ w.cell? ⟨b, off + k, none⟩ = some u := by
  obtain ⟨v, b, off, h1, h2, h3, h4⟩ := sl_at hK hn (by decide) h hx
  have hl := hK.rlen h1
  rw [hn] at hl
  match v, hl with
  | [u], _ => exact ⟨u, b, off, h1, h2, h3, by have := h4 0 u rfl; simpa using this⟩
theorem sl_len {α : Type} {e : TypeId} {K : Kind α} {B : Nat} {w : World} {a : Option Addr} {m cap : Nat} {xs : List α} (h : (kSl e K).rd B w [.slice a m cap] xs) : m = xs.length ∧ xs.length ≤ cap ∧ cap ≤ 9223372036854775807 := by
  obtain ⟨a', cap', vss, hc, hcap, _⟩ := h
  simp only [List.cons.injEq, Value.slice.injEq, and_true] at hc
  obtain ⟨_, h1, h2⟩ := hc
  unfold maxLen at hcap
  subst h2
  exact ⟨h1, hcap.1, by omega⟩
end Go.Proofs.Ytmlnecopbncdbaa
