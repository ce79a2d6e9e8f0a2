/-
  The mathematics of the program: cells, grids, rays. No program in sight.
-/
import Derived.Test.YtmjmhaoikilagaaGreatDoorOps3
namespace Go.Lu
structure Cel where
  kind : Int
  light : Int
deriving DecidableEq
structure Grd where
  wide : Int
  cells : List Cel
deriving DecidableEq

def cellOk (c : Cel) : Bool := if c.kind = 7 then decide (1 ≤ c.light ∧ c.light ≤ 9) else decide (0 ≤ c.kind ∧ c.kind ≤ 6 ∧ c.light = 0)
theorem cellOk_mk (k l : Int) : cellOk ⟨k, l⟩ = if k = 7 then decide (1 ≤ l ∧ l ≤ 9) else decide (0 ≤ k ∧ k ≤ 6 ∧ l = 0) := rfl
def gridOk (g : Grd) : Bool := decide (1 ≤ g.wide ∧ g.wide ≤ 5 ∧ 0 < g.cells.length ∧ (g.cells.length : Int) ≤ g.wide * 5 ∧ (g.cells.length : Int) % g.wide = 0) && g.cells.all cellOk

theorem gridOk_iff {w : Int} {cs : List Cel} : gridOk ⟨w, cs⟩ = true ↔ (1 ≤ w ∧ w ≤ 5 ∧ 0 < cs.length ∧ (cs.length : Int) ≤ w * 5 ∧ (cs.length : Int) % w = 0) ∧ ∀ (j : Nat) x, cs[j]? = some x → cellOk x = true := by
  simp only [gridOk, Bool.and_eq_true, decide_eq_true_eq, List.all_eq_true]
  refine and_congr_right fun _ => ⟨fun h j x hx => h x (List.mem_of_getElem? hx), fun h x hx => ?_⟩
  obtain ⟨j, hj⟩ := List.mem_iff_getElem?.1 hx
  exact h j x hj
theorem gridOk_f {w : Int} {cs : List Cel} (h : ¬ (1 ≤ w ∧ w ≤ 5 ∧ 0 < cs.length ∧ (cs.length : Int) ≤ w * 5 ∧ (cs.length : Int) % w = 0)) : false = gridOk ⟨w, cs⟩ := by
  cases hg : gridOk ⟨w, cs⟩ with
  | false => rfl
  | true => exact absurd (gridOk_iff.1 hg).1 h
theorem gridOk_f2 {w : Int} {cs : List Cel} {j : Nat} {x : Cel} (hx : cs[j]? = some x) (h : cellOk x = false) : false = gridOk ⟨w, cs⟩ := by
  cases hg : gridOk ⟨w, cs⟩ with
  | false => rfl
  | true => have := (gridOk_iff.1 hg).2 j x hx; rw [h] at this; cases this
def celV (c : Cel) : List Value := [.int .i64 c.kind, .int .i64 c.light]
def cellV (c : Cel) : Value := .agg [.int .i64 c.kind, .int .i64 c.light].toArray

/-! ### slices as data -/
def Sd {α : Type} (H : LH) (sz : Nat) (v : Value) (xs : List α) (R : α → List Value → Prop) : Prop :=
  ∃ p c, v = .slice p xs.length c ∧ (∀ a, p = some a → a.spot = none) ∧ ∀ i x, xs[i]? = some x → ∃ b o vs, p = some ⟨b, o, none⟩ ∧ R x vs ∧ At H b (o + i * sz) vs
theorem Sd.le {α : Type} {H H' : LH} {sz : Nat} {v : Value} {xs : List α} {R R' : α → List Value → Prop} (hle : LE H H') (hr : ∀ x ∈ xs, ∀ vs, R x vs → R' x vs) (hs : Sd H sz v xs R) : Sd H' sz v xs R' := by
  obtain ⟨p, c, h1, h2, h3⟩ := hs
  refine ⟨p, c, h1, h2, fun i x hx => ?_⟩
  obtain ⟨b, o, vs, h4, h5, h6⟩ := h3 i x hx
  exact ⟨b, o, vs, h4, hr x (List.mem_of_getElem? hx) vs h5, h6.mono hle⟩
abbrev CelR (c : Cel) (vs : List Value) : Prop := vs = celV c
abbrev IntR (i : Int) (vs : List Value) : Prop := vs = [.int .i64 i]
/-- A grid's value. -/
def GridD (H : LH) (v : Value) (g : Grd) : Prop := ∃ p c, v = .agg [.int .i64 g.wide, .slice p g.cells.length c].toArray ∧ (∀ a, p = some a → a.spot = none) ∧ ∀ (i : Nat) (x : Cel), g.cells[i]? = some x → ∃ b o vs, p = some ⟨b, o, none⟩ ∧ CelR x vs ∧ At H b (o + i * 2) vs
theorem GridD.le {H H' : LH} {v : Value} {g : Grd} (hle : LE H H') (hg : GridD H v g) : GridD H' v g := by
  obtain ⟨p, c, h1, h2, h3⟩ := hg
  refine ⟨p, c, h1, h2, fun i x hx => ?_⟩
  obtain ⟨b, o, vs, h4, h5, h6⟩ := h3 i x hx
  exact ⟨b, o, vs, h4, h5, h6.mono hle⟩
theorem GridD.of {H : LH} {sv : Value} {w : Int} {cs : List Cel} (h : Sd H 2 sv cs CelR) : GridD H (.agg [.int .i64 w, sv].toArray) ⟨w, cs⟩ := by
  obtain ⟨p, c, rfl, h2, h3⟩ := h
  exact ⟨p, c, rfl, h2, h3⟩
def gW (g : Grd) : Nat := g.wide.toNat
def gH (g : Grd) : Nat := g.cells.length / gW g
structure GOk (g : Grd) : Prop where
  wide : g.wide = gW g
  w1 : 1 ≤ gW g
  w5 : gW g ≤ 5
  h1 : 1 ≤ gH g
  h5 : gH g ≤ 5
  len : g.cells.length = gH g * gW g
  cells : ∀ (j : Nat) x, g.cells[j]? = some x → cellOk x = true
theorem gOk {g : Grd} (h : gridOk g = true) : GOk g := by
  obtain ⟨w, cs⟩ := g
  obtain ⟨⟨h1, h2, h3, h4, h5⟩, h6⟩ := gridOk_iff.1 h
  have hw : w = ((w.toNat : Nat) : Int) := by omega
  generalize hW : w.toNat = W at hw
  subst hw
  have hd : cs.length % W = 0 := by omega
  have hl : cs.length = cs.length / W * W := by
    have := Nat.div_add_mod cs.length W
    rw [hd, Nat.add_zero, Nat.mul_comm] at this
    exact this.symm
  have e1 : gW ⟨W, cs⟩ = W := by simp [gW]
  have e2 : gH ⟨W, cs⟩ = cs.length / W := by simp [gH, e1]
  refine ⟨by rw [e1], by rw [e1]; omega, by rw [e1]; omega, ?_, ?_, by rw [e1, e2]; exact hl, h6⟩
  · rw [e2]
    rcases Nat.eq_zero_or_pos (cs.length / W) with hz | hz
    · rw [hz] at hl; omega
    · exact hz
  · rw [e2]
    have : cs.length ≤ 5 * W := by omega
    exact Nat.div_le_of_le_mul (by rw [Nat.mul_comm]; exact this)
theorem GOk.ok {g : Grd} (h : GOk g) : gridOk g = true := by
  obtain ⟨w, cs⟩ := g
  have e := h.wide
  have e2 := h.len
  have e3 := h.w1
  have e4 := h.w5
  have e5 := h.h1
  have e6 := h.h5
  simp only at e e2
  generalize gW ⟨w, cs⟩ = W at *
  generalize gH ⟨w, cs⟩ = H at *
  subst e
  refine gridOk_iff.2 ⟨⟨by omega, by omega, ?_, ?_, ?_⟩, h.cells⟩
  · rw [e2]; exact Nat.mul_pos (by omega) (by omega)
  · rw [e2, Nat.mul_comm]
    exact_mod_cast Nat.mul_le_mul_left W e6
  · rw [e2, Int.natCast_mul]; exact Int.mul_emod_left _ _
theorem GOk.len25 {g : Grd} (h : GOk g) : g.cells.length ≤ 25 := by
  rw [h.len]
  exact Nat.mul_le_mul h.h5 h.w5
def gMany (g : Grd) : Nat := if gridOk g then 2 * (gW g + gH g) else 0
theorem gMany_ok {g : Grd} (h : gridOk g = true) : gMany g = 2 * (gW g + gH g) := if_pos h
theorem gMany_no {g : Grd} (h : gridOk g = false) : gMany g = 0 := if_neg (by rw [h]; simp)

theorem rows_iff {w : Int} {n : Nat} (h1 : 1 ≤ w) (h5 : w ≤ 5) (hd : (n : Int) % w = 0) : (1 ≤ (n : Int) / w ∧ (n : Int) / w ≤ 5) ↔ (0 < n ∧ (n : Int) ≤ w * 5) := by
  have : w = 1 ∨ w = 2 ∨ w = 3 ∨ w = 4 ∨ w = 5 := by omega
  rcases this with rfl | rfl | rfl | rfl | rfl <;> omega
/-! ### directions -/
def dirOk (d : Int) : Bool := decide (0 ≤ d ∧ d ≤ 3)
/-- where light goes behind a mirror -/
def dTurn (kind : Int) (d : Int) : Int :=
  if kind = 2 ∨ kind = 4 then (if d = 0 then 1 else if d = 1 then 0 else if d = 2 then 3 else 2)
  else if kind = 3 ∨ kind = 5 then 3 - d else d
/-! ### rays and sights -/
def r1 (c : Nat) : Int × Int := (c, 2)
def r2 (W : Nat) (r : Nat) : Int × Int := ((r : Int) * W + W - 1, 3)
def r3 (W H : Nat) (p : Nat) : Int × Int := ((H : Int) * W - 1 - p, 0)
def r4 (W H : Nat) (p : Nat) : Int × Int := (((H : Int) - 1 - p) * W, 1)
def rays (W H : Nat) : List (Int × Int) := (List.range W).map r1 ++ (List.range H).map (r2 W) ++ (List.range W).map (r3 W H) ++ (List.range H).map (r4 W H)
def rayV (r : Int × Int) : List Value := [.int .i64 r.1, .int .i64 r.2]
theorem flat_get {α : Type} {f : α → List Value} {sz : Nat} (hf : ∀ x, (f x).length = sz) : ∀ {xs : List α} {i : Nat} {x : α}, xs[i]? = some x → ∃ r, (xs.flatMap f).drop (i * sz) = f x ++ r
  | [], i, x, h => by simp at h
  | y :: xs, 0, x, h => by simp at h; subst h; exact ⟨xs.flatMap f, by simp⟩
  | y :: xs, i + 1, x, h => by
    simp only [List.getElem?_cons_succ] at h
    obtain ⟨r, hr⟩ := flat_get hf h
    refine ⟨r, ?_⟩
    rw [List.flatMap_cons, Nat.succ_mul, Nat.add_comm, ← List.drop_drop, ← hf y, List.drop_left, hf y]
    exact hr
theorem flat_len {α : Type} {f : α → List Value} {sz : Nat} (hf : ∀ x, (f x).length = sz) : ∀ (xs : List α), (xs.flatMap f).length = xs.length * sz
  | [] => by simp
  | x :: xs => by rw [List.flatMap_cons, List.length_append, flat_len hf xs, hf, List.length_cons, Nat.succ_mul, Nat.add_comm]
/-- An element of an owned slice. -/
theorem Bc.get {α : Type} {T : TypeId} {sz : Nat} {v : Value} {B : OL} {xs : List α} {f : α → List Value} (hB : Bc T sz v B (xs.flatMap f)) (hf : ∀ x, (f x).length = sz) (h1 : 0 < sz) {i : Nat} {x : α} (hx : xs[i]? = some x) :
    ∃ b cap cs r, v = .slice (some ⟨b, 0, none⟩) xs.length cap ∧ B = [(b, bx cs T)] ∧ cs.drop (0 + i * sz) = f x ++ r ∧ cs.length = cap * sz ∧ xs.length ≤ cap := by
  have hi := (List.getElem?_eq_some_iff.1 hx).1
  rcases hB with ⟨rfl, rfl, h3⟩ | ⟨b, len, cap, cs, rfl, rfl, h1', h2, h3, h4⟩
  · have := flat_len hf xs
    rw [h3] at this
    have h0 : 0 < xs.length * sz := Nat.mul_pos (by omega) h1
    simp at this
    omega
  · rw [flat_len hf] at h3
    have hl : len = xs.length := (Nat.eq_of_mul_eq_mul_right h1 h3).symm
    subst hl
    obtain ⟨r, hr⟩ := flat_get hf hx
    refine ⟨b, cap, cs, r ++ cs.drop (xs.length * sz), rfl, rfl, ?_, h1', h2⟩
    have : cs = xs.flatMap f ++ cs.drop (xs.length * sz) := by rw [← h4, List.take_append_drop]
    rw [Nat.zero_add]
    conv => lhs; rw [this]
    rw [List.drop_append_of_le_length (by rw [flat_len hf]; exact Nat.mul_le_mul_right _ (by omega)), hr, List.append_assoc]
theorem Bc.pop {α : Type} {T : TypeId} {sz b len cap : Nat} {B : OL} {xs : List α} {x : α} {f : α → List Value} (hB : Bc T sz (.slice (some ⟨b, 0, none⟩) len cap) B ((xs ++ [x]).flatMap f)) (hf : ∀ x, (f x).length = sz) (h1 : 0 < sz) :
    Bc T sz (.slice (some ⟨b, 0, none⟩) xs.length cap) B (xs.flatMap f) := by
  rcases hB with ⟨h, _⟩ | ⟨b', len', cap', cs, hv, rfl, h1', h2, h3, h4⟩
  · cases h
  · injection hv with e1 e2 e3
    injection e1 with e1
    injection e1 with e1
    subst e1 e2 e3
    rw [flat_len hf] at h3
    have hl : len = xs.length + 1 := by
      have := Nat.eq_of_mul_eq_mul_right h1 h3
      simpa using this.symm
    subst hl
    refine .inr ⟨b, xs.length, cap, cs, rfl, rfl, h1', by omega, flat_len hf xs, ?_⟩
    have := congrArg (List.take (xs.length * sz)) h4
    rw [List.take_take, Nat.min_eq_left (Nat.mul_le_mul_right _ (by omega)), List.flatMap_append, List.take_append_of_le_length (by rw [flat_len hf]; omega)] at this
    rw [this]
    exact List.take_of_length_le (by rw [flat_len hf]; omega)
theorem rayV_len (l : List (Int × Int)) : (l.flatMap rayV).length = l.length * 2 := by
  induction l with
  | nil => rfl
  | cons a l ih => simp only [List.flatMap_cons, List.length_append, ih]; simp [rayV]; omega
theorem flat_snoc {α β : Type} (f : α → List β) (l : List α) (x : α) : (l ++ [x]).flatMap f = l.flatMap f ++ f x := by simp
theorem map_range_succ {β : Type} (f : Nat → β) (i : Nat) : (List.range (i + 1)).map f = (List.range i).map f ++ [f i] := by rw [List.range_succ, List.map_append]; rfl
theorem Bc.make (T : TypeId) (sz b cap : Nat) (zs : List Value) (hz : zs.length = sz) : Bc T sz (.slice (some ⟨b, 0, none⟩) 0 cap) [(b, bx (List.replicate cap zs).flatten T)] [] :=
  .inr ⟨b, 0, cap, _, rfl, rfl, by simp [hz], Nat.zero_le _, by simp, by simp⟩
theorem prod_bd (a b : Nat) (A B : Nat) (ha : a ≤ A) (hb : b ≤ B) : 0 ≤ (a : Int) * b ∧ (a : Int) * b ≤ A * B := by
  constructor
  · exact Int.mul_nonneg (by omega) (by omega)
  · exact_mod_cast Nat.mul_le_mul ha hb
theorem prod_bdI (a : Int) (b : Nat) (A B : Nat) (h0 : 0 ≤ a) (ha : a ≤ A) (hb : b ≤ B) : 0 ≤ a * (b : Int) ∧ a * (b : Int) ≤ A * B := by
  obtain ⟨n, rfl⟩ := Int.eq_ofNat_of_zero_le h0
  exact prod_bd n b A B (by omega) hb
def eqRay (x r : Int × Int) : Bool := x.1 == r.1 && x.2 == r.2
theorem eqRay_iff {x r : Int × Int} : eqRay x r = true ↔ x = r := by
  obtain ⟨a, b⟩ := x; obtain ⟨c, d⟩ := r
  simp [eqRay]
def lastAt (r : Int × Int) : List (Int × Int) → Nat → Int → Int
  | [], _, cur => cur
  | x :: xs, k, cur => lastAt r xs (k + 1) (if eqRay x r then k else cur)
theorem lastAt_snoc (r x : Int × Int) : ∀ (l : List (Int × Int)) (k : Nat) (cur : Int), lastAt r (l ++ [x]) k cur = if eqRay x r then ((k + l.length : Nat) : Int) else lastAt r l k cur
  | [], k, cur => by simp [lastAt]
  | y :: l, k, cur => by
    simp only [List.cons_append, lastAt, lastAt_snoc r x l, List.length_cons]
    split
    · omega
    · rfl
theorem lastAt_app (r : Int × Int) (l : List (Int × Int)) (f : Nat → Int × Int) (i : Nat) : lastAt r (l ++ (List.range (i + 1)).map f) 0 (-1) = if eqRay (f i) r then ((l.length + i : Nat) : Int) else lastAt r (l ++ (List.range i).map f) 0 (-1) := by
  rw [map_range_succ, ← List.append_assoc, lastAt_snoc]
  simp
theorem lastAt_none' {r : Int × Int} : ∀ {l : List (Int × Int)} {k : Nat} {cur : Int}, (∀ x ∈ l, x ≠ r) → lastAt r l k cur = cur
  | [], k, cur, _ => rfl
  | x :: l, k, cur, h => by
    have hx : eqRay x r = false := by
      cases he : eqRay x r with
      | false => rfl
      | true => exact absurd (eqRay_iff.1 he) (h x (by simp))
    simp only [lastAt, hx, Bool.false_eq_true, if_false]
    exact lastAt_none' fun y hy => h y (by simp [hy])
theorem lastAt_none {r : Int × Int} {l : List (Int × Int)} (h : ∀ x ∈ l, x ≠ r) : lastAt r l 0 (-1) = -1 := lastAt_none' h
theorem lastAt_uniq' {r : Int × Int} : ∀ {l : List (Int × Int)} {i k : Nat} {cur : Int}, l.Nodup → l[i]? = some r → lastAt r l k cur = ((k + i : Nat) : Int)
  | [], i, k, cur, _, h => by simp at h
  | x :: l, 0, k, cur, hn, h => by
    simp at h; subst h
    have hx : eqRay x x = true := eqRay_iff.2 rfl
    simp only [lastAt, hx, if_true]
    have hno : ∀ y ∈ l, y ≠ x := fun y hy e => (List.nodup_cons.1 hn).1 (by rw [← e]; exact hy)
    rw [lastAt_none' hno]
    simp
  | x :: l, i + 1, k, cur, hn, h => by
    simp only [List.getElem?_cons_succ] at h
    simp only [lastAt]
    rw [lastAt_uniq' (List.nodup_cons.1 hn).2 h]
    omega
theorem lastAt_uniq {r : Int × Int} {l : List (Int × Int)} {i : Nat} (hn : l.Nodup) (h : l[i]? = some r) : lastAt r l 0 (-1) = i := by
  rw [lastAt_uniq' hn h]; omega
theorem rays_nodup {W H : Nat} (h1 : 1 ≤ W) (hW : W ≤ 5) (hH : H ≤ 5) : (rays W H).Nodup := by
  have : ∀ W, W ≤ 5 → 1 ≤ W → ∀ H, H ≤ 5 → (rays W H).Nodup := by decide +kernel
  exact this W hW h1 H hH
def boolV (r x : Int × Int) : List Value := [.bool (eqRay x r)]
theorem boolV_len (r : Int × Int) (l : List (Int × Int)) : (l.flatMap (boolV r)).length = l.length := by
  rw [flat_len (sz := 1) (fun x => rfl), Nat.mul_one]
theorem rays_len (W H : Nat) : (rays W H).length = 2 * (W + H) := by simp [rays]; omega
theorem rays_get {W H k : Nat} (hk : k < 2 * (W + H)) :
    (k < W ∧ (rays W H)[k]? = some (r1 k)) ∨ (∃ j, j < H ∧ k = W + j ∧ (rays W H)[k]? = some (r2 W j)) ∨ (∃ j, j < W ∧ k = W + H + j ∧ (rays W H)[k]? = some (r3 W H j)) ∨ (∃ j, j < H ∧ k = W + H + W + j ∧ (rays W H)[k]? = some (r4 W H j)) := by
  have hl : ∀ {n i : Nat} (f : Nat → Int × Int), i < n → ((List.range n).map f)[i]? = some (f i) := fun f hi => by simp [hi]
  unfold rays
  by_cases h1 : k < W
  · left
    refine ⟨h1, ?_⟩
    rw [List.getElem?_append_left (by simp; omega), List.getElem?_append_left (by simp; omega), List.getElem?_append_left (by simpa using h1), hl _ h1]
  · right
    by_cases h2 : k < W + H
    · left
      refine ⟨k - W, by omega, by omega, ?_⟩
      rw [List.getElem?_append_left (by simp; omega), List.getElem?_append_left (by simp; omega), List.getElem?_append_right (by simp; omega)]
      simp only [List.length_map, List.length_range]
      rw [hl _ (by omega)]
    · right
      by_cases h3 : k < W + H + W
      · left
        refine ⟨k - (W + H), by omega, by omega, ?_⟩
        rw [List.getElem?_append_left (by simp; omega), List.getElem?_append_right (by simp; omega)]
        simp only [List.length_map, List.length_range, List.length_append]
        rw [hl _ (by omega)]
      · right
        refine ⟨k - (W + H + W), by omega, by omega, ?_⟩
        rw [List.getElem?_append_right (by simp; omega)]
        simp only [List.length_map, List.length_range, List.length_append]
        rw [hl _ (by omega)]
def sightRay (g : Grd) (k : Int) : Option (Int × Int) := if 0 ≤ k ∧ k < gMany g then (rays (gW g) (gH g))[k.toNat]? else none
def rayTup (r : Option (Int × Int)) : Value := .tuple [.agg (rayV (r.getD (0, 0))).toArray, .bool r.isSome].toArray
/-! ### steps, spreads, beams -/
def stepUp (w a : Int) : Int × Bool := (a - w, decide (w ≤ a))
def stepRight (w a : Int) : Int × Bool := (a + 1, decide (a % w ≠ w - 1))
def stepDown (w len a : Int) : Int × Bool := (a + w, decide (a + w < len))
def stepLeft (w a : Int) : Int × Bool := (a - 1, decide (a % w ≠ 0))
def stepRaw (w len a d : Int) : Int × Bool := if d = 0 then stepUp w a else if d = 1 then stepRight w a else if d = 2 then stepDown w len a else stepLeft w a
def stepG (g : Grd) (a d : Int) : Option Int := if (stepRaw g.wide g.cells.length a d).2 then some (stepRaw g.wide g.cells.length a d).1 else none
def stepV (o : Option Int) (d : Int) : Value := match o with
  | some n => .tuple [.agg [.int .i64 n, .int .i64 d].toArray, .bool true].toArray
  | none => .tuple [.agg [.int .i64 0, .int .i64 0].toArray, .bool false].toArray
structure Spr where
  pass : Int
  turn : Int
  lost : Int
  stop : Int
def spread (k w : Int) : Spr :=
  if k = 0 then ⟨w, 0, 0, 0⟩ else if k = 1 ∨ k = 7 then ⟨0, 0, 0, w⟩ else if k = 2 ∨ k = 3 then ⟨0, w, 0, 0⟩
  else if k = 4 ∨ k = 5 then ⟨w / 2, w / 2, w - w / 2 - w / 2, 0⟩ else ⟨w / 2, 0, w - w / 2, 0⟩
def sprV (s : Spr) : List Value := [.int .i64 s.pass, .int .i64 s.turn, .int .i64 s.lost, .int .i64 s.stop]
structure Bm where
  at_ : Int
  dir : Int
  weight : Int
  out : Int
def bmV (b : Bm) : List Value := [.int .i64 b.at_, .int .i64 b.dir, .int .i64 b.weight, .int .i64 b.out]
def sightAt (g : Grd) (a d : Int) : Int := lastAt (a, (d + 2) % 4) (rays (gW g) (gH g)) 0 (-1)
def beam (g : Grd) (a d w : Int) : Bm := match stepG g a d with
  | some n => ⟨n, d, w, -1⟩
  | none => ⟨0, 0, w, sightAt g a d⟩
end Go.Lu
