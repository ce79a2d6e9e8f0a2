/-
  The mathematics of trails: what light does that enters a cell; that it ends.
-/
import Derived.Test.YtmjmhaoikilagaaGreatDoorM
set_option linter.unusedVariables false
set_option linter.unusedSimpArgs false
namespace Go.Lu
structure Vi where
  at_ : Int
  dir : Int
  weight : Int
structure En where
  kind : Int
  where_ : Int
  weight : Int
def enIf (k a w : Int) : List En := if 0 < w then [⟨k, a, w⟩] else []
inductive Tr (g : Grd) : Bm → Nat → List Vi → List En → Prop
  | zero {b : Bm} (h : b.weight = 0) : Tr g b 1 [] []
  | out {b : Bm} (h : 0 < b.weight) (h64 : b.weight ≤ 64) (ho : 0 ≤ b.out) : Tr g b 1 [] (enIf 0 b.out b.weight)
  | cell {b : Bm} {c : Cel} {n1 n2 : Nat} {v1 v2 : List Vi} {e1 e2 : List En} (h : 0 < b.weight) (h64 : b.weight ≤ 64) (ho : b.out < 0) (a0 : 0 ≤ b.at_) (hc : g.cells[b.at_.toNat]? = some c) (d0 : 0 ≤ b.dir) (d3 : b.dir ≤ 3)
      (h1 : Tr g (beam g b.at_ b.dir (spread c.kind b.weight).pass) n1 v1 e1) (h2 : Tr g (beam g b.at_ (dTurn c.kind b.dir) (spread c.kind b.weight).turn) n2 v2 e2) :
      Tr g b (n1 + n2 + 1) (⟨b.at_, b.dir, b.weight⟩ :: (v1 ++ v2)) (enIf (if c.kind = 7 then 2 else 1) b.at_ (spread c.kind b.weight).stop ++ enIf 3 b.at_ (spread c.kind b.weight).lost ++ (e1 ++ e2))

def viV (x : Vi) : List Value := [.int .i64 x.at_, .int .i64 x.dir, .int .i64 x.weight]
def enV (x : En) : List Value := [.int .i64 x.kind, .int .i64 x.where_, .int .i64 x.weight]
theorem Tr.inv {g : Grd} {b : Bm} {n : Nat} {v : List Vi} {e : List En} (t : Tr g b n v e) : (b.weight = 0 ∧ n = 1 ∧ v = [] ∧ e = []) ∨ (0 < b.weight ∧ b.weight ≤ 64 ∧ 0 ≤ b.out ∧ n = 1 ∧ v = [] ∧ e = enIf 0 b.out b.weight) ∨
    (0 < b.weight ∧ b.weight ≤ 64 ∧ b.out < 0 ∧ 0 ≤ b.at_ ∧ 0 ≤ b.dir ∧ b.dir ≤ 3 ∧ ∃ c n1 n2 v1 v2 e1 e2, g.cells[b.at_.toNat]? = some c ∧ Tr g (beam g b.at_ b.dir (spread c.kind b.weight).pass) n1 v1 e1 ∧ Tr g (beam g b.at_ (dTurn c.kind b.dir) (spread c.kind b.weight).turn) n2 v2 e2 ∧
      n = n1 + n2 + 1 ∧ v = ⟨b.at_, b.dir, b.weight⟩ :: (v1 ++ v2) ∧ e = enIf (if c.kind = 7 then 2 else 1) b.at_ (spread c.kind b.weight).stop ++ enIf 3 b.at_ (spread c.kind b.weight).lost ++ (e1 ++ e2)) := by
  cases t with
  | zero h => exact .inl ⟨h, rfl, rfl, rfl⟩
  | out h h64 ho => exact .inr (.inl ⟨h, h64, ho, rfl, rfl, rfl⟩)
  | cell h h64 ho a0 hc d0 d3 h1 h2 => exact .inr (.inr ⟨h, h64, ho, a0, d0, d3, _, _, _, _, _, _, _, hc, h1, h2, rfl, rfl, rfl⟩)
theorem slq {p : Option Addr} {m n c : Nat} (h : m = n) : Value.slice p m c = .slice p n c := by rw [h]
theorem vi_len (l : List Vi) : (l.flatMap viV).length = l.length * 3 := flat_len (f := viV) (fun _ => rfl) l
theorem en_len (l : List En) : (l.flatMap enV).length = l.length * 3 := flat_len (f := enV) (fun _ => rfl) l
theorem bm_len (l : List Bm) : (l.flatMap bmV).length = l.length * 4 := flat_len (f := bmV) (fun _ => rfl) l
theorem beam_weight (g : Grd) (a d w : Int) : (beam g a d w).weight = w := by unfold beam; split <;> rfl
theorem spread_sum (k w : Int) : (spread k w).pass + (spread k w).turn + (spread k w).lost + (spread k w).stop = w := by
  unfold spread; (repeat' split) <;> simp only <;> omega
theorem spread_nn (k w : Int) (h : 0 ≤ w) : 0 ≤ (spread k w).pass ∧ 0 ≤ (spread k w).turn ∧ 0 ≤ (spread k w).lost ∧ 0 ≤ (spread k w).stop := by
  unfold spread; (repeat' split) <;> simp only <;> omega
def sumW : List En → Int
  | [] => 0
  | x :: l => x.weight + sumW l
theorem sumW_app (a b : List En) : sumW (a ++ b) = sumW a + sumW b := by
  induction a with
  | nil => simp [sumW]
  | cons x a ih => simp only [List.cons_append, sumW, ih]; omega
theorem sumW_enIf (k a w : Int) (h : 0 ≤ w) : sumW (enIf k a w) = w := by
  unfold enIf; split <;> simp [sumW]; omega
structure EnOk (g : Grd) (x : En) : Prop where
  pos : 0 < x.weight
  kind : 0 ≤ x.kind ∧ x.kind ≤ 3
  at_ : x.kind = 2 → 0 ≤ x.where_ ∧ x.where_ < g.cells.length
theorem enIf_ok {g : Grd} {k a w : Int} (hk : 0 ≤ k ∧ k ≤ 3) (ha : k = 2 → 0 ≤ a ∧ a < g.cells.length) : ∀ x ∈ enIf k a w, EnOk g x := by
  unfold enIf
  split
  · rename_i h; intro x hx; simp at hx; subst hx; exact ⟨h, hk, ha⟩
  · intro x hx; cases hx
theorem Tr.facts {g : Grd} {b : Bm} {n : Nat} {v : List Vi} {e : List En} (t : Tr g b n v e) (h0 : 0 ≤ b.weight) : sumW e = b.weight ∧ (∀ x ∈ e, EnOk g x) ∧ v.length ≤ n ∧ ∀ x ∈ v, 0 ≤ x.at_ ∧ x.at_ < g.cells.length := by
  induction t with
  | zero h => simp [sumW, h]
  | out h h64 ho => exact ⟨sumW_enIf _ _ _ (by omega), enIf_ok ⟨by omega, by omega⟩ (by omega), by simp, by simp⟩
  | @cell b c n1 n2 v1 v2 e1 e2 h h64 ho a0 hc d0 d3 h1 h2 ih1 ih2 =>
    have hn := spread_nn c.kind b.weight (by omega)
    have hs := spread_sum c.kind b.weight
    have ha : b.at_ < g.cells.length := by have := (List.getElem?_eq_some_iff.1 hc).1; omega
    obtain ⟨p1, p2, p3, p4⟩ := ih1 (by rw [beam_weight]; exact hn.1)
    obtain ⟨q1, q2, q3, q4⟩ := ih2 (by rw [beam_weight]; exact hn.2.1)
    rw [beam_weight] at p1 q1
    refine ⟨?_, ?_, ?_, ?_⟩
    · rw [sumW_app, sumW_app, sumW_app, sumW_enIf _ _ _ hn.2.2.2, sumW_enIf _ _ _ hn.2.2.1, p1, q1]; omega
    · intro x hx
      simp only [List.mem_append] at hx
      rcases hx with (hx | hx) | hx | hx
      · exact enIf_ok (by split <;> omega) (fun _ => ⟨a0, ha⟩) x hx
      · exact enIf_ok ⟨by omega, by omega⟩ (by omega) x hx
      · exact p2 x hx
      · exact q2 x hx
    · simp; omega
    · intro x hx
      simp only [List.mem_cons, List.mem_append] at hx
      rcases hx with rfl | hx | hx
      · exact ⟨a0, ha⟩
      · exact p4 x hx
      · exact q4 x hx
theorem len_le_sumW {g : Grd} : ∀ {e : List En}, (∀ x ∈ e, EnOk g x) → (e.length : Int) ≤ sumW e
  | [], _ => by simp [sumW]
  | x :: e, h => by
    have := len_le_sumW (e := e) fun y hy => h y (by simp [hy])
    have := (h x (by simp)).pos
    simp only [List.length_cons, sumW]; omega

/-! ### that it ends -/
def plain (k : Int) : Bool := decide (k = 0 ∨ k = 2 ∨ k = 3)
def plainNext (g : Grd) (s : Int × Int) : Option (Int × Int) :=
  match g.cells[s.1.toNat]? with
  | some c => if plain c.kind then (stepG g s.1 (dTurn c.kind s.2)).map (·, dTurn c.kind s.2) else none
  | none => none
structure InG (g : Grd) (s : Int × Int) : Prop where
  a0 : 0 ≤ s.1
  a1 : s.1 < g.cells.length
  d0 : 0 ≤ s.2
  d3 : s.2 ≤ 3
theorem dTurn_bd (k d : Int) (h0 : 0 ≤ d) (h3 : d ≤ 3) : 0 ≤ dTurn k d ∧ dTurn k d ≤ 3 := by
  unfold dTurn; (repeat' split) <;> omega
theorem dTurn_inj (k d e : Int) (h0 : 0 ≤ d) (h3 : d ≤ 3) (g0 : 0 ≤ e) (g3 : e ≤ 3) (h : dTurn k d = dTurn k e) : d = e := by
  unfold dTurn at h; (repeat' split at h) <;> omega
theorem stepG_cases {g : Grd} {a d n : Int} (h : stepG g a d = some n) : (d = 0 ∧ n = a - g.wide ∧ g.wide ≤ a) ∨ (d = 1 ∧ n = a + 1 ∧ a % g.wide ≠ g.wide - 1) ∨ (d = 2 ∧ n = a + g.wide ∧ a + g.wide < g.cells.length) ∨ (d ≠ 0 ∧ d ≠ 1 ∧ d ≠ 2 ∧ n = a - 1 ∧ a % g.wide ≠ 0) := by
  unfold stepG stepRaw at h
  by_cases h0 : d = 0
  · simp [h0, stepUp] at h; omega
  · by_cases h1 : d = 1
    · simp [h1, stepRight] at h; omega
    · by_cases h2 : d = 2
      · simp [h2, stepDown] at h; omega
      · simp [h0, h1, h2, stepLeft] at h; omega
theorem stepG_none {g : Grd} {a d : Int} (h : stepG g a d = none) : (d = 0 ∧ a < g.wide) ∨ (d = 1 ∧ a % g.wide = g.wide - 1) ∨ (d = 2 ∧ g.cells.length ≤ a + g.wide) ∨ (d ≠ 0 ∧ d ≠ 1 ∧ d ≠ 2 ∧ a % g.wide = 0) := by
  unfold stepG stepRaw at h
  by_cases h0 : d = 0
  · simp [h0, stepUp] at h; omega
  · by_cases h1 : d = 1
    · simp [h1, stepRight] at h; omega
    · by_cases h2 : d = 2
      · simp [h2, stepDown] at h; omega
      · simp [h0, h1, h2, stepLeft] at h; omega
theorem GOk.wcases {g : Grd} (h : GOk g) : g.wide = 1 ∨ g.wide = 2 ∨ g.wide = 3 ∨ g.wide = 4 ∨ g.wide = 5 := by
  have := h.wide; have := h.w1; have := h.w5; omega
theorem GOk.lenW {g : Grd} (h : GOk g) : (g.cells.length : Int) = gH g * g.wide := by
  rw [h.wide, h.len]; simp
theorem stepG_in {g : Grd} (hk : GOk g) {a d n : Int} (hi : InG g (a, d)) (h : stepG g a d = some n) : InG g (n, d) := by
  have hl := hk.lenW
  have h1 := hk.h1
  obtain ⟨a0, a1, d0, d3⟩ := hi
  simp only at a0 a1 d0 d3
  rcases hk.wcases with hw | hw | hw | hw | hw <;> rw [hw] at hl <;> rcases stepG_cases h with hh | hh | hh | hh <;> rw [hw] at hh <;> exact ⟨by simp only; omega, by simp only; omega, d0, d3⟩
theorem stepG_inj {g : Grd} {a a' d n : Int} (h : stepG g a d = some n) (h' : stepG g a' d = some n) : a = a' := by
  rcases stepG_cases h with hh | hh | hh | hh <;> rcases stepG_cases h' with hh' | hh' | hh' | hh' <;> omega
theorem lastAt_ge' (r : Int × Int) : ∀ (l : List (Int × Int)) (k : Nat) (cur : Int), (r ∈ l ∨ 0 ≤ cur) → 0 ≤ lastAt r l k cur
  | [], k, cur, h => by simpa [lastAt] using h
  | x :: l, k, cur, h => by
    simp only [lastAt]
    refine lastAt_ge' r l _ _ ?_
    by_cases hx : x = r
    · right; rw [if_pos (eqRay_iff.2 hx)]; omega
    · rcases h with h | h
      · simp only [List.mem_cons] at h
        rcases h with h | h
        · exact absurd h.symm hx
        · exact .inl h
      · right; split <;> omega
theorem mem_rays {W H : Nat} {r : Int × Int} : r ∈ rays W H ↔ (∃ c, c < W ∧ r1 c = r) ∨ (∃ c, c < H ∧ r2 W c = r) ∨ (∃ c, c < W ∧ r3 W H c = r) ∨ (∃ c, c < H ∧ r4 W H c = r) := by
  simp [rays, or_assoc]
theorem sightAt_ge {g : Grd} (hk : GOk g) {a d : Int} (hi : InG g (a, d)) (h : stepG g a d = none) : 0 ≤ sightAt g a d := by
  have hl := hk.lenW
  have h1 := hk.h1
  have e := hk.wide
  obtain ⟨a0, a1, d0, d3⟩ := hi
  simp only at a0 a1 d0 d3
  unfold sightAt
  refine lastAt_ge' _ _ _ _ (.inl (mem_rays.2 ?_))
  generalize hW : gW g = W at *
  generalize hH : gH g = H at *
  rcases stepG_none h with hh | hh | hh | hh
  · left; refine ⟨a.toNat, by omega, ?_⟩
    unfold r1; ext <;> simp only <;> omega
  · right; left; refine ⟨(a / W).toNat, ?_, ?_⟩
    · rcases hk.wcases with hw | hw | hw | hw | hw <;> rw [hw] at hl <;> obtain rfl : W = _ := Int.ofNat.inj (e.symm.trans hw) <;> simp only [Int.ofNat_eq_natCast] <;> omega
    · unfold r2
      rcases hk.wcases with hw | hw | hw | hw | hw <;> rw [hw] at hl hh <;> obtain rfl : W = _ := Int.ofNat.inj (e.symm.trans hw) <;> ext <;> simp only [Int.ofNat_eq_natCast] <;> omega
  · right; right; left; refine ⟨(g.cells.length - 1 - a).toNat, by omega, ?_⟩
    unfold r3
    rw [← e, ← hl]
    ext <;> simp only <;> omega
  · right; right; right; refine ⟨H - 1 - (a / W).toNat, by omega, ?_⟩
    unfold r4
    rcases hk.wcases with hw | hw | hw | hw | hw <;> rw [hw] at hl hh <;> obtain rfl : W = _ := Int.ofNat.inj (e.symm.trans hw) <;> ext <;> simp only [Int.ofNat_eq_natCast] <;> omega
def NoPred (g : Grd) (s0 : Int × Int) : Prop := ∀ s, InG g s → plainNext g s ≠ some s0
theorem plainNext_some {g : Grd} {s s' : Int × Int} (h : plainNext g s = some s') : ∃ c, g.cells[s.1.toNat]? = some c ∧ plain c.kind = true ∧ s'.2 = dTurn c.kind s.2 ∧ stepG g s.1 s'.2 = some s'.1 := by
  unfold plainNext at h
  split at h
  · rename_i c hc
    split at h
    · rename_i hp
      cases hs : stepG g s.1 (dTurn c.kind s.2) with
      | none => rw [hs] at h; cases h
      | some n =>
        rw [hs] at h
        simp only [Option.map_some, Option.some.injEq] at h
        subst h
        exact ⟨c, hc, hp, rfl, hs⟩
    · cases h
  · cases h
theorem plainNext_inj {g : Grd} {s t s' : Int × Int} (hs : InG g s) (ht : InG g t) (h : plainNext g s = some s') (h' : plainNext g t = some s') : s = t := by
  obtain ⟨c, c1, c2, c3, c4⟩ := plainNext_some h
  obtain ⟨c', d1, d2, d3, d4⟩ := plainNext_some h'
  have e1 := stepG_inj c4 d4
  rw [e1, d1] at c1
  injection c1 with c1; subst c1
  have e2 := dTurn_inj _ _ _ hs.d0 hs.d3 ht.d0 ht.d3 (c3.symm.trans d3)
  exact Prod.ext e1 e2
theorem plainNext_in {g : Grd} (hk : GOk g) {s s' : Int × Int} (hs : InG g s) (h : plainNext g s = some s') : InG g s' := by
  obtain ⟨c, c1, c2, c3, c4⟩ := plainNext_some h
  have hb := dTurn_bd c.kind s.2 hs.d0 hs.d3
  have := stepG_in hk (a := s.1) (d := s'.2) ⟨hs.a0, hs.a1, by simp only; omega, by simp only; omega⟩ c4
  exact this
inductive Ch (g : Grd) (s0 : Int × Int) : List (Int × Int) → Prop
  | one (h : InG g s0) : Ch g s0 [s0]
  | cons {s s' : Int × Int} {l : List (Int × Int)} (h : Ch g s0 (s :: l)) (hn : plainNext g s = some s') : Ch g s0 (s' :: s :: l)
theorem Ch.inG {g : Grd} (hk : GOk g) {s0 : Int × Int} {l : List (Int × Int)} (h : Ch g s0 l) : ∀ s ∈ l, InG g s := by
  induction h with
  | one h => intro s hs; simp at hs; subst hs; exact h
  | @cons s s' l h hn ih =>
    intro t ht
    simp only [List.mem_cons] at ht
    rcases ht with rfl | ht
    · exact plainNext_in hk (ih s (by simp)) hn
    · exact ih t (by simpa using ht)
theorem Ch.pred {g : Grd} {s0 : Int × Int} {l : List (Int × Int)} (h : Ch g s0 l) : ∀ s ∈ l, s = s0 ∨ ∃ t ∈ l.tail, plainNext g t = some s := by
  induction h with
  | one h => intro s hs; simp at hs; exact .inl hs
  | @cons s s' l h hn ih =>
    intro t ht
    simp only [List.mem_cons] at ht
    rcases ht with rfl | ht
    · exact .inr ⟨s, by simp, hn⟩
    · rcases ih t (by simpa using ht) with e | ⟨u, hu, hu'⟩
      · exact .inl e
      · exact .inr ⟨u, by simp only [List.tail_cons, List.mem_cons]; right; simpa using hu, hu'⟩
theorem Ch.nodup {g : Grd} (hk : GOk g) {s0 : Int × Int} (hn : NoPred g s0) {l : List (Int × Int)} (h : Ch g s0 l) : l.Nodup := by
  induction h with
  | one h => simp
  | @cons s s' l h hnx ih =>
    refine List.nodup_cons.2 ⟨fun hm => ?_, ih⟩
    have hin := h.inG hk
    rcases h.pred s' hm with e | ⟨t, ht, ht'⟩
    · subst e; exact hn s (hin s (by simp)) hnx
    · have ht2 : t ∈ l := by simpa using ht
      have := plainNext_inj (hin s (by simp)) (hin t (by simp [ht2])) hnx ht'
      subst this
      exact (List.nodup_cons.1 ih).1 ht2
theorem nodup_bd : ∀ (n : Nat) (l : List Nat), l.Nodup → (∀ x ∈ l, x < n) → l.length ≤ n
  | 0, l, _, h => by
    cases l with
    | nil => simp
    | cons a l => exact absurd (h a (by simp)) (by omega)
  | n + 1, l, hn, h => by
    have := nodup_bd n (l.erase n) (hn.erase n) fun x hx => by
      have h1 := (List.Nodup.mem_erase_iff hn).1 hx
      have := h x h1.2
      have := h1.1
      omega
    have := List.length_erase (a := n) (l := l)
    split at this <;> omega
theorem Ch.len {g : Grd} (hk : GOk g) {s0 : Int × Int} (hn : NoPred g s0) {l : List (Int × Int)} (h : Ch g s0 l) : l.length ≤ 100 := by
  have h25 := hk.len25
  have hin := h.inG hk
  have := nodup_bd 100 (l.map fun s => s.1.toNat * 4 + s.2.toNat) ?_ ?_
  · simpa using this
  · have hnd := h.nodup hk hn
    clear h
    induction l with
    | nil => simp
    | cons a l ih =>
      obtain ⟨h1, h2⟩ := List.nodup_cons.1 hnd
      rw [List.map_cons, List.nodup_cons]
      refine ⟨fun hm => ?_, ih (fun s hs => hin s (by simp [hs])) h2⟩
      obtain ⟨b, hb, he⟩ := List.mem_map.1 hm
      have ha' := hin a (by simp)
      have hb' := hin b (by simp [hb])
      obtain ⟨x1, x2, x3, x4⟩ := ha'
      obtain ⟨y1, y2, y3, y4⟩ := hb'
      have : b = a := Prod.ext (by omega) (by omega)
      subst this
      exact h1 hb
  · intro x hx
    obtain ⟨s, hs, rfl⟩ := List.mem_map.1 hx
    obtain ⟨x1, x2, x3, x4⟩ := hin s hs
    omega
def Bd (w : Nat) : Nat := if w = 0 then 1 else 500 * w - 250
theorem Bd_pos (w : Nat) : 1 ≤ Bd w := by unfold Bd; split <;> omega
/-- a beam that leaves a cell that is not plain -/
theorem tr_leave {g : Grd} (hk : GOk g) {a d : Int} {c : Cel} {w : Nat} (hw : w ≤ 64) (hi : InG g (a, d)) (hc : g.cells[a.toNat]? = some c) (hp : plain c.kind = false)
    (ih : ∀ s0, InG g s0 → NoPred g s0 → ∃ n v e, Tr g ⟨s0.1, s0.2, w, -1⟩ n v e ∧ n ≤ Bd w) : ∃ n v e, Tr g (beam g a d w) n v e ∧ n ≤ Bd w := by
  by_cases h0 : w = 0
  · subst h0; exact ⟨1, [], [], .zero (by rw [beam_weight]; rfl), Bd_pos _⟩
  · cases hs : stepG g a d with
    | none =>
      refine ⟨1, [], _, .out (by rw [beam_weight]; omega) (by rw [beam_weight]; omega) ?_, Bd_pos _⟩
      unfold beam; rw [hs]; exact sightAt_ge hk hi hs
    | some n =>
      have : beam g a d w = ⟨n, d, w, -1⟩ := by unfold beam; rw [hs]
      rw [this]
      refine ih (n, d) (stepG_in hk hi hs) fun s hs' hpn => ?_
      obtain ⟨c', c1, c2, c3, c4⟩ := plainNext_some hpn
      have := stepG_inj c4 hs
      rw [this, hc] at c1
      injection c1 with c1; subst c1
      rw [hp] at c2; cases c2
theorem tr_ex {g : Grd} (hk : GOk g) : ∀ (w : Nat), w ≤ 64 → ∀ s0, InG g s0 → NoPred g s0 → ∃ n v e, Tr g ⟨s0.1, s0.2, w, -1⟩ n v e ∧ n ≤ Bd w := by
  intro w
  induction w using Nat.strongRecOn with
  | _ w ih =>
    intro hw s0 hi hn
    by_cases h0 : w = 0
    · subst h0; exact ⟨1, [], [], .zero rfl, Bd_pos _⟩
    have hhalf : ∀ s0, InG g s0 → NoPred g s0 → ∃ n v e, Tr g ⟨s0.1, s0.2, (w / 2 : Nat), -1⟩ n v e ∧ n ≤ Bd (w / 2) := ih (w / 2) (by omega) (by omega)
    have key : ∀ (k : Nat) (s : Int × Int) (l : List (Int × Int)), Ch g s0 (s :: l) → 100 - l.length = k → ∃ n v e, Tr g ⟨s.1, s.2, w, -1⟩ n v e ∧ n ≤ 2 * k + 1 + 2 * Bd (w / 2) := by
      intro k
      induction k using Nat.strongRecOn with
      | _ k ihk =>
        intro s l hch hkl
        have hlen := hch.len hk hn
        simp only [List.length_cons] at hlen
        obtain ⟨a0, a1, d0, d3⟩ := hch.inG hk s (by simp)
        have hx : s.1.toNat < g.cells.length := by omega
        have hc := List.getElem?_eq_getElem hx
        generalize g.cells[s.1.toNat] = c at hc
        have hck := hk.cells _ _ hc
        have hkind : 0 ≤ c.kind ∧ c.kind ≤ 7 := by
          obtain ⟨ck, cl⟩ := c
          rw [cellOk_mk] at hck
          split at hck
          · simp only; omega
          · simp only [decide_eq_true_eq] at hck; simp only; omega
        have hb := dTurn_bd c.kind s.2 d0 d3
        have hB := Bd_pos (w / 2)
        have zero : ∀ (d : Int), Tr g (beam g s.1 d 0) 1 [] [] := fun d => .zero (by rw [beam_weight])
        have hw2 : ((w : Int) / 2) = ((w / 2 : Nat) : Int) := by omega
        have mk : ∀ {n1 n2 v1 v2 e1 e2}, Tr g (beam g s.1 s.2 (spread c.kind w).pass) n1 v1 e1 → Tr g (beam g s.1 (dTurn c.kind s.2) (spread c.kind w).turn) n2 v2 e2 → n1 + n2 + 1 ≤ 2 * k + 1 + 2 * Bd (w / 2) →
            ∃ n v e, Tr g ⟨s.1, s.2, w, -1⟩ n v e ∧ n ≤ 2 * k + 1 + 2 * Bd (w / 2) := fun h1 h2 h3 =>
          ⟨_, _, _, Tr.cell (b := ⟨s.1, s.2, w, -1⟩) (by simp only; omega) (by simp only; omega) (by simp) a0 hc d0 d3 h1 h2, h3⟩
        -- a plain cell
        have plainC : plain c.kind = true → ∃ n v e, Tr g (beam g s.1 (dTurn c.kind s.2) w) n v e ∧ n + 2 ≤ 2 * k + 1 + 2 * Bd (w / 2) := by
          intro hp
          cases hs : stepG g s.1 (dTurn c.kind s.2) with
          | none =>
            refine ⟨1, [], _, .out (by rw [beam_weight]; omega) (by rw [beam_weight]; omega) ?_, by omega⟩
            unfold beam; rw [hs]
            exact sightAt_ge hk ⟨a0, a1, hb.1, hb.2⟩ hs
          | some n =>
            have hbm : beam g s.1 (dTurn c.kind s.2) w = ⟨n, dTurn c.kind s.2, w, -1⟩ := by unfold beam; rw [hs]
            have hpn : plainNext g s = some (n, dTurn c.kind s.2) := by unfold plainNext; rw [hc]; simp [hp, hs]
            have hch' := Ch.cons hch hpn
            have hlen' := hch'.len hk hn
            simp only [List.length_cons] at hlen'
            obtain ⟨m, v, e, t, hm⟩ := ihk (k - 1) (by omega) (n, dTurn c.kind s.2) (s :: l) hch' (by simp only [List.length_cons]; omega)
            rw [hbm]
            exact ⟨m, v, e, t, by omega⟩
        have hks : c.kind = 0 ∨ (c.kind = 1 ∨ c.kind = 7) ∨ (c.kind = 2 ∨ c.kind = 3) ∨ (c.kind = 4 ∨ c.kind = 5) ∨ c.kind = 6 := by omega
        rcases hks with h | h | h | h | h
        · obtain ⟨m, v, e, t, hm⟩ := plainC (by simp [plain, h])
          have hs : spread c.kind w = ⟨w, 0, 0, 0⟩ := by simp [spread, h]
          have hd : dTurn c.kind s.2 = s.2 := by simp [dTurn, h]
          rw [hd] at t
          exact mk (by rw [hs]; exact t) (by rw [hs]; exact zero _) (by omega)
        · have hs : spread c.kind w = ⟨0, 0, 0, w⟩ := by rw [spread, if_neg (by omega), if_pos h]
          exact mk (by rw [hs]; exact zero _) (by rw [hs]; exact zero _) (by omega)
        · obtain ⟨m, v, e, t, hm⟩ := plainC (by simp [plain]; omega)
          have hs : spread c.kind w = ⟨0, w, 0, 0⟩ := by rw [spread, if_neg (by omega), if_neg (by omega), if_pos h]
          exact mk (by rw [hs]; exact zero _) (by rw [hs]; exact t) (by omega)
        · have hp : plain c.kind = false := by simp [plain]; omega
          have hs : spread c.kind w = ⟨(w / 2 : Nat), (w / 2 : Nat), w - (w / 2 : Nat) - (w / 2 : Nat), 0⟩ := by
            rw [spread, if_neg (by omega), if_neg (by omega), if_neg (by omega), if_pos h, hw2]
          obtain ⟨m, v, e, t, hm⟩ := tr_leave hk (w := w / 2) (by omega) (a := s.1) (d := s.2) ⟨a0, a1, d0, d3⟩ hc hp hhalf
          obtain ⟨m', v', e', t', hm'⟩ := tr_leave hk (w := w / 2) (by omega) (a := s.1) (d := dTurn c.kind s.2) ⟨a0, a1, hb.1, hb.2⟩ hc hp hhalf
          exact mk (by rw [hs]; exact t) (by rw [hs]; exact t') (by omega)
        · have hp : plain c.kind = false := by simp [plain]; omega
          have hs : spread c.kind w = ⟨(w / 2 : Nat), 0, w - (w / 2 : Nat), 0⟩ := by
            rw [spread, if_neg (by omega), if_neg (by omega), if_neg (by omega), if_neg (by omega), hw2]
          obtain ⟨m, v, e, t, hm⟩ := tr_leave hk (w := w / 2) (by omega) (a := s.1) (d := s.2) ⟨a0, a1, d0, d3⟩ hc hp hhalf
          exact mk (by rw [hs]; exact t) (by rw [hs]; exact zero _) (by omega)
    obtain ⟨n, v, e, t, hb⟩ := key 100 s0 [] (.one hi) (by simp)
    refine ⟨n, v, e, t, Nat.le_trans hb ?_⟩
    unfold Bd
    rw [if_neg h0]
    split <;> omega
theorem rays_in {g : Grd} (hk : GOk g) {r : Int × Int} (hr : r ∈ rays (gW g) (gH g)) : InG g r ∧ NoPred g r := by
  have hl := hk.lenW
  have h1 := hk.h1
  have e := hk.wide
  generalize hW : gW g = W at *
  generalize hH : gH g = H at *
  rcases mem_rays.1 hr with ⟨c, hc, rfl⟩ | ⟨c, hc, rfl⟩ | ⟨c, hc, rfl⟩ | ⟨c, hc, rfl⟩
  · refine ⟨?_, ?_⟩
    · rcases hk.wcases with hw | hw | hw | hw | hw <;> rw [hw] at hl <;> obtain rfl : W = _ := Int.ofNat.inj (e.symm.trans hw) <;> exact ⟨by simp [r1], by simp only [r1]; omega, by simp [r1], by simp [r1]⟩
    · intro s hs hp
      obtain ⟨c', c1, c2, c3, c4⟩ := plainNext_some hp
      obtain ⟨s0, s1, _, _⟩ := hs
      simp only [r1] at c4
      rcases stepG_cases c4 with hh | hh | hh | hh <;> omega
  · refine ⟨?_, ?_⟩
    · rcases hk.wcases with hw | hw | hw | hw | hw <;> rw [hw] at hl <;> obtain rfl : W = _ := Int.ofNat.inj (e.symm.trans hw) <;> exact ⟨by simp only [r2, Int.ofNat_eq_natCast]; omega, by simp only [r2, Int.ofNat_eq_natCast]; omega, by simp [r2], by simp [r2]⟩
    · intro s hs hp
      obtain ⟨c', c1, c2, c3, c4⟩ := plainNext_some hp
      obtain ⟨s0, s1, _, _⟩ := hs
      simp only [r2] at c4
      rcases hk.wcases with hw | hw | hw | hw | hw <;> rw [hw] at hl <;> obtain rfl : W = _ := Int.ofNat.inj (e.symm.trans hw) <;> simp only [Int.ofNat_eq_natCast] at c4 <;> rcases stepG_cases c4 with hh | hh | hh | hh <;> rw [hw] at hh <;> omega
  · refine ⟨?_, ?_⟩
    · rcases hk.wcases with hw | hw | hw | hw | hw <;> rw [hw] at hl <;> obtain rfl : W = _ := Int.ofNat.inj (e.symm.trans hw) <;> exact ⟨by simp only [r3, Int.ofNat_eq_natCast]; omega, by simp only [r3, Int.ofNat_eq_natCast]; omega, by simp [r3], by simp [r3]⟩
    · intro s hs hp
      obtain ⟨c', c1, c2, c3, c4⟩ := plainNext_some hp
      obtain ⟨s0, s1, _, _⟩ := hs
      simp only [r3] at c4
      rcases hk.wcases with hw | hw | hw | hw | hw <;> rw [hw] at hl <;> obtain rfl : W = _ := Int.ofNat.inj (e.symm.trans hw) <;> simp only [Int.ofNat_eq_natCast] at c4 <;> rcases stepG_cases c4 with hh | hh | hh | hh <;> rw [hw] at hh <;> omega
  · refine ⟨?_, ?_⟩
    · rcases hk.wcases with hw | hw | hw | hw | hw <;> rw [hw] at hl <;> obtain rfl : W = _ := Int.ofNat.inj (e.symm.trans hw) <;> exact ⟨by simp only [r4, Int.ofNat_eq_natCast]; omega, by simp only [r4, Int.ofNat_eq_natCast]; omega, by simp [r4], by simp [r4]⟩
    · intro s hs hp
      obtain ⟨c', c1, c2, c3, c4⟩ := plainNext_some hp
      obtain ⟨s0, s1, _, _⟩ := hs
      simp only [r4] at c4
      rcases hk.wcases with hw | hw | hw | hw | hw <;> rw [hw] at hl <;> obtain rfl : W = _ := Int.ofNat.inj (e.symm.trans hw) <;> simp only [Int.ofNat_eq_natCast] at c4 <;> rcases stepG_cases c4 with hh | hh | hh | hh <;> rw [hw] at hh <;> omega
/-- The light that comes in at a sight ends. -/
theorem tr_ray {g : Grd} (hk : GOk g) {r : Int × Int} (hr : r ∈ rays (gW g) (gH g)) : ∃ n v e, Tr g ⟨r.1, r.2, 64, -1⟩ n v e ∧ n ≤ 40000 := by
  obtain ⟨n, v, e, t, h⟩ := tr_ex hk 64 (by omega) r (rays_in hk hr).1 (rays_in hk hr).2
  exact ⟨n, v, e, t, Nat.le_trans h (by decide)⟩

/-! ### as functions -/
def run : Nat → Grd → Bm → List Vi × List En
  | 0, _, _ => ([], [])
  | f + 1, g, b =>
    if b.weight = 0 then ([], []) else if 0 ≤ b.out then ([], enIf 0 b.out b.weight) else
    match g.cells[b.at_.toNat]? with
    | none => ([], [])
    | some c => (⟨b.at_, b.dir, b.weight⟩ :: ((run f g (beam g b.at_ b.dir (spread c.kind b.weight).pass)).1 ++ (run f g (beam g b.at_ (dTurn c.kind b.dir) (spread c.kind b.weight).turn)).1),
        enIf (if c.kind = 7 then 2 else 1) b.at_ (spread c.kind b.weight).stop ++ enIf 3 b.at_ (spread c.kind b.weight).lost ++
          ((run f g (beam g b.at_ b.dir (spread c.kind b.weight).pass)).2 ++ (run f g (beam g b.at_ (dTurn c.kind b.dir) (spread c.kind b.weight).turn)).2))
theorem run_tr {g : Grd} {b : Bm} {n : Nat} {v : List Vi} {e : List En} (t : Tr g b n v e) : ∀ f, n ≤ f → run f g b = (v, e) := by
  induction t with
  | zero h => intro f hf; obtain ⟨f, rfl⟩ : ∃ k, f = k + 1 := ⟨f - 1, by omega⟩; simp [run, h]
  | out h h64 ho => intro f hf; obtain ⟨f, rfl⟩ : ∃ k, f = k + 1 := ⟨f - 1, by omega⟩; rw [run, if_neg (by omega), if_pos ho]
  | cell h h64 ho a0 hc d0 d3 h1 h2 ih1 ih2 =>
    intro f hf
    obtain ⟨f, rfl⟩ : ∃ k, f = k + 1 := ⟨f - 1, by omega⟩
    rw [run, if_neg (by omega), if_neg (by omega), hc]
    simp only [ih1 f (by omega), ih2 f (by omega)]
def trail (g : Grd) (r : Int × Int) : List Vi × List En := run 40000 g ⟨r.1, r.2, 64, -1⟩
theorem trail_tr {g : Grd} (hk : GOk g) {r : Int × Int} (hr : r ∈ rays (gW g) (gH g)) : ∃ n, n ≤ 40000 ∧ Tr g ⟨r.1, r.2, 64, -1⟩ n (trail g r).1 (trail g r).2 := by
  obtain ⟨n, v, e, t, hn⟩ := tr_ray hk hr
  refine ⟨n, hn, ?_⟩
  unfold trail
  rw [run_tr t 40000 hn]
  exact t
def lightAt (g : Grd) (a : Int) : Int := match g.cells[a.toNat]? with
  | some c => c.light
  | none => 0
def enLight (g : Grd) (x : En) : Int := if x.kind = 2 then x.weight * lightAt g x.where_ else 0
def lightOf (g : Grd) : List En → Int
  | [] => 0
  | x :: l => enLight g x + lightOf g l
theorem lightOf_snoc (g : Grd) (x : En) : ∀ (l : List En), lightOf g (l ++ [x]) = lightOf g l + enLight g x
  | [] => by simp [lightOf]
  | y :: l => by simp only [List.cons_append, lightOf, lightOf_snoc g x l]; omega
theorem light_bd {g : Grd} (hk : GOk g) (a : Int) : 0 ≤ lightAt g a ∧ lightAt g a ≤ 9 := by
  unfold lightAt
  split
  · rename_i c hc
    have hck := hk.cells _ _ hc
    obtain ⟨ck, cl⟩ := c
    rw [cellOk_mk] at hck
    split at hck
    · simp only [decide_eq_true_eq] at hck; simp only; omega
    · simp only [decide_eq_true_eq] at hck; simp only; omega
  · omega
theorem mul_bd {a b A B : Int} (h0 : 0 ≤ a) (h1 : a ≤ A) (h2 : 0 ≤ b) (h3 : b ≤ B) : 0 ≤ a * b ∧ a * b ≤ A * B :=
  ⟨Int.mul_nonneg h0 h2, Int.le_trans (Int.mul_le_mul_of_nonneg_left h3 h0) (Int.mul_le_mul_of_nonneg_right h1 (by omega))⟩
theorem weight_le {g : Grd} : ∀ {e : List En} {x : En}, (∀ y ∈ e, EnOk g y) → x ∈ e → x.weight ≤ sumW e
  | y :: e, x, h, hx => by
    have hn : 0 ≤ sumW e := by have := len_le_sumW (e := e) fun z hz => h z (by simp [hz]); omega
    have := (h y (by simp)).pos
    simp only [List.mem_cons] at hx
    simp only [sumW]
    rcases hx with rfl | hx
    · omega
    · have := weight_le (e := e) (fun z hz => h z (by simp [hz])) hx; omega
theorem enLight_bd {g : Grd} (hk : GOk g) {x : En} (hx : EnOk g x) (h64 : x.weight ≤ 64) : 0 ≤ enLight g x ∧ enLight g x ≤ 576 := by
  unfold enLight
  split
  · have := light_bd hk x.where_
    exact mul_bd (by have := hx.pos; omega) h64 this.1 this.2
  · omega
theorem lightOf_bd {g : Grd} (hk : GOk g) : ∀ {e : List En}, (∀ y ∈ e, EnOk g y ∧ y.weight ≤ 64) → 0 ≤ lightOf g e ∧ lightOf g e ≤ 576 * e.length
  | [], _ => by simp [lightOf]
  | y :: e, h => by
    have := lightOf_bd hk (e := e) fun z hz => h z (by simp [hz])
    have := enLight_bd hk (h y (by simp)).1 (h y (by simp)).2
    simp only [lightOf, List.length_cons]; omega
def trailLight (g : Grd) (k : Int) : Int := match sightRay g k with
  | some r => lightOf g (trail g r).2
  | none => 0
def picOf (g : Grd) : List Int := if gridOk g then (List.range (gMany g)).map fun (k : Nat) => trailLight g k else []
theorem sightRay_some {g : Grd} (hk : GOk g) {k : Int} (h0 : 0 ≤ k) (h1 : k < gMany g) : ∃ r, sightRay g k = some r ∧ r ∈ rays (gW g) (gH g) := by
  have hl := rays_len (gW g) (gH g)
  rw [gMany_ok hk.ok] at h1
  have hx : k.toNat < (rays (gW g) (gH g)).length := by omega
  refine ⟨_, ?_, List.getElem_mem hx⟩
  rw [sightRay, if_pos ⟨h0, by rw [gMany_ok hk.ok]; omega⟩]
  exact List.getElem?_eq_getElem hx

/-! ### edits -/
structure Edt where
  at_ : Int
  cell : Cel
def edV (e : Edt) : List Value := [.int .i64 e.at_, .int .i64 e.cell.kind, .int .i64 e.cell.light]
def editOk (g : Grd) (e : Edt) : Bool := cellOk e.cell && decide (0 ≤ e.at_ ∧ e.at_ < g.cells.length)
abbrev EdR (e : Edt) (vs : List Value) : Prop := vs = edV e
end Go.Lu
