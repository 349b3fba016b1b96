/- A part of the proof of a law: the symbolic executor, contracts of functions of the program, plain laws. No conditions. -/
import Derived.Test.YtjhgjniipoemgaaGreatM8
import Derived.SizedLaws
set_option linter.unusedVariables false
set_option linter.unusedSimpArgs false
set_option linter.unusedSectionVars false
section
set_option maxRecDepth 10000
set_option maxHeartbeats 1000000
namespace Go.Sx
def rowIn (H : List Rat) (flat : Bool) (r : Nat) (y : Rat) : Prop := if flat then H[r]? = some y else ∃ a b, H[r]? = some a ∧ H[r + 1]? = some b ∧ a < y ∧ y < b
theorem row_unique {H : List Rat} (h : Asc H) {f g : Bool} {r q : Nat} {y : Rat} (h1 : rowIn H f r y) (h2 : rowIn H g q y) : f = g ∧ r = q := by
 have le : ∀ {i j : Nat} {a b : Rat}, H[i]? = some a → H[j]? = some b → a < b → i < j := fun {i j a b} hi hj hab => by
   refine Nat.not_le.1 fun hji => ?_
   rcases Nat.lt_or_eq_of_le hji with hji | hji
   · have := asc_get h hj hi hji; grind
   · subst hji; rw [hi] at hj; cases hj; grind
 unfold rowIn at h1 h2
 cases f <;> cases g <;> simp only [if_true, if_false, Bool.false_eq_true] at h1 h2
 · obtain ⟨a, b, a1, b1, c1, d1⟩ := h1
   obtain ⟨a', b', a2, b2, c2, d2⟩ := h2
   have k1 := le a1 b2 (by grind)
   have k2 := le a2 b1 (by grind)
   exact ⟨rfl, by omega⟩
 · obtain ⟨a, b, a1, b1, c1, d1⟩ := h1
   have k1 := le a1 h2 c1
   have k2 := le h2 b1 d1
   omega
 · obtain ⟨a, b, a1, b1, c1, d1⟩ := h2
   have k1 := le a1 h1 c1
   have k2 := le h1 b1 d1
   omega
 · refine ⟨rfl, ?_⟩
   rcases Nat.lt_trichotomy r q with hrq | hrq | hrq
   · have := asc_get h h1 h2 hrq; grind
   · exact hrq
   · have := asc_get h h2 h1 hrq; grind
theorem row_exists {y z : Rat} : ∀ {l : List Rat} {a : Rat}, a ≤ y → (a :: l)[l.length]? = some z → y ≤ z → ∃ f r, rowIn (a :: l) f r y
 | [], a, h1, h2, h3 => by
   simp at h2
   refine ⟨true, 0, ?_⟩
   show some a = some y
   congr 1; grind
 | b :: l, a, h1, h2, h3 => by
   by_cases e : y = a
   · exact ⟨true, 0, by show some a = some y; rw [e]⟩
   by_cases e2 : y < b
   · exact ⟨false, 0, a, b, rfl, rfl, by grind, e2⟩
   · obtain ⟨f, r, h⟩ := row_exists (l := l) (a := b) (by grind) (by simpa using h2) h3
     refine ⟨f, r + 1, ?_⟩
     unfold rowIn at h ⊢
     cases f
     · obtain ⟨u, v, k1, k2, k3⟩ := h
       exact ⟨u, v, by simpa using k1, by simpa using k2, k3⟩
     · simpa using h
theorem asc_first {l : List Rat} (h : Asc l) {m : Rat} (hm : m ∈ l) (hle : ∀ z ∈ l, m ≤ z) : l[0]? = some m := by
 obtain ⟨j, hj⟩ := List.getElem?_of_mem hm
 by_cases h0 : j = 0
 · rw [h0] at hj; exact hj
 · obtain ⟨x, hx⟩ : ∃ x, l[0]? = some x := ⟨_, List.getElem?_eq_getElem (by have := (List.getElem?_eq_some_iff.1 hj).1; omega)⟩
   have := asc_get h hx hj (by omega)
   have := hle x (List.mem_of_getElem? hx)
   grind
theorem asc_last {l : List Rat} (h : Asc l) {m : Rat} (hm : m ∈ l) (hle : ∀ z ∈ l, z ≤ m) : l[l.length - 1]? = some m := by
 obtain ⟨j, hj⟩ := List.getElem?_of_mem hm
 have hl := (List.getElem?_eq_some_iff.1 hj).1
 by_cases h0 : j = l.length - 1
 · rw [h0] at hj; exact hj
 · obtain ⟨x, hx⟩ : ∃ x, l[l.length - 1]? = some x := ⟨_, List.getElem?_eq_getElem (by omega)⟩
   have := asc_get h hj hx (by omega)
   have := hle x (List.mem_of_getElem? hx)
   grind
structure Ranges (H : List Rat) (lo hi : Rat) : Prop where
 asc : Asc H
 first : H[0]? = some lo
 last : H[H.length - 1]? = some hi
theorem Ranges.ex {H : List Rat} {lo hi : Rat} (h : Ranges H lo hi) {y : Rat} (h1 : lo ≤ y) (h2 : y ≤ hi) : ∃ f r, rowIn H f r y := by
 cases H with
 | nil => have := h.first; cases this
 | cons a l =>
   have e : a = lo := Option.some.inj h.first
   exact row_exists (z := hi) (by rw [e]; exact h1) (by simpa using h.last) h2
theorem Ranges.mem {H : List Rat} {lo hi : Rat} (h : Ranges H lo hi) {i : Nat} {x : Rat} (hx : H[i]? = some x) : lo ≤ x ∧ x ≤ hi := by
 have hl := (List.getElem?_eq_some_iff.1 hx).1
 constructor
 · by_cases h0 : i = 0
   · subst h0; rw [h.first] at hx; cases hx; exact Rat.le_refl
   · exact Rat.le_of_lt (asc_get h.asc h.first hx (by omega))
 · by_cases h0 : i = H.length - 1
   · subst h0; rw [h.last] at hx; cases hx; exact Rat.le_refl
   · exact Rat.le_of_lt (asc_get h.asc hx h.last (by omega))
theorem Ranges.bd {H : List Rat} {lo hi : Rat} (h : Ranges H lo hi) {f : Bool} {r : Nat} {y : Rat} (h1 : rowIn H f r y) : lo ≤ y ∧ y ≤ hi := by
 unfold rowIn at h1
 cases f <;> simp only [if_true, if_false, Bool.false_eq_true] at h1
 · obtain ⟨a, b, a1, b1, c1, d1⟩ := h1
   have := h.mem a1
   have := h.mem b1
   exact ⟨by grind, by grind⟩
 · exact h.mem h1
theorem xs_ranges {s : Sl} (hs : s.is) (hx : s.lo.x ≤ s.hi.x) : Ranges s.X.xs s.lo.x s.hi.x := ⟨Sl.is_asc hs, Sl.is_first hs hx, Sl.is_last hs hx⟩
theorem ys_in {s : Sl} (hy : s.lo.y ≤ s.hi.y) {X : Rat} : ∀ y ∈ ysL s.lo s.hi (pcsL s.lo s.hi s.sg.xs) X, s.lo.y ≤ y ∧ y ≤ s.hi.y := fun y hm => by
 rw [ysL, ascL_mem] at hm
 rcases List.mem_cons.1 hm with rfl | hm
 · exact ⟨Rat.le_refl, hy⟩
 rcases List.mem_cons.1 hm with rfl | hm
 · exact ⟨hy, Rat.le_refl⟩
 obtain ⟨p, hp, h⟩ := List.mem_flatMap.1 hm
 obtain ⟨e, he⟩ := pcs_of hp
 rcases List.mem_append.1 h with h | h
 · split at h
   · simp only [List.mem_cons, List.not_mem_nil, or_false] at h
     rcases h with rfl | rfl
     · exact he.ia.2
     · exact he.ib.2
   · cases h
 · cases hh : hgtO p X with
   | none => rw [hh] at h; cases h
   | some z =>
     rw [hh] at h
     rw [List.mem_singleton.1 (show y ∈ [z] from h)]
     exact (inX_on he.ia he.ib (hgtO_on hh).2).2
theorem line_at {s : Sl} (hs : s.is) {c : Nat} {X : Rat} {l : Ln Rat} (hx : s.X.xs[c]? = some X) (hl : s.L.xs[c]? = some l) : l.xs = ysL s.lo s.hi (pcsL s.lo s.hi s.sg.xs) X := by
 have h := congrArg (fun z : List (List Rat) => z[c]?) hs.2.1
 simp only [List.getElem?_map, hx, hl, Option.map_some] at h
 exact Option.some.inj h
theorem ys_ranges {s : Sl} (hs : s.is) (hy : s.lo.y ≤ s.hi.y) {c : Nat} {X : Rat} {l : Ln Rat} (hx : s.X.xs[c]? = some X) (hl : s.L.xs[c]? = some l) : Ranges l.xs s.lo.y s.hi.y := by
 rw [line_at hs hx hl]
 have ha : Asc (ysL s.lo s.hi (pcsL s.lo s.hi s.sg.xs) X) := ascL_asc _
 exact ⟨ha, asc_first ha (ascL_mem.2 (List.mem_cons_self ..)) (fun z hz => (ys_in hy z hz).1), asc_last ha (ascL_mem.2 (List.mem_cons_of_mem _ (List.mem_cons_self ..))) (fun z hz => (ys_in hy z hz).2)⟩
theorem hgts_ends (s : Sl) (t : Ln Nat) (x : Rat) : (hgtsL s t x)[0]? = some s.lo.y ∧ (hgtsL s t x)[(hgtsL s t x).length - 1]? = some s.hi.y := by
 refine ⟨rfl, ?_⟩
 have : (hgtsL s t x).length - 1 = t.xs.length + 1 := by simp [hgtsL]
 rw [this, hgtsL, List.getElem?_cons_succ, List.getElem?_append_right (by simp)]; simp
def colH (s : Sl) (line : Bool) (c : Nat) (x : Rat) : Option (List Rat) := if line then (s.L.xs[c]?).map (·.xs) else (s.S.xs[c]?).map fun t => hgtsL s t x
def inC (s : Sl) (x : Cel) (p : V) : Prop := rowIn s.X.xs (decide (x.k < 2)) x.c p.x ∧ ∃ H, colH s (decide (x.k < 2)) x.c p.x = some H ∧ rowIn H (decide (x.k % 2 = 0)) x.r p.y
theorem colH_ranges {s : Sl} (hs : s.is) (hy : s.lo.y < s.hi.y) {f : Bool} {c : Nat} {x : Rat} {H : List Rat} (h1 : rowIn s.X.xs f c x) (h2 : colH s f c x = some H) : Ranges H s.lo.y s.hi.y := by
 unfold rowIn at h1
 unfold colH at h2
 cases f <;> simp only [if_true, if_false, Bool.false_eq_true] at h1 h2
 · obtain ⟨X, Y, a1, b1, c1, d1⟩ := h1
   cases ht : s.S.xs[c]? with
   | none => rw [ht] at h2; cases h2
   | some t =>
     rw [ht] at h2; cases h2
     exact ⟨hgts_asc_in hs hy ⟨a1, b1⟩ ht c1 d1, (hgts_ends s t x).1, (hgts_ends s t x).2⟩
 · cases hl : s.L.xs[c]? with
   | none => rw [hl] at h2; cases h2
   | some l => rw [hl] at h2; cases h2; exact ys_ranges hs (Rat.le_of_lt hy) h1 hl
theorem colH_some {s : Sl} (hs : s.is) {f : Bool} {c : Nat} {x : Rat} (h1 : rowIn s.X.xs f c x) : ∃ H, colH s f c x = some H := by
 obtain ⟨e1, e2, e3⟩ := Sl.is_len hs
 unfold rowIn at h1
 unfold colH
 cases f <;> simp only [if_true, if_false, Bool.false_eq_true] at h1 ⊢
 · obtain ⟨X, Y, a1, b1, _⟩ := h1
   have := (List.getElem?_eq_some_iff.1 b1).1
   rw [List.getElem?_eq_getElem (show c < s.S.xs.length by omega)]; exact ⟨_, rfl⟩
 · have := (List.getElem?_eq_some_iff.1 h1).1
   rw [List.getElem?_eq_getElem (show c < s.L.xs.length by omega)]; exact ⟨_, rfl⟩
theorem inC_unique {s : Sl} (hs : s.is) (hy : s.lo.y < s.hi.y) {x y : Cel} (hx4 : x.k < 4) (hy4 : y.k < 4) {p : V} (h1 : inC s x p) (h2 : inC s y p) : x = y := by
 obtain ⟨a1, H, a2, a3⟩ := h1
 obtain ⟨b1, G, b2, b3⟩ := h2
 obtain ⟨e1, e2⟩ := row_unique (Sl.is_asc hs) a1 b1
 rw [← e1, ← e2] at b2
 rw [a2] at b2; cases b2
 obtain ⟨e3, e4⟩ := row_unique (colH_ranges hs hy a1 a2).asc a3 b3
 obtain ⟨k, c, r⟩ := x
 obtain ⟨k', c', r'⟩ := y
 simp only at e1 e2 e3 e4 hx4 hy4
 have : k = k' := by
   have h1 : k < 2 ↔ k' < 2 := decide_eq_decide.1 e1
   have h2 : k % 2 = 0 ↔ k' % 2 = 0 := decide_eq_decide.1 e3
   omega
 rw [this, e2, e4]
theorem colF_mem' {s : Sl} {x : Cel} : ∀ {j : Nat}, j ≤ 4 → 4 - j ≤ x.k → x.k < 4 → (x.r : Int) < cntK s x.k x.c → x ∈ colF s x.c j
 | 0, _, h1, h2, _ => by omega
 | j + 1, hj, h1, h2, h3 => by
   rw [colF]
   by_cases h : x.k = 3 - j
   · refine List.mem_append_left _ (List.mem_map.2 ⟨x.r, List.mem_range.2 (by rw [← h]; omega), by rw [← h]⟩)
   · exact List.mem_append_right _ (colF_mem' (by omega) (by omega) h2 h3)
theorem colsL_mem' {s : Sl} {x : Cel} (h2 : x.k < 4) (h3 : (x.r : Int) < cntK s x.k x.c) : ∀ {n c : Nat}, c ≤ x.c → x.c < c + n → x ∈ colsL s c n
 | 0, c, h, h' => by omega
 | n + 1, c, h, h' => by
   rw [colsL]
   by_cases hc : x.c = c
   · rw [← hc]; exact List.mem_append_left _ (colF_mem' (Nat.le_refl 4) (by omega) h2 h3)
   · exact List.mem_append_right _ (colsL_mem' h2 h3 (by omega) (by omega))
theorem cellsL_mem' {s : Sl} {x : Cel} (h1 : x.c < s.X.xs.length) (h2 : x.k < 4) (h3 : (x.r : Int) < cntK s x.k x.c) : x ∈ cellsL s := colsL_mem' h2 h3 (Nat.zero_le _) (by omega)
theorem cnt_of {s : Sl} (hs : s.is) {x : Cel} (h4 : x.k < 4) {y : Rat} {p : Rat} (h1 : rowIn s.X.xs (decide (x.k < 2)) x.c p) {H : List Rat} (h2 : colH s (decide (x.k < 2)) x.c p = some H) (h3 : rowIn H (decide (x.k % 2 = 0)) x.r y) : (x.r : Int) < cntK s x.k x.c := by
 obtain ⟨k, c, r⟩ := x
 obtain ⟨e1, e2, e3⟩ := Sl.is_len hs
 have hk : k = 0 ∨ k = 1 ∨ k = 2 ∨ k = 3 := by have : k < 4 := h4; omega
 have hL : ∀ {d : Nat} {l : Ln Rat}, s.L.xs[c]? = some l → lineN s d c = (l.xs.length : Int) - d := fun {d l} hl => by
   have := (List.getElem?_eq_some_iff.1 hl).1
   unfold lineN
   rw [if_pos ⟨this, by omega⟩, List.getD_eq_getElem?_getD, List.getElem?_map, hl]; rfl
 have hS : ∀ {d : Nat} {t : Ln Nat}, s.S.xs[c]? = some t → stripN s d c = (t.xs.length : Int) + d := fun {d t} ht => by
   have := (List.getElem?_eq_some_iff.1 ht).1
   unfold stripN
   rw [if_pos ⟨this, by omega, by omega⟩, List.getD_eq_getElem?_getD, List.getElem?_map, ht]; rfl
 rcases hk with rfl | rfl | rfl | rfl
 · have h2 : (s.L.xs[c]?).map (·.xs) = some H := h2
   have h3 : H[r]? = some y := h3
   cases hl : s.L.xs[c]? with
   | none => rw [hl] at h2; cases h2
   | some l =>
     rw [hl] at h2; cases h2
     show (r : Int) < lineN s 0 c
     rw [hL hl]
     have := (List.getElem?_eq_some_iff.1 h3).1
     simp only at this
     omega
 · have h2 : (s.L.xs[c]?).map (·.xs) = some H := h2
   have h3 : ∃ a b, H[r]? = some a ∧ H[r + 1]? = some b ∧ a < y ∧ y < b := h3
   cases hl : s.L.xs[c]? with
   | none => rw [hl] at h2; cases h2
   | some l =>
     rw [hl] at h2; cases h2
     show (r : Int) < lineN s 1 c
     rw [hL hl]
     obtain ⟨a, b, _, h5, _⟩ := h3
     have := (List.getElem?_eq_some_iff.1 h5).1
     simp only at this
     omega
 · have h2 : (s.S.xs[c]?).map (fun t => hgtsL s t p) = some H := h2
   have h3 : rowIn H true r y := by have h : rowIn H (decide ((2 : Nat) % 2 = 0)) r y := h3; rwa [show decide ((2 : Nat) % 2 = 0) = true by decide] at h
   have h3 : H[r]? = some y := h3
   cases ht : s.S.xs[c]? with
   | none => rw [ht] at h2; cases h2
   | some t =>
     rw [ht] at h2; cases h2
     show (r : Int) < stripN s 2 c
     rw [hS ht]
     have := (List.getElem?_eq_some_iff.1 h3).1
     simp [hgtsL] at this
     omega
 · have h2 : (s.S.xs[c]?).map (fun t => hgtsL s t p) = some H := h2
   have h3 : rowIn H false r y := by have h : rowIn H (decide ((3 : Nat) % 2 = 0)) r y := h3; rwa [show decide ((3 : Nat) % 2 = 0) = false by decide] at h
   have h3 : ∃ a b, H[r]? = some a ∧ H[r + 1]? = some b ∧ a < y ∧ y < b := h3
   cases ht : s.S.xs[c]? with
   | none => rw [ht] at h2; cases h2
   | some t =>
     rw [ht] at h2; cases h2
     show (r : Int) < stripN s 1 c
     rw [hS ht]
     obtain ⟨a, b, _, h5, _⟩ := h3
     have := (List.getElem?_eq_some_iff.1 h5).1
     simp [hgtsL] at this
     omega
theorem inC_mem {s : Sl} (hs : s.is) {x : Cel} (h4 : x.k < 4) {p : V} (h : inC s x p) : x ∈ cellsL s := by
 obtain ⟨a1, H, a2, a3⟩ := h
 refine cellsL_mem' ?_ h4 (cnt_of hs h4 a1 a2 a3)
 unfold rowIn at a1
 split at a1
 · exact (List.getElem?_eq_some_iff.1 a1).1
 · obtain ⟨a, b, h1, _⟩ := a1
   exact (List.getElem?_eq_some_iff.1 h1).1
def kindOf (line flat : Bool) : Nat := if line then (if flat then 0 else 1) else (if flat then 2 else 3)
theorem inC_exists {s : Sl} (hs : s.is) (hx : s.lo.x ≤ s.hi.x) (hy : s.lo.y < s.hi.y) {p : V} (hp : inX s.lo s.hi p) : ∃ x, x.k < 4 ∧ inC s x p := by
 obtain ⟨f, c, h1⟩ := (xs_ranges hs hx).ex hp.1.1 hp.1.2
 obtain ⟨H, h2⟩ := colH_some hs h1
 obtain ⟨g, r, h3⟩ := (colH_ranges hs hy h1 h2).ex hp.2.1 hp.2.2
 refine ⟨⟨kindOf f g, c, r⟩, by show kindOf f g < 4; cases f <;> cases g <;> decide, ?_⟩
 have e1 : decide (kindOf f g < 2) = f := by cases f <;> cases g <;> rfl
 have e2 : decide (kindOf f g % 2 = 0) = g := by cases f <;> cases g <;> rfl
 show rowIn s.X.xs (decide (kindOf f g < 2)) c p.x ∧ ∃ H, colH s (decide (kindOf f g < 2)) c p.x = some H ∧ rowIn H (decide (kindOf f g % 2 = 0)) r p.y
 rw [e1, e2]
 exact ⟨h1, H, h2, h3⟩
end Go.Sx
end
section
set_option maxRecDepth 10000
set_option maxHeartbeats 1000000
namespace Go.Sx
theorem betw_iff {a b p : V} (hab : a ≠ b) : betwB a b p = true ↔ onS a b p := by
 refine ⟨betw_at hab, ?_⟩
 rintro ⟨t, ⟨t0, t1⟩, rfl⟩
 unfold betwB
 simp only [Bool.and_eq_true, decide_eq_true_eq, Bool.or_eq_true]
 refine ⟨cmpQ_eq.2 ?_, ?_, .inl (fun h => hab (cmpV_zero.1 h))⟩
 · show (b.x - a.x) * ((a.y + (b.y - a.y) * t) - a.y) - (b.y - a.y) * ((a.x + (b.x - a.x) * t) - a.x) = 0
   grind
 · by_cases h0 : t = 0
   · rw [h0, V.at_zero, cmpV_zero.2 rfl]; simp
   by_cases h1 : t = 1
   · rw [h1, V.at_one, cmpV_zero.2 (show b = b from rfl)]; simp
   rw [cmpV_step (by grind), cmpV_step' (by grind)]
   rcases cmpV_cases a b with h | h | h <;> rw [h] <;> decide
theorem onS_seg {X Y a b x h : Rat} (hXY : X < Y) : onS ⟨X, a⟩ ⟨Y, b⟩ ⟨x, h⟩ ↔ X ≤ x ∧ x ≤ Y ∧ h * (Y - X) = a * (Y - x) + b * (x - X) := by
 constructor
 · intro o
   have c := onS_col (onS_left (⟨X, a⟩ : V) ⟨Y, b⟩) (onS_right (⟨X, a⟩ : V) ⟨Y, b⟩) o
   obtain ⟨t, ⟨t0, t1⟩, e⟩ := o
   have ex : x = X + (Y - X) * t := congrArg V.x e
   have k1 := Rat.mul_nonneg (show 0 ≤ Y - X by grind) t0
   have k2 := Rat.mul_nonneg (show 0 ≤ Y - X by grind) (show 0 ≤ 1 - t by grind)
   exact ⟨by grind, by grind, by grind⟩
 · rintro ⟨h1, h2, h3⟩
   exact onS_lin (onS_left _ _) (onS_right _ _) hXY h1 h2 (by grind)
theorem onS_vert {X y y' x h : Rat} (hy : y < y') : onS ⟨X, y⟩ ⟨X, y'⟩ ⟨x, h⟩ ↔ x = X ∧ y ≤ h ∧ h ≤ y' := by
 constructor
 · rintro ⟨t, ⟨t0, t1⟩, e⟩
   have ex : x = X + (X - X) * t := congrArg V.x e
   have ey : h = y + (y' - y) * t := congrArg V.y e
   have k1 := Rat.mul_nonneg (show 0 ≤ y' - y by grind) t0
   have k2 := Rat.mul_nonneg (show 0 ≤ y' - y by grind) (show 0 ≤ 1 - t by grind)
   exact ⟨by grind, by grind, by grind⟩
 · rintro ⟨rfl, h1, h2⟩
   obtain ⟨u, hd, u0, u1, _⟩ := ratio_ex (d := h - y) (g := y' - h) (by grind) (by grind) (by grind)
   refine ⟨u, ⟨u0, u1⟩, ?_⟩
   show (⟨x, h⟩ : V) = ⟨x + (x - x) * u, y + (y' - y) * u⟩
   congr 1 <;> grind
def orR (a b p : V) : Prop := 0 < (b - a).cross (p - a)
theorem orB_iff {a b p : V} : orB a b p = false ↔ orR a b p := by
 unfold orB orR
 rw [decide_eq_false_iff_not, cmpQ_le]
 exact Rat.not_le
theorem con_ring3 (A B C p : V) : conB 3 [A, B, C] p = true ↔ orR A B p ∧ orR B C p ∧ orR C A p := by
 have e : conB 3 [A, B, C] p = (!(orB A B p || (orB B C p || (orB C A p || false))) && (true && true)) := by simp [conB, ringG, List.range_succ]
 rw [e, ← orB_iff, ← orB_iff, ← orB_iff]
 cases orB A B p <;> cases orB B C p <;> cases orB C A p <;> simp
theorem con_ring4 (A B C D p : V) : conB 3 [A, B, C, D] p = true ↔ orR A B p ∧ orR B C p ∧ orR C D p ∧ orR D A p := by
 have e : conB 3 [A, B, C, D] p = (!(orB A B p || (orB B C p || (orB C D p || (orB D A p || false)))) && (true && true)) := by simp [conB, ringG, List.range_succ]
 rw [e, ← orB_iff, ← orB_iff, ← orB_iff, ← orB_iff]
 cases orB A B p <;> cases orB B C p <;> cases orB C D p <;> cases orB D A p <;> simp
theorem orR_mk {x y u v a b : Rat} : orR ⟨x, y⟩ ⟨u, v⟩ ⟨a, b⟩ ↔ 0 < (u - x) * (b - y) - (v - y) * (a - x) := Iff.rfl
theorem pos_of_mul {a b : Rat} (h : 0 < a * b) (ha : 0 ≤ a) : 0 < b := by
 refine Rat.not_le.1 fun hb => ?_
 have := Rat.mul_nonneg ha (show 0 ≤ -b by grind)
 grind
theorem crn3_cases {X Y a b a' b' : Rat} (hXY : X < Y) (h1 : a ≤ a') (h2 : b ≤ b') (h3 : a < a' ∨ b < b') :
   (a < a' ∧ b < b' ∧ unw (ddp [⟨X, a⟩, ⟨Y, b⟩, ⟨Y, b'⟩, (⟨X, a'⟩ : V)]) = [⟨X, a⟩, ⟨Y, b⟩, ⟨Y, b'⟩, ⟨X, a'⟩]) ∨ (a < a' ∧ b = b' ∧ unw (ddp [⟨X, a⟩, ⟨Y, b⟩, ⟨Y, b'⟩, (⟨X, a'⟩ : V)]) = [⟨X, a⟩, ⟨Y, b⟩, ⟨X, a'⟩]) ∨
   (a = a' ∧ b < b' ∧ unw (ddp [⟨X, a⟩, ⟨Y, b⟩, ⟨Y, b'⟩, (⟨X, a'⟩ : V)]) = [⟨X, a⟩, ⟨Y, b⟩, ⟨Y, b'⟩]) := by
 have n1 : ¬ (⟨Y, b⟩ : V) = ⟨X, a⟩ := fun h => by have := congrArg V.x h; simp only at this; grind
 have n2 : ¬ (⟨X, a'⟩ : V) = ⟨Y, b'⟩ := fun h => by have := congrArg V.x h; simp only at this; grind
 have d1 : ∀ l, ddpG (⟨X, a⟩ : V) (⟨Y, b⟩ :: l) = ⟨Y, b⟩ :: ddpG ⟨Y, b⟩ l := fun l => by rw [ddpG, if_neg n1]
 have d3 : ddpG (⟨Y, b'⟩ : V) [⟨X, a'⟩] = [⟨X, a'⟩] := by rw [ddpG, if_neg n2]; rfl
 have e0 : ddp [⟨X, a⟩, ⟨Y, b⟩, ⟨Y, b'⟩, (⟨X, a'⟩ : V)] = ⟨X, a⟩ :: ⟨Y, b⟩ :: ddpG ⟨Y, b⟩ [⟨Y, b'⟩, ⟨X, a'⟩] := by rw [ddp, d1]
 by_cases ha : a < a'
 · have n3 : ¬ (⟨X, a⟩ : V) = ⟨X, a'⟩ := fun h => by have := congrArg V.y h; simp only at this; grind
   by_cases hb : b < b'
   · left
     refine ⟨ha, hb, ?_⟩
     have n4 : ¬ (⟨Y, b'⟩ : V) = ⟨Y, b⟩ := fun h => by have := congrArg V.y h; simp only at this; grind
     rw [e0, ddpG, if_neg n4, d3]
     unfold unw
     rw [if_neg (fun h => n3 (Option.some.inj h.2))]
   · right; left
     have e : b = b' := by grind
     subst e
     refine ⟨ha, rfl, ?_⟩
     rw [e0, ddpG, if_pos rfl, d3]
     unfold unw
     rw [if_neg (fun h => n3 (Option.some.inj h.2))]
 · right; right
   have e : a = a' := by grind
   subst e
   have hb : b < b' := by grind
   refine ⟨rfl, hb, ?_⟩
   have n4 : ¬ (⟨Y, b'⟩ : V) = ⟨Y, b⟩ := fun h => by have := congrArg V.y h; simp only at this; grind
   rw [e0, ddpG, if_neg n4, d3]
   unfold unw
   rw [if_pos ⟨by simp, rfl⟩]; rfl
theorem con3 {X Y a b a' b' : Rat} (hXY : X < Y) (h1 : a ≤ a') (h2 : b ≤ b') (h3 : a < a' ∨ b < b') {x y : Rat} : conB 3 (unw (ddp [⟨X, a⟩, ⟨Y, b⟩, ⟨Y, b'⟩, (⟨X, a'⟩ : V)])) ⟨x, y⟩ = true ↔
   X < x ∧ x < Y ∧ a * (Y - x) + b * (x - X) < y * (Y - X) ∧ y * (Y - X) < a' * (Y - x) + b' * (x - X) := by
 rcases crn3_cases hXY h1 h2 h3 with ⟨ha, hb, e⟩ | ⟨ha, hb, e⟩ | ⟨ha, hb, e⟩
 · rw [e, con_ring4, orR_mk, orR_mk, orR_mk, orR_mk]
   constructor
   · rintro ⟨k1, k2, k3, k4⟩
     have q1 := pos_of_mul (a := b' - b) (b := Y - x) (by grind) (by grind)
     have q2 := pos_of_mul (a := a' - a) (b := x - X) (by grind) (by grind)
     exact ⟨by grind, by grind, by grind, by grind⟩
   · rintro ⟨k1, k2, k3, k4⟩
     have q1 := Rat.mul_pos (show 0 < b' - b by grind) (show 0 < Y - x by grind)
     have q2 := Rat.mul_pos (show 0 < a' - a by grind) (show 0 < x - X by grind)
     exact ⟨by grind, by grind, by grind, by grind⟩
 · subst hb
   rw [e, con_ring3, orR_mk, orR_mk, orR_mk]
   constructor
   · rintro ⟨k1, k2, k3⟩
     have q1 := pos_of_mul (a := a' - a) (b := Y - x) (by grind) (by grind)
     have q2 := pos_of_mul (a := a' - a) (b := x - X) (by grind) (by grind)
     exact ⟨by grind, by grind, by grind, by grind⟩
   · rintro ⟨k1, k2, k3, k4⟩
     have q2 := Rat.mul_pos (show 0 < a' - a by grind) (show 0 < x - X by grind)
     exact ⟨by grind, by grind, by grind⟩
 · subst ha
   rw [e, con_ring3, orR_mk, orR_mk, orR_mk]
   constructor
   · rintro ⟨k1, k2, k3⟩
     have q1 := pos_of_mul (a := b' - b) (b := Y - x) (by grind) (by grind)
     have q2 := pos_of_mul (a := b' - b) (b := x - X) (by grind) (by grind)
     exact ⟨by grind, by grind, by grind, by grind⟩
   · rintro ⟨k1, k2, k3, k4⟩
     have q2 := Rat.mul_pos (show 0 < b' - b by grind) (show 0 < Y - x by grind)
     exact ⟨by grind, by grind, by grind⟩
theorem mul_cancel_lt {a b c : Rat} (hc : 0 < c) : a * c < b * c ↔ a < b := by
 constructor
 · intro h
   have := pos_of_mul (a := c) (b := b - a) (by grind) (by grind)
   grind
 · intro h
   have := Rat.mul_pos (show 0 < b - a by grind) hc
   grind
theorem mul_cancel_eq {a b c : Rat} (hc : 0 < c) (h : a * c = b * c) : a = b := by
 have h3 : (a - b) * c = 0 := by grind
 rcases Rat.mul_eq_zero.1 h3 with h4 | h4 <;> grind
theorem conB_in {s : Sl} (hs : s.is) (hy : s.lo.y < s.hi.y) {x : Cel} (hk : x.k < 4) (hx : (x.r : Int) < cntK s x.k x.c) (p : V) : conB x.k (crnL s x) p = true ↔ inC s x p := by
 obtain ⟨k, c, r⟩ := x
 obtain ⟨px, py⟩ := p
 have hk' : k = 0 ∨ k = 1 ∨ k = 2 ∨ k = 3 := by have : k < 4 := hk; omega
 rcases hk' with rfl | rfl | rfl | rfl
 · obtain ⟨l, X, h1, h2, h3⟩ := lineN_inv (show (r : Int) < lineN s 0 c from hx)
   obtain ⟨y, hy'⟩ : ∃ y, l.xs[r]? = some y := ⟨_, List.getElem?_eq_getElem (by omega)⟩
   rw [show crnL s ⟨0, c, r⟩ = [⟨X, y⟩] by simp only [crnL]; rw [getD_of' h2, getD_of' (show (s.L.xs.map (·.xs))[c]? = some l.xs by rw [List.getElem?_map, h1]; rfl), getD_of' hy']]
   have e : conB 0 [(⟨X, y⟩ : V)] ⟨px, py⟩ = (true && decide (cmpV ⟨X, y⟩ ⟨px, py⟩ = 0)) := rfl
   show conB 0 _ _ = true ↔ _
   rw [e, Bool.true_and, decide_eq_true_eq, cmpV_zero]
   constructor
   · intro h
     obtain ⟨rfl, rfl⟩ := V.mk.inj h
     exact ⟨h2, l.xs, by show (s.L.xs[c]?).map (·.xs) = _; rw [h1]; rfl, hy'⟩
   · rintro ⟨a1, H, a2, a3⟩
     have a1 : s.X.xs[c]? = some px := a1
     have a2 : (s.L.xs[c]?).map (·.xs) = some H := a2
     have a3 : H[r]? = some py := a3
     rw [h1] at a2; cases a2
     rw [h2] at a1; cases a1
     simp only at a3
     rw [hy'] at a3; cases a3
     rfl
 · obtain ⟨l, X, h1, h2, h3⟩ := lineN_inv (show (r : Int) < lineN s 1 c from hx)
   obtain ⟨y, hy'⟩ : ∃ y, l.xs[r]? = some y := ⟨_, List.getElem?_eq_getElem (by omega)⟩
   obtain ⟨y', hy''⟩ : ∃ y, l.xs[r + 1]? = some y := ⟨_, List.getElem?_eq_getElem (by omega)⟩
   have hlt : y < y' := asc_get (ys_ranges hs (Rat.le_of_lt hy) h2 h1).asc hy' hy'' (by omega)
   rw [show crnL s ⟨1, c, r⟩ = [⟨X, y⟩, ⟨X, y'⟩] by simp only [crnL]; rw [getD_of' h2, getD_of' (show (s.L.xs.map (·.xs))[c]? = some l.xs by rw [List.getElem?_map, h1]; rfl), getD_of' hy', getD_of' hy'']]
   have e : conB 1 [(⟨X, y⟩ : V), ⟨X, y'⟩] ⟨px, py⟩ = (true && (betwB ⟨X, y⟩ ⟨X, y'⟩ ⟨px, py⟩ && (decide (cmpV ⟨X, y⟩ ⟨px, py⟩ ≠ 0) && decide (cmpV ⟨X, y'⟩ ⟨px, py⟩ ≠ 0)))) := rfl
   show conB 1 _ _ = true ↔ _
   rw [e, Bool.true_and, Bool.and_eq_true, Bool.and_eq_true, decide_eq_true_eq, decide_eq_true_eq, betw_iff (fun h => by have := congrArg V.y h; simp only at this; grind), onS_vert hlt]
   constructor
   · rintro ⟨⟨rfl, b1, b2⟩, b3, b4⟩
     have c1 : y ≠ py := fun h => b3 (cmpV_zero.2 (by rw [h]))
     have c2 : y' ≠ py := fun h => b4 (cmpV_zero.2 (by rw [h]))
     exact ⟨h2, l.xs, by show (s.L.xs[c]?).map (·.xs) = _; rw [h1]; rfl, y, y', hy', hy'', by grind, by grind⟩
   · rintro ⟨a1, H, a2, a3⟩
     have a1 : s.X.xs[c]? = some px := a1
     have a2 : (s.L.xs[c]?).map (·.xs) = some H := a2
     have a3 : ∃ a b, H[r]? = some a ∧ H[r + 1]? = some b ∧ a < py ∧ py < b := a3
     rw [h1] at a2; cases a2
     rw [h2] at a1; cases a1
     obtain ⟨a, b, k1, k2, k3, k4⟩ := a3
     simp only at k1 k2
     rw [hy'] at k1; cases k1
     rw [hy''] at k2; cases k2
     refine ⟨⟨rfl, by grind, by grind⟩, fun h => ?_, fun h => ?_⟩
     · have := congrArg V.y (cmpV_zero.1 h); simp only at this; grind
     · have := congrArg V.y (cmpV_zero.1 h); simp only at this; grind
 · obtain ⟨t, X, Y, h1, h2, h3, h4, h5⟩ := stripN_inv (show (r : Int) < stripN s 2 c from hx)
   have hN : Nx s c X Y := ⟨h2, h3⟩
   have hXY := hN.lt hs
   obtain ⟨a, b, g1, g2, _, _, g5⟩ := hgts_row hs hy hN h1 (r := r) (by omega)
   rw [show crnL s ⟨2, c, r⟩ = [⟨X, a⟩, ⟨Y, b⟩] by simp only [crnL, onP]; rw [getD_of' h2, getD_of' h3, getD_of' h1, getD_of' g1, getD_of' g2]]
   have e : conB 2 [(⟨X, a⟩ : V), ⟨Y, b⟩] ⟨px, py⟩ = (true && (betwB ⟨X, a⟩ ⟨Y, b⟩ ⟨px, py⟩ && (decide (cmpV ⟨X, a⟩ ⟨px, py⟩ ≠ 0) && decide (cmpV ⟨Y, b⟩ ⟨px, py⟩ ≠ 0)))) := rfl
   show conB 2 _ _ = true ↔ _
   rw [e, Bool.true_and, Bool.and_eq_true, Bool.and_eq_true, decide_eq_true_eq, decide_eq_true_eq, betw_iff (fun h => by have := congrArg V.x h; simp only at this; grind), onS_seg hXY]
   constructor
   · rintro ⟨⟨b1, b2, b5⟩, b3, b4⟩
     have c1 : X ≠ px := fun h => b3 (cmpV_zero.2 (by
       subst h
       rw [mul_cancel_eq (show 0 < Y - X by grind) (show py * (Y - X) = a * (Y - X) by grind)]))
     have c2 : Y ≠ px := fun h => b4 (cmpV_zero.2 (by
       subst h
       rw [mul_cancel_eq (show 0 < Y - X by grind) (show py * (Y - X) = b * (Y - X) by grind)]))
     obtain ⟨h, q1, q2⟩ := g5 px b1 b2
     rw [← b5] at q2
     rw [mul_cancel_eq (by grind) q2] at q1
     exact ⟨⟨X, Y, h2, h3, by grind, by grind⟩, hgtsL s t px, by show (s.S.xs[c]?).map (fun t => hgtsL s t px) = _; rw [h1]; rfl, by
       show rowIn (hgtsL s t px) (decide ((2 : Nat) % 2 = 0)) r py
       rw [show decide ((2 : Nat) % 2 = 0) = true by decide]
       exact q1⟩
   · rintro ⟨⟨X', Y', k1, k2, k3, k4⟩, H, a2, a3⟩
     have k1 : s.X.xs[c]? = some X' := k1
     have k2 : s.X.xs[c + 1]? = some Y' := k2
     have k3 : X' < px := k3
     have k4 : px < Y' := k4
     rw [h2] at k1; cases k1
     rw [h3] at k2; cases k2
     have a2 : (s.S.xs[c]?).map (fun t => hgtsL s t px) = some H := a2
     rw [h1] at a2; cases a2
     have a3 : rowIn (hgtsL s t px) true r py := by
       have h : rowIn (hgtsL s t px) (decide ((2 : Nat) % 2 = 0)) r py := a3
       rwa [show decide ((2 : Nat) % 2 = 0) = true by decide] at h
     have a3 : (hgtsL s t px)[r]? = some py := a3
     obtain ⟨h, q1, q2⟩ := g5 px (by grind) (by grind)
     rw [a3] at q1; cases q1
     refine ⟨⟨by grind, by grind, q2⟩, fun h => ?_, fun h => ?_⟩
     · have := congrArg V.x (cmpV_zero.1 h); simp only at this; grind
     · have := congrArg V.x (cmpV_zero.1 h); simp only at this; grind
 · obtain ⟨t, X, Y, h1, h2, h3, h4, h5⟩ := stripN_inv (show (r : Int) < stripN s 1 c from hx)
   have hN : Nx s c X Y := ⟨h2, h3⟩
   have hXY := hN.lt hs
   obtain ⟨a, b, g1, g2, _, _, g5⟩ := hgts_row hs hy hN h1 (r := r) (by omega)
   obtain ⟨a', b', g1', g2', _, _, g5'⟩ := hgts_row hs hy hN h1 (r := r + 1) (by omega)
   obtain ⟨m1, m2, m3⟩ := hgts_two hs hy hN h1 (show r < r + 1 by omega) g1 g2 g1' g2'
   rw [show crnL s ⟨3, c, r⟩ = unw (ddp [⟨X, a⟩, ⟨Y, b⟩, ⟨Y, b'⟩, ⟨X, a'⟩]) by simp only [crnL, crn3, onP]; rw [getD_of' h2, getD_of' h3, getD_of' h1, getD_of' g1, getD_of' g2, getD_of' g1', getD_of' g2']]
   show conB 3 _ _ = true ↔ _
   rw [con3 hXY m1 m2 m3]
   constructor
   · rintro ⟨b1, b2, b3, b4⟩
     obtain ⟨h, q1, q2⟩ := g5 px (by grind) (by grind)
     obtain ⟨h', q1', q2'⟩ := g5' px (by grind) (by grind)
     rw [← q2, mul_cancel_lt (by grind)] at b3
     rw [← q2', mul_cancel_lt (by grind)] at b4
     refine ⟨⟨X, Y, h2, h3, b1, b2⟩, hgtsL s t px, by show (s.S.xs[c]?).map (fun t => hgtsL s t px) = _; rw [h1]; rfl, ?_⟩
     show rowIn (hgtsL s t px) (decide ((3 : Nat) % 2 = 0)) r py
     rw [show decide ((3 : Nat) % 2 = 0) = false by decide]
     exact ⟨h, h', q1, q1', b3, b4⟩
   · rintro ⟨⟨X', Y', k1, k2, k3, k4⟩, H, a2, a3⟩
     have k1 : s.X.xs[c]? = some X' := k1
     have k2 : s.X.xs[c + 1]? = some Y' := k2
     have k3 : X' < px := k3
     have k4 : px < Y' := k4
     rw [h2] at k1; cases k1
     rw [h3] at k2; cases k2
     have a2 : (s.S.xs[c]?).map (fun t => hgtsL s t px) = some H := a2
     rw [h1] at a2; cases a2
     have a3 : rowIn (hgtsL s t px) false r py := by
       have h : rowIn (hgtsL s t px) (decide ((3 : Nat) % 2 = 0)) r py := a3
       rwa [show decide ((3 : Nat) % 2 = 0) = false by decide] at h
     obtain ⟨h, h', q1, q1', b3, b4⟩ := (show ∃ a b, (hgtsL s t px)[r]? = some a ∧ (hgtsL s t px)[r + 1]? = some b ∧ a < py ∧ py < b from a3)
     obtain ⟨z, w1, w2⟩ := g5 px (by grind) (by grind)
     obtain ⟨z', w1', w2'⟩ := g5' px (by grind) (by grind)
     rw [q1] at w1; cases w1
     rw [q1'] at w1'; cases w1'
     refine ⟨k3, k4, ?_, ?_⟩
     · rw [← w2, mul_cancel_lt (by grind)]; exact b3
     · rw [← w2', mul_cancel_lt (by grind)]; exact b4
instance (lo hi p : V) : Decidable (inX lo hi p) := inferInstanceAs (Decidable (_ ∧ _))
end Go.Sx
end
section
set_option maxRecDepth 10000
set_option maxHeartbeats 1000000
namespace Go.Sx
structure Finer (s t : Sl) : Prop where
 lo : t.lo = s.lo
 hi : t.hi = s.hi
 ex : ∃ x, t.sg.xs = s.sg.xs ++ [x]
theorem Finer.pcs {s t : Sl} (h : Finer s t) {p : Pc} (hp : p ∈ pcsL s.lo s.hi s.sg.xs) : p ∈ pcsL t.lo t.hi t.sg.xs := by
 obtain ⟨x, hx⟩ := h.ex
 rw [h.lo, h.hi, hx, pcsL, pcsF_append]
 exact List.mem_append_left _ hp
theorem Finer.xs {s t : Sl} (h : Finer s t) (hs : s.is) (ht : t.is) {x : Rat} (hx : x ∈ s.X.xs) : x ∈ t.X.xs := by
 rw [hs.1, xs_mem] at hx
 rw [ht.1, xs_mem]
 rcases hx with hx | hx | ⟨p, hp, hx⟩ | ⟨p, hp, q, hq, hx⟩
 · exact .inl (by rw [h.lo]; exact hx)
 · exact .inr (.inl (by rw [h.hi]; exact hx))
 · exact .inr (.inr (.inl ⟨p, h.pcs hp, hx⟩))
 · exact .inr (.inr (.inr ⟨p, h.pcs hp, q, h.pcs hq, hx⟩))
theorem Finer.ys {s t : Sl} (h : Finer s t) {X y : Rat} (hy : y ∈ ysL s.lo s.hi (pcsL s.lo s.hi s.sg.xs) X) : y ∈ ysL t.lo t.hi (pcsL t.lo t.hi t.sg.xs) X := by
 rw [ysL, ascL_mem, List.mem_cons, List.mem_cons, List.mem_flatMap] at hy ⊢
 rcases hy with hy | hy | ⟨p, hp, hy⟩
 · exact .inl (by rw [h.lo]; exact hy)
 · exact .inr (.inl (by rw [h.hi]; exact hy))
 · exact .inr (.inr ⟨p, h.pcs hp, hy⟩)
theorem Finer.hgt {s t : Sl} (h : Finer s t) {k : Nat} (hk : k < s.sg.xs.length) (x : Rat) : hgtS t x k = hgtS s x k := by
 obtain ⟨e, he⟩ := h.ex
 unfold hgtS
 rw [he, List.getElem?_append_left hk]
theorem Ed.lt {s : Sl} {X Y : Rat} {k : Nat} {p : Pc} (h : Ed s X Y k p) : k < s.sg.xs.length := by
 obtain ⟨e, he⟩ := pcs_of h.mem
 have := (List.getElem?_eq_some_iff.1 he.at').1
 rw [h.i] at this; exact this
theorem ys_of_ed {s : Sl} {X Y x : Rat} {k : Nat} {p : Pc} (h : Ed s X Y k p) (h1 : X ≤ x) (h2 : x ≤ Y) : hgtS s x k ∈ ysL s.lo s.hi (pcsL s.lo s.hi s.sg.xs) x := by
 rw [ysL, ascL_mem, List.mem_cons, List.mem_cons, List.mem_flatMap]
 refine .inr (.inr ⟨p, h.mem, List.mem_append_right _ ?_⟩)
 unfold hgtO
 rw [hgtE_on h.nv (h.on x h1 h2)]
 exact List.mem_cons_self ..
theorem Finer.ed {s t : Sl} (h : Finer s t) (hs : s.is) (hy : s.lo.y < s.hi.y) {c : Nat} {X Y : Rat} (hN : Nx s c X Y) {l : Ln Nat} (hl : s.S.xs[c]? = some l) {X' Y' : Rat} (h1 : X ≤ X') (h2 : X' < Y') (h3 : Y' ≤ Y) {k : Nat} {p : Pc} (hk : k ∈ l.xs) (hp : Ed s X Y k p) : Ed t X' Y' k p := by
 have e : ∀ x, hgtS t x k = hgtS s x k := h.hgt hp.lt
 obtain ⟨e', he⟩ := pcs_of hp.mem
 have iA := (inX_on he.ia he.ib (hp.on X' h1 (by grind))).2
 have iB := (inX_on he.ia he.ib (hp.on Y' (by grind) h3)).2
 refine ⟨h.pcs hp.mem, hp.i, hp.nv, fun x k1 k2 => by rw [e]; exact hp.on x (by grind) (by grind), by rw [e, e, h.lo]; exact ⟨iA.1, iB.1⟩, by rw [e, e, h.hi]; exact ⟨iA.2, iB.2⟩, ?_⟩
 rw [e, e, h.lo, h.hi]
 rintro ⟨k1, k2⟩
 have hm : X < (X' + Y') / 2 ∧ (X' + Y') / 2 < Y := ⟨by grind, by grind⟩
 have ha := hgts_asc_in hs hy hN hl hm.1 hm.2
 unfold hgtsL at ha
 obtain ⟨a1, a2⟩ := List.pairwise_cons.1 ha
 have b1 : s.lo.y < hgtS s ((X' + Y') / 2) k := a1 _ (List.mem_append_left _ (List.mem_map.2 ⟨k, hk, rfl⟩))
 have b2 : hgtS s ((X' + Y') / 2) k < s.hi.y := (List.pairwise_append.1 a2).2.2 _ (List.mem_map.2 ⟨k, hk, rfl⟩) _ (List.mem_singleton.2 rfl)
 have c1 := onS_col (hp.on X' h1 (by grind)) (hp.on Y' (by grind) h3) (hp.on ((X' + Y') / 2) (by grind) (by grind))
 have c2 : hgtS s ((X' + Y') / 2) k = hgtS s X' k := by
   rw [k1] at c1
   have : (hgtS s ((X' + Y') / 2) k - hgtS s Y' k) * (Y' - X') = 0 := by grind
   rcases Rat.mul_eq_zero.1 this with h4 | h4 <;> grind
 rcases k2 with k2 | k2 <;> grind
theorem at_half (a b : V) : a.at b (1 / 2) = ⟨(a.x + b.x) / 2, (a.y + b.y) / 2⟩ := by
 show (⟨a.x + (b.x - a.x) * (1 / 2), a.y + (b.y - a.y) * (1 / 2)⟩ : V) = _
 congr 1 <;> grind
theorem center_in {s : Sl} (hs : s.is) (hy : s.lo.y < s.hi.y) {x : Cel} (hk : x.k < 4) (hx : (x.r : Int) < cntK s x.k x.c) : inC s x (cenP s x) ∧ ∀ q ∈ crnL s x, inC s x (q.at (cenP s x) (1 / 2)) := by
 rw [← conB_in hs hy hk hx]
 suffices h : conB x.k (crnL s x) (cenP s x) = true ∧ ∀ q ∈ crnL s x, conB x.k (crnL s x) (q.at (cenP s x) (1 / 2)) = true from ⟨h.1, fun q hq => (conB_in hs hy hk hx _).1 (h.2 q hq)⟩
 obtain ⟨k, c, r⟩ := x
 have hk' : k = 0 ∨ k = 1 ∨ k = 2 ∨ k = 3 := by have : k < 4 := hk; omega
 rcases hk' with rfl | rfl | rfl | rfl
 · obtain ⟨l, X, h1, h2, h3⟩ := lineN_inv (show (r : Int) < lineN s 0 c from hx)
   obtain ⟨y, hy'⟩ : ∃ y, l.xs[r]? = some y := ⟨_, List.getElem?_eq_getElem (by omega)⟩
   have e0 : cenP s ⟨0, c, r⟩ = ⟨X, y⟩ := by simp only [cenP]; rw [getD_of' h2, getD_of' (show (s.L.xs.map (·.xs))[c]? = some l.xs by rw [List.getElem?_map, h1]; rfl), getD_of' hy']
   rw [e0, show crnL s ⟨0, c, r⟩ = [⟨X, y⟩] by simp only [crnL]; rw [getD_of' h2, getD_of' (show (s.L.xs.map (·.xs))[c]? = some l.xs by rw [List.getElem?_map, h1]; rfl), getD_of' hy']]
   have e : ∀ p, conB 0 [(⟨X, y⟩ : V)] p = (true && decide (cmpV ⟨X, y⟩ p = 0)) := fun p => rfl
   have hc : conB 0 [(⟨X, y⟩ : V)] ⟨X, y⟩ = true := by rw [e, Bool.true_and, decide_eq_true_eq, cmpV_zero]
   refine ⟨hc, fun q hq => ?_⟩
   rw [List.mem_singleton.1 hq, at_half, show (X + X) / 2 = X by grind, show (y + y) / 2 = y by grind]
   exact hc
 · obtain ⟨l, X, h1, h2, h3⟩ := lineN_inv (show (r : Int) < lineN s 1 c from hx)
   obtain ⟨y, hy'⟩ : ∃ y, l.xs[r]? = some y := ⟨_, List.getElem?_eq_getElem (by omega)⟩
   obtain ⟨y', hy''⟩ : ∃ y, l.xs[r + 1]? = some y := ⟨_, List.getElem?_eq_getElem (by omega)⟩
   have hlt : y < y' := asc_get (ys_ranges hs (Rat.le_of_lt hy) h2 h1).asc hy' hy'' (by omega)
   have e0 : cenP s ⟨1, c, r⟩ = ⟨X, (y + y') / 2⟩ := by
     simp only [cenP, midV]; rw [getD_of' h2, getD_of' (show (s.L.xs.map (·.xs))[c]? = some l.xs by rw [List.getElem?_map, h1]; rfl), getD_of' hy', getD_of' hy'']
     congr 1; grind
   rw [e0, show crnL s ⟨1, c, r⟩ = [⟨X, y⟩, ⟨X, y'⟩] by simp only [crnL]; rw [getD_of' h2, getD_of' (show (s.L.xs.map (·.xs))[c]? = some l.xs by rw [List.getElem?_map, h1]; rfl), getD_of' hy', getD_of' hy'']]
   have e : ∀ p, conB 1 [(⟨X, y⟩ : V), ⟨X, y'⟩] p = (true && (betwB ⟨X, y⟩ ⟨X, y'⟩ p && (decide (cmpV ⟨X, y⟩ p ≠ 0) && decide (cmpV ⟨X, y'⟩ p ≠ 0)))) := fun p => rfl
   have hc : ∀ h, y < h → h < y' → conB 1 [(⟨X, y⟩ : V), ⟨X, y'⟩] ⟨X, h⟩ = true := fun h k1 k2 => by
     rw [e, Bool.true_and, Bool.and_eq_true, Bool.and_eq_true, decide_eq_true_eq, decide_eq_true_eq, betw_iff (fun h => by have := congrArg V.y h; simp only at this; grind), onS_vert hlt]
     refine ⟨⟨rfl, by grind, by grind⟩, fun h => ?_, fun h => ?_⟩
     · have := congrArg V.y (cmpV_zero.1 h); simp only at this; grind
     · have := congrArg V.y (cmpV_zero.1 h); simp only at this; grind
   refine ⟨hc _ (by grind) (by grind), fun q hq => ?_⟩
   simp only [List.mem_cons, List.not_mem_nil, or_false] at hq
   rcases hq with rfl | rfl
   · rw [at_half, show (X + X) / 2 = X by grind]; exact hc _ (by grind) (by grind)
   · rw [at_half, show (X + X) / 2 = X by grind]; exact hc _ (by grind) (by grind)
 · obtain ⟨t, X, Y, h1, h2, h3, h4, h5⟩ := stripN_inv (show (r : Int) < stripN s 2 c from hx)
   have hN : Nx s c X Y := ⟨h2, h3⟩
   have hXY := hN.lt hs
   obtain ⟨a, b, g1, g2, _, _, g5⟩ := hgts_row hs hy hN h1 (r := r) (by omega)
   obtain ⟨m, gm, gl⟩ := g5 ((X + Y) / 2) (by grind) (by grind)
   have em : m = (a + b) / 2 := mul_cancel_eq (show 0 < Y - X by grind) (by grind)
   have e0 : cenP s ⟨2, c, r⟩ = ⟨(X + Y) / 2, (a + b) / 2⟩ := by simp only [cenP, onP]; rw [getD_of' h2, getD_of' h3, getD_of' h1, getD_of' gm, em]
   rw [e0, show crnL s ⟨2, c, r⟩ = [⟨X, a⟩, ⟨Y, b⟩] by simp only [crnL, onP]; rw [getD_of' h2, getD_of' h3, getD_of' h1, getD_of' g1, getD_of' g2]]
   have e : ∀ p, conB 2 [(⟨X, a⟩ : V), ⟨Y, b⟩] p = (true && (betwB ⟨X, a⟩ ⟨Y, b⟩ p && (decide (cmpV ⟨X, a⟩ p ≠ 0) && decide (cmpV ⟨Y, b⟩ p ≠ 0)))) := fun p => rfl
   have hc : ∀ x h, X < x → x < Y → h * (Y - X) = a * (Y - x) + b * (x - X) → conB 2 [(⟨X, a⟩ : V), ⟨Y, b⟩] ⟨x, h⟩ = true := fun x h k1 k2 k3 => by
     rw [e, Bool.true_and, Bool.and_eq_true, Bool.and_eq_true, decide_eq_true_eq, decide_eq_true_eq, betw_iff (fun h => by have := congrArg V.x h; simp only at this; grind), onS_seg hXY]
     refine ⟨⟨by grind, by grind, k3⟩, fun h => ?_, fun h => ?_⟩
     · have := congrArg V.x (cmpV_zero.1 h); simp only at this; grind
     · have := congrArg V.x (cmpV_zero.1 h); simp only at this; grind
   refine ⟨hc _ _ (by grind) (by grind) (by grind), fun q hq => ?_⟩
   simp only [List.mem_cons, List.not_mem_nil, or_false] at hq
   rcases hq with rfl | rfl
   · rw [at_half]; exact hc _ _ (by grind) (by grind) (by grind)
   · rw [at_half]; exact hc _ _ (by grind) (by grind) (by grind)
 · obtain ⟨t, X, Y, h1, h2, h3, h4, h5⟩ := stripN_inv (show (r : Int) < stripN s 1 c from hx)
   have hN : Nx s c X Y := ⟨h2, h3⟩
   have hXY := hN.lt hs
   obtain ⟨a, b, g1, g2, _, _, g5⟩ := hgts_row hs hy hN h1 (r := r) (by omega)
   obtain ⟨a', b', g1', g2', _, _, g5'⟩ := hgts_row hs hy hN h1 (r := r + 1) (by omega)
   obtain ⟨m1, m2, m3⟩ := hgts_two hs hy hN h1 (show r < r + 1 by omega) g1 g2 g1' g2'
   obtain ⟨m, gm, gl⟩ := g5 ((X + Y) / 2) (by grind) (by grind)
   obtain ⟨m', gm', gl'⟩ := g5' ((X + Y) / 2) (by grind) (by grind)
   have em : m = (a + b) / 2 := mul_cancel_eq (show 0 < Y - X by grind) (by grind)
   have em' : m' = (a' + b') / 2 := mul_cancel_eq (show 0 < Y - X by grind) (by grind)
   have e0 : cenP s ⟨3, c, r⟩ = ⟨(X + Y) / 2, (a + b + a' + b') / 4⟩ := by
     simp only [cenP, onP, midV]; rw [getD_of' h2, getD_of' h3, getD_of' h1, getD_of' gm, getD_of' gm', em, em']
     congr 1 <;> grind
   rw [e0, show crnL s ⟨3, c, r⟩ = unw (ddp [⟨X, a⟩, ⟨Y, b⟩, ⟨Y, b'⟩, ⟨X, a'⟩]) by simp only [crnL, crn3, onP]; rw [getD_of' h2, getD_of' h3, getD_of' h1, getD_of' g1, getD_of' g2, getD_of' g1', getD_of' g2']]
   have hW := Rat.mul_pos (show 0 < Y - X by grind) (show 0 < a' + b' - a - b by grind)
   have hW1 := Rat.mul_nonneg (show 0 ≤ Y - X by grind) (show 0 ≤ a' - a by grind)
   have hW2 := Rat.mul_nonneg (show 0 ≤ Y - X by grind) (show 0 ≤ b' - b by grind)
   refine ⟨(con3 hXY m1 m2 m3).2 ⟨by grind, by grind, by grind, by grind⟩, fun q hq => ?_⟩
   have hq' : q ∈ [⟨X, a⟩, ⟨Y, b⟩, ⟨Y, b'⟩, (⟨X, a'⟩ : V)] := by
     refine ddp_mem.1 ?_
     unfold unw at hq
     split at hq
     · exact List.mem_of_mem_take hq
     · exact hq
   simp only [List.mem_cons, List.not_mem_nil, or_false] at hq'
   rcases hq' with rfl | rfl | rfl | rfl
   · rw [at_half]; exact (con3 hXY m1 m2 m3).2 ⟨by grind, by grind, by grind, by grind⟩
   · rw [at_half]; exact (con3 hXY m1 m2 m3).2 ⟨by grind, by grind, by grind, by grind⟩
   · rw [at_half]; exact (con3 hXY m1 m2 m3).2 ⟨by grind, by grind, by grind, by grind⟩
   · rw [at_half]; exact (con3 hXY m1 m2 m3).2 ⟨by grind, by grind, by grind, by grind⟩
end Go.Sx
end
section
/- The law of the partition. -/
set_option maxRecDepth 10000
set_option maxHeartbeats 2000000
namespace Go.Sx
open Go Go.Proofs
theorem crnL_len {s : Sl} {x : Cel} : (crnL s x).length ≤ 4 := by
 obtain ⟨k, c, r⟩ := x
 match k with
 | 0 => exact Nat.le_of_ble_eq_true rfl
 | 1 => exact Nat.le_of_ble_eq_true rfl
 | 2 => exact Nat.le_of_ble_eq_true rfl
 | k + 3 => exact Nat.le_trans (unw_len _) (ddp_len _)
end Go.Sx
end
section
/- The law of one more segment. -/
set_option maxRecDepth 10000
set_option maxHeartbeats 4000000
namespace Go.Sx
open Go Go.Proofs
theorem hgtE_sz' {A B : V} {x : Rat} {k : Nat} (hA : SzV K0 A) (hB : SzV K0 B) (hx : Sz k x) : Sz (k + 1000) (hgtE A B x).1 := by
 have z0 : Sz (k + 1000) (0 : Rat) := (show Sz 1 (0 : Rat) from ⟨by decide, by decide⟩).le (by omega)
 unfold hgtE
 split
 · exact z0
 · split
   · exact (hA.2.add (((hx.sub hA.1).div (hB.sub hA).1).mul (hB.sub hA).2)).le (by simp only [K0]; omega)
   · exact z0
theorem onP_sz' {s : Sl} (hz : s.sz) {l : Ln Nat} {row : Nat} {x : Rat} {k : Nat} (hx : Sz k x) : SzV (k + 1000) (onP s l row x) := by
 refine ⟨hx.le (by omega), ?_⟩
 have z0 : Sz (k + 1000) (0 : Rat) := (show Sz 1 (0 : Rat) from ⟨by decide, by decide⟩).le (by omega)
 have hall : ∀ y ∈ hgtsL s l x, Sz (k + 1000) y := fun y hy => by
   rcases List.mem_cons.1 hy with rfl | hy
   · exact hz.lo.2.le (by simp only [K0]; omega)
   rcases List.mem_append.1 hy with hy | hy
   · obtain ⟨k, _, rfl⟩ := List.mem_map.1 hy
     unfold hgtS
     split
     · rename_i e he; have := hz.sg e (List.mem_of_getElem? he); exact hgtE_sz' this.1.1 this.1.2 hx
     · exact z0
   · rw [List.mem_singleton.1 hy]; exact hz.hi.2.le (by simp only [K0]; omega)
 show Sz (k + 1000) ((hgtsL s l x).getD row 0)
 rw [List.getD_eq_getElem?_getD]
 cases h : (hgtsL s l x)[row]? with
 | none => exact z0
 | some y => exact hall y (List.mem_of_getElem? h)
theorem half_sz {x y : Rat} {k m : Nat} (hx : Sz k x) (hy : Sz m y) : Sz (k + m + 4) ((x + y) / 2) := ((hx.add hy).div (show Sz 2 (2 : Rat) from ⟨by decide, by decide⟩)).le (by omega)
theorem cells_sz {s : Sl} (hz : s.sz) (hzx : s.szX) {x : Cel} (hk : x.k < 4) (hx2 : (x.r : Int) < cntK s x.k x.c) : (∀ v ∈ crnL s x, SzV 200000 v) ∧ SzV 450000 (cenP s x) := by
 obtain ⟨k, c, r⟩ := x
 have hk' : k = 0 ∨ k = 1 ∨ k = 2 ∨ k = 3 := by have : k < 4 := hk; omega
 have sx : ∀ {c X}, s.X.xs[c]? = some X → Sz 100000 X := fun h => hzx.X _ (List.mem_of_getElem? h)
 have sl : ∀ {c r : Nat} {l : Ln Rat} {y : Rat}, s.L.xs[c]? = some l → l.xs[r]? = some y → Sz 200000 y := fun h h' => hzx.L _ (List.mem_of_getElem? h) _ (List.mem_of_getElem? h')
 have so : ∀ {c : Nat} {X : Rat} (t r), s.X.xs[c]? = some X → SzV 200000 (onP s t r X) := fun {c X} t r h => (onP_sz' hz (sx h)).le (by decide)
 rcases hk' with rfl | rfl | rfl | rfl
 · obtain ⟨l, X, h1, h2, h3⟩ := lineN_inv (show (r : Int) < lineN s 0 c from hx2)
   obtain ⟨y, hy'⟩ : ∃ y, l.xs[r]? = some y := ⟨_, List.getElem?_eq_getElem (by omega)⟩
   rw [show crnL s ⟨0, c, r⟩ = [⟨X, y⟩] by simp only [crnL]; rw [getD_of' h2, getD_of' (show (s.L.xs.map (·.xs))[c]? = some l.xs by rw [List.getElem?_map, h1]; rfl), getD_of' hy'],
     show cenP s ⟨0, c, r⟩ = ⟨X, y⟩ by simp only [cenP]; rw [getD_of' h2, getD_of' (show (s.L.xs.map (·.xs))[c]? = some l.xs by rw [List.getElem?_map, h1]; rfl), getD_of' hy']]
   refine ⟨fun v hv => ?_, (sx h2).le (by decide), (sl h1 hy').le (by decide)⟩
   rw [List.mem_singleton.1 hv]; exact ⟨(sx h2).le (by decide), sl h1 hy'⟩
 · obtain ⟨l, X, h1, h2, h3⟩ := lineN_inv (show (r : Int) < lineN s 1 c from hx2)
   obtain ⟨y, hy'⟩ : ∃ y, l.xs[r]? = some y := ⟨_, List.getElem?_eq_getElem (by omega)⟩
   obtain ⟨y', hy''⟩ : ∃ y, l.xs[r + 1]? = some y := ⟨_, List.getElem?_eq_getElem (by omega)⟩
   rw [show crnL s ⟨1, c, r⟩ = [⟨X, y⟩, ⟨X, y'⟩] by simp only [crnL]; rw [getD_of' h2, getD_of' (show (s.L.xs.map (·.xs))[c]? = some l.xs by rw [List.getElem?_map, h1]; rfl), getD_of' hy', getD_of' hy''],
     show cenP s ⟨1, c, r⟩ = midV ⟨X, y⟩ ⟨X, y'⟩ by simp only [cenP]; rw [getD_of' h2, getD_of' (show (s.L.xs.map (·.xs))[c]? = some l.xs by rw [List.getElem?_map, h1]; rfl), getD_of' hy', getD_of' hy'']]
   refine ⟨fun v hv => ?_, (half_sz (sx h2) (sx h2)).le (by decide), (half_sz (sl h1 hy') (sl h1 hy'')).le (by decide)⟩
   simp only [List.mem_cons, List.not_mem_nil, or_false] at hv
   rcases hv with rfl | rfl
   · exact ⟨(sx h2).le (by decide), sl h1 hy'⟩
   · exact ⟨(sx h2).le (by decide), sl h1 hy''⟩
 · obtain ⟨t, X, Y, h1, h2, h3, h4, h5⟩ := stripN_inv (show (r : Int) < stripN s 2 c from hx2)
   rw [show crnL s ⟨2, c, r⟩ = [onP s t r X, onP s t r Y] by simp only [crnL]; rw [getD_of' h2, getD_of' h3, getD_of' h1],
     show cenP s ⟨2, c, r⟩ = onP s t r ((X + Y) / 2) by simp only [cenP]; rw [getD_of' h2, getD_of' h3, getD_of' h1]]
   refine ⟨fun v hv => ?_, (onP_sz' hz (half_sz (sx h2) (sx h3))).le (by decide)⟩
   simp only [List.mem_cons, List.not_mem_nil, or_false] at hv
   rcases hv with rfl | rfl
   · exact so t r h2
   · exact so t r h3
 · obtain ⟨t, X, Y, h1, h2, h3, h4, h5⟩ := stripN_inv (show (r : Int) < stripN s 1 c from hx2)
   rw [show crnL s ⟨3, c, r⟩ = crn3 s t r X Y by simp only [crnL]; rw [getD_of' h2, getD_of' h3, getD_of' h1],
     show cenP s ⟨3, c, r⟩ = midV (onP s t r ((X + Y) / 2)) (onP s t (r + 1) ((X + Y) / 2)) by simp only [cenP]; rw [getD_of' h2, getD_of' h3, getD_of' h1]]
   have zm := half_sz (sx h2) (sx h3)
   have o1 := onP_sz' (row := r) (l := t) hz zm
   have o2 := onP_sz' (row := r + 1) (l := t) hz zm
   refine ⟨fun v hv => ?_, (half_sz o1.1 o2.1).le (by decide), (half_sz o1.2 o2.2).le (by decide)⟩
   have : v ∈ [onP s t r X, onP s t r Y, onP s t (r + 1) Y, onP s t (r + 1) X] := by
     unfold crn3 unw at hv
     refine ddp_mem.1 ?_
     split at hv
     · exact List.mem_of_mem_take hv
     · exact hv
   simp only [List.mem_cons, List.not_mem_nil, or_false] at this
   rcases this with rfl | rfl | rfl | rfl
   · exact so t r h2
   · exact so t r h3
   · exact so t (r + 1) h3
   · exact so t (r + 1) h2
end Go.Sx
end
section
set_option maxRecDepth 10000
set_option maxHeartbeats 2000000
namespace Go.Sx
open Go Go.Proofs
theorem drop_cons' {α : Type} {l : List α} {i : Nat} {x : α} (h : l[i]? = some x) : l.drop i = x :: l.drop (i + 1) := by
 obtain ⟨h1, h2⟩ := List.getElem?_eq_some_iff.1 h
 rw [← h2]; exact List.drop_eq_getElem_cons h1
theorem c_IndexCel (A : Option Addr) (c : Nat) (L : List Cel) (x : Cel) (hl : L.length ≤ 1000000000) :
   FnM PP f_slices_Index_sl_api_Cell_api_Cell [.slice A L.length c, x.V] (facts [SlRes A (rowV Cel.C L)]) (retsV (.int .i64 (idxF (fun y => decide (x = y)) 0 L))) := by
 refine FnS.of TBgood mixed h_slices_Index_sl_api_Cell_api_Cell rfl rfl (Nat.le_of_ble_eq_true rfl) (by simp [SlRes.ok]) ?_
 intro w hw
 obtain ⟨f, hf⟩ : ∃ f : Cel → Bool, f = fun y => decide (x = y) := ⟨_, rfl⟩
 rw [← hf]
 obtain ⟨n, hn⟩ : ∃ n, n = L.length := ⟨_, rfl⟩
 have hA : 0 < n → A.isSome = true := fun h => slres_some (facts_one hw) (by rw [rowV_length Cel.C_len]; omega)
 rw [← hn] at hl ⊢
 conv => whnf
 refine sexec_loop (ι := Nat) (fun i => ⟨[(0, .o (.v (.slice A n c))), (3, .o (.p 3 0)), (7, .o (.v (.int .i64 n))), (8, .o (.v (.int .i64 i)))], [(3, .box (x.C.map AV.v) t_api_Cell)], [SlRes A (rowV Cel.C L)]⟩)
   (fun i => i ≤ n ∧ idxF f 0 L = idxF f i (L.drop i)) (fun i => n - i) 0 ⟨Nat.zero_le _, rfl⟩
   (SLe.id ⟨rfl, rfl, rfl, rfl, trivial⟩ ⟨⟨_, rfl, .refl _⟩, trivial⟩ (fun R hR => hR)) ?_
 rintro i ⟨hi0, hx⟩
 conv => whnf
 by_cases hi : i < n
 rotate_left
 · refine br_false (decide_eq_false (show ¬ (i : Int) < (n : Int) by omega)) ?_
   rw [show i = n by omega, hn, List.drop_length] at hx
   conv => whnf
   exact postV_one (by rw [hx]; rfl)
 refine br_true (decide_eq_true (show (i : Int) < (n : Int) by omega)) ?_
 obtain ⟨y, hy⟩ : ∃ y, L[i]? = some y := ⟨_, List.getElem?_eq_getElem (by omega)⟩
 conv => whnf
 refine DrawVC.quiet (by kernel_rfl) ?_
 conv => whnf
 refine ⟨⟨by omega, by omega, hA (by omega)⟩, ?_⟩
 conv => whnf
 refine LoadVC.elem (A := A) (xs := L) (j := (i : Int)) Cel.C Cel.C_len (List.mem_cons_self ..) rfl (by rw [Int.toNat_natCast]; omega) (by decide) (fun h => by cases h) ?_
 intro y' hy'
 obtain rfl : y' = y := by rw [Int.toNat_natCast, hy] at hy'; exact (Option.some.inj hy').symm
 have he : (((x.k : Int) == (y'.k : Int)) && (((x.c : Int) == (y'.c : Int)) && (((x.r : Int) == (y'.r : Int)) && true))) = f y' := by
   rw [hf]
   obtain ⟨a, b, c⟩ := x
   obtain ⟨a', b', c'⟩ := y'
   refine Bool.eq_iff_iff.2 ?_
   simp only [Bool.and_eq_true, beq_iff_eq, Bool.and_true, decide_eq_true_eq, Cel.mk.injEq]
   omega
 rw [drop_cons' hy] at hx
 simp only [idxF] at hx
 conv => whnf
 cases hfy : f y' with
 | true =>
   rw [hfy, if_pos rfl] at hx
   refine br_true (he.trans hfy) ?_
   conv => whnf
   exact postV_one (by rw [hx])
 | false =>
   rw [hfy, if_neg (by simp)] at hx
   refine br_false (he.trans hfy) ?_
   conv => whnf
   exact ⟨i + 1, ⟨by omega, hx⟩, by show n - (i + 1) < n - i; omega, SLe.id ⟨rfl, rfl, rfl, some_wrap hi (by omega), trivial⟩ ⟨⟨_, rfl, .refl _⟩, trivial⟩ (fun R hR => hR)⟩
theorem c_ContainsCel (A : Option Addr) (c : Nat) (L : List Cel) (x : Cel) (hl : L.length ≤ 1000000000) :
   FnM PP f_slices_Contains_sl_api_Cell_api_Cell [.slice A L.length c, x.V] (facts [SlRes A (rowV Cel.C L)]) (retsV (.bool (decide (x ∈ L)))) := by
 refine FnS.of TBgood mixed h_slices_Contains_sl_api_Cell_api_Cell rfl rfl (Nat.le_of_ble_eq_true rfl) (by simp [SlRes.ok]) ?_
 intro w hw
 conv => whnf
 refine cfs (c_IndexCel A c L x hl) ?_
 conv => whnf
 refine postV_one (congrArg Value.bool ?_)
 show decide (idxF _ 0 L ≥ 0) = _
 rw [idxF_any]
 refine Bool.eq_iff_iff.2 ?_
 rw [List.any_eq_true, decide_eq_true_eq]
 exact ⟨fun ⟨y, h1, h2⟩ => by rw [of_decide_eq_true h2]; exact h1, fun h => ⟨x, h, decide_eq_true rfl⟩⟩
theorem c_IdxFuncR (A : Option Addr) (c : Nat) (l : List Rat) (g : FuncId) (caps : List Value) (f : Rat → Bool) (re : List Res) (hl : l.length ≤ 1000000) (hok : ∀ R ∈ re, R.ok)
   (hf : ∀ x ∈ l, FnM PP g (qV x :: caps) (facts re) (retsV (.bool (f x)))) :
   FnM PP f_slices_IndexFunc_sl_api_Rat_api_Rat [.slice A l.length c, cloV g caps] (facts (SlRes A (rowV ratQ l) :: re)) (retsV (.int .i64 (idxF f 0 l))) := by
 refine FnS.of TBgood mixed h_slices_IndexFunc_sl_api_Rat_api_Rat rfl rfl (Nat.le_of_ble_eq_true rfl) (fun R hR => by rcases List.mem_cons.1 hR with rfl | hR; exact SlRes.ok _ _; exact hok R hR) ?_
 intro w hw
 obtain ⟨n, hn⟩ : ∃ n, n = l.length := ⟨_, rfl⟩
 have hA : 0 < n → A.isSome = true := fun h => slres_some (hw _ (List.mem_cons_self ..)) (by rw [rowV_length ratQ_len]; omega)
 rw [← hn] at hl ⊢
 conv => whnf
 refine sexec_loop (ι := Nat) (fun i => ⟨[(0, .o (.v (.slice A n c))), (1, .o (.v (cloV g caps))), (7, .o (.v (.int .i64 n))), (8, .o (.v (.int .i64 i)))], [], SlRes A (rowV ratQ l) :: re⟩)
   (fun i => i ≤ n ∧ idxF f 0 l = idxF f i (l.drop i)) (fun i => n - i) 0 ⟨Nat.zero_le _, rfl⟩
   (SLe.id ⟨rfl, rfl, rfl, rfl, trivial⟩ trivial (fun R hR => hR)) ?_
 rintro i ⟨hi0, hx⟩
 conv => whnf
 by_cases hi : i < n
 rotate_left
 · refine br_false (decide_eq_false (show ¬ (i : Int) < (n : Int) by omega)) ?_
   rw [show i = n by omega, hn, List.drop_length] at hx
   conv => whnf
   exact postV_one (by rw [hx]; rfl)
 refine br_true (decide_eq_true (show (i : Int) < (n : Int) by omega)) ?_
 obtain ⟨y, hy⟩ : ∃ y, l[i]? = some y := ⟨_, List.getElem?_eq_getElem (by omega)⟩
 conv => whnf
 refine ⟨⟨by omega, by omega, hA (by omega)⟩, ?_⟩
 conv => whnf
 refine LoadVC.elem (A := A) (xs := l) (j := (i : Int)) ratQ ratQ_len (List.mem_cons_self ..) rfl (by rw [Int.toNat_natCast]; omega) (by decide) (fun h => by cases h) ?_
 intro y' hy'
 obtain rfl : y' = y := by rw [Int.toNat_natCast, hy] at hy'; exact (Option.some.inj hy').symm
 rw [drop_cons' hy] at hx
 simp only [idxF] at hx
 conv => whnf
 refine cfs (hf y' (List.mem_of_getElem? hy)) ?_ rfl (fun R hR => List.mem_cons_of_mem _ hR)
 cases hfy : f y' with
 | true =>
   rw [hfy, if_pos rfl] at hx
   conv => whnf
   exact postV_one (by rw [hx])
 | false =>
   rw [hfy, if_neg (by simp)] at hx
   conv => whnf
   exact ⟨i + 1, ⟨by omega, hx⟩, by show n - (i + 1) < n - i; omega, SLe.id ⟨rfl, rfl, rfl, some_wrap hi (by omega), trivial⟩ trivial (fun R hR => hR)⟩
theorem idxF_eq {α : Type} [DecidableEq α] (h : α) : ∀ (l : List α) (i k : Nat), l[k]? = some h → (∀ j, j < k → l[j]? ≠ some h) → idxF (fun y => decide (y = h)) i l = ((i + k : Nat) : Int)
 | [], i, k, hk, _ => by simp at hk
 | y :: l, i, 0, hk, _ => by
   have : y = h := Option.some.inj hk
   simp only [idxF]
   rw [if_pos (decide_eq_true this)]; rfl
 | y :: l, i, k + 1, hk, hj => by
   have h0 : y ≠ h := fun e => hj 0 (by omega) (by rw [e]; rfl)
   simp only [idxF]
   rw [if_neg (by simp [h0]), idxF_eq h l (i + 1) k (by simpa using hk) (fun j h1 h2 => hj (j + 1) (by omega) (by simpa using h2))]
   congr 1; omega
theorem c_end1 (a : Addr) (y : Rat) (p : V) (hy : Sz 400000 y) (hp : Sz 400000 p.y) : FnM PP f_slab_end_1 [qV y, ptrV a] (facts [SlRes (some a) (ptQ p)]) (retsV (.bool (decide (y = p.y)))) := by
 refine FnS.of TBgood mixed h_slab_end_1 rfl rfl (Nat.le_of_ble_eq_true rfl) (by simp [SlRes.ok]) ?_
 intro w hw
 have hc := c_rCompare (Q y) (Q p.y) (hy.q.le (by decide)) (hp.q.le (by decide))
 rw [Q_v, Q_v] at hc
 obtain ⟨b1, o1, rfl⟩ := slf_addr (facts_one hw) (by simp [ptC])
 conv => whnf
 refine LoadVC.row (off := 3) (List.mem_cons_self ..) rfl (Nat.le_of_ble_eq_true rfl) (by decide) (fun h => by cases h) ?_
 conv => whnf
 refine cf hc ?_
 conv => whnf
 refine postV_one (congrArg Value.bool ?_)
 refine Bool.eq_iff_iff.2 ?_
 rw [beq_iff_eq, decide_eq_true_eq]
 exact cmpQ_eq
theorem c_end (s : Sl) (col row side : Nat) (t : Ln Nat) (l : Ln Rat) (X : Rat) (k : Nat) (hs : s.small) (hz : s.sz) (hzx : s.szX) (ht : s.S.xs[col]? = some t) (hX : s.X.xs[col + side]? = some X) (hl : s.L.xs[col + side]? = some l) (hr : row ≤ 1000000000)
   (hk : l.xs[k]? = some (onP s t row X).y) (hk2 : ∀ j, j < k → l.xs[j]? ≠ some (onP s t row X).y) :
   FnM PP f_slab_end [s.V, .int .i64 col, .int .i64 row, .int .i64 side] (facts s.F) (retsV (.int .i64 k)) := by
 refine FnS.of TBgood mixed h_slab_end rfl rfl (Nat.le_of_ble_eq_true rfl) s.F_ok ?_
 intro w hw
 have hs' := hs
 obtain ⟨s1, s2, s3, s4, s5, s6⟩ := hs'
 have h1 := (List.getElem?_eq_some_iff.1 hX).1
 have h2 := (List.getElem?_eq_some_iff.1 hl).1
 have zx : Sz KY X := (hzx.X X (List.mem_of_getElem? hX)).le (by decide)
 have hAL : s.L.A.isSome = true := slres_some (hw _ Sl.F_L) (by rw [rowV_length Ln.C_len]; omega)
 have hAX : s.X.A.isSome = true := slres_some (hw _ Sl.F_X) (by rw [rowV_length ratQ_len]; omega)
 have hwc : IntKind.i64.wrap ((col : Int) + (side : Int)) = ((col + side : Nat) : Int) := by rw [wrap_i64 (by omega) (by omega)]; rfl
 have hon := c_on s col row t X hs hz ht zx hr
 have zo := onP_sz hz (l := t) (row := row) zx
 have hfl := s4 l (List.mem_of_getElem? hl)
 have hcall : ∀ a, FnM PP f_slices_IndexFunc_sl_api_Rat_api_Rat [.slice l.A l.xs.length l.c, cloV f_slab_end_1 [ptrV a]] (facts (SlRes (some a) (ptQ (onP s t row X)) :: [SlRes l.A (rowV ratQ l.xs)])) (retsV (.int .i64 k)) := fun a => by
   have h := c_IdxFuncR l.A l.c l.xs f_slab_end_1 [ptrV a] (fun y => decide (y = (onP s t row X).y)) [SlRes (some a) (ptQ (onP s t row X))] hfl (by simp [SlRes.ok]) (fun y hy => c_end1 a y _ ((hzx.L l (List.mem_of_getElem? hl) y hy).le (by decide)) zo.2)
   rw [idxF_eq _ l.xs 0 k hk hk2, Nat.zero_add] at h
   exact ⟨h.enters, fun w hw => h.calls w (fun R hR => hw R (by simp only [List.mem_cons, List.not_mem_nil, or_false] at hR ⊢; exact hR.symm))⟩
 conv => whnf
 refine DrawVC.quiet (by kernel_rfl) ?_
 conv => whnf
 refine ⟨⟨by rw [hwc]; omega, by rw [hwc]; omega, hAX⟩, ?_⟩
 conv => whnf
 refine LoadVC.elem (A := s.X.A) (xs := s.X.xs) (j := ((col + side : Nat) : Int)) ratQ ratQ_len Sl.F_X (congrArg (fun z : Int => s.X.A.map (fun a => a.add (z.toNat * 3))) hwc) (by rw [Int.toNat_natCast]; omega) (by decide) (fun h => by cases h) ?_
 intro x' hx'
 obtain rfl : x' = X := by rw [Int.toNat_natCast, hX] at hx'; exact (Option.some.inj hx').symm
 conv => whnf
 refine cds hon ?_
 conv => whnf
 refine ⟨⟨by rw [hwc]; omega, by rw [hwc]; omega, hAL⟩, ?_⟩
 conv => whnf
 refine LoadVC.elem (A := s.L.A) (xs := s.L.xs) (j := ((col + side : Nat) : Int)) Ln.C Ln.C_len Sl.F_L (congrArg (fun z : Int => s.L.A.map (fun a => a.add (z.toNat * 1))) hwc) (by rw [Int.toNat_natCast]; omega) (by decide) (fun _ => rfl) ?_
 intro l' hl'
 obtain rfl : l' = l := by rw [Int.toNat_natCast, hl] at hl'; exact (Option.some.inj hl').symm
 conv => whnf
 refine CallVC.v (hcall ⟨0, 0, none⟩).enters (CallV.c1 (k := 9) (fun z => [.slice l'.A l'.xs.length l'.c, z]) rfl (List.mem_cons_of_mem _ (List.mem_cons_self ..)) (fun _ => rfl) (fun w hw R hR => hw R (by rw [List.mem_singleton.1 hR]; exact Sl.F_l (List.mem_of_getElem? hl))) hcall) ?_
 conv => whnf
 exact postV_one rfl
def clt (a b : Cel) : Bool := decide (cless a b)
theorem clt_f {a b : Cel} : clt a b = false ↔ ¬ (a.c < b.c ∨ (a.c = b.c ∧ (a.k < b.k ∨ (a.k = b.k ∧ a.r < b.r)))) := decide_eq_false_iff_not
theorem clt_t {a b : Cel} : clt a b = true ↔ (a.c < b.c ∨ (a.c = b.c ∧ (a.k < b.k ∨ (a.k = b.k ∧ a.r < b.r)))) := decide_eq_true_iff
def cmpCel (a b : Cel) : Int := orL [cmpI a.c b.c, cmpI a.k b.k, cmpI a.r b.r]
theorem c_order (a b : Cel) : Fn PP f_slab_order [a.V, b.V] (.int .i64 (cmpCel a b)) := by
 refine Fn.of TBgood mixed h_slab_order rfl rfl (Nat.le_of_ble_eq_true rfl) ?_
 intro w
 have hg := fun A c (_ : 3 ≤ c) => c_Or A c [cmpI a.c b.c, cmpI a.k b.k, cmpI a.r b.r] (by simp)
 conv => whnf
 refine DrawVC.quiet (by kernel_rfl) ?_
 conv => whnf
 refine cd (c_cmpI a.c b.c) ?_
 conv => whnf
 refine cd (c_cmpI a.k b.k) ?_
 conv => whnf
 refine cd (c_cmpI a.r b.r) ?_
 conv => whnf
 refine CallVCd.v (hg none 3 (Nat.le_refl _)).enters (CallV.sl1 (x := .o (.s 20 0 3 3)) (fun z => [z]) (RdA.box rfl (Nat.le_refl _)) (List.mem_cons_self ..) (fun _ => rfl) hg) ?_
 conv => whnf
 exact postV_one rfl
theorem lt_cmpCel (a b : Cel) : ltOf cmpCel a b = clt a b := by
 refine decide_eq_decide.2 ?_
 unfold cmpCel cless
 have h : ∀ x y : Int, (cmpI x y = -1 ∧ x < y) ∨ (cmpI x y = 0 ∧ x = y) ∨ (cmpI x y = 1 ∧ y < x) := fun x y => by unfold cmpI; split <;> (try split) <;> omega
 rcases h a.c b.c with ⟨e1, h1⟩ | ⟨e1, h1⟩ | ⟨e1, h1⟩ <;> rcases h a.k b.k with ⟨e2, h2⟩ | ⟨e2, h2⟩ | ⟨e2, h2⟩ <;> rcases h a.r b.r with ⟨e3, h3⟩ | ⟨e3, h3⟩ | ⟨e3, h3⟩ <;> rw [e1, e2, e3] <;> simp [orL] <;> omega
instance : Inhabited Cel := ⟨⟨0, 0, 0⟩⟩
def sortCel (l : List Cel) : List Cel := l.mergeSort fun x y => !(clt y x)
theorem sortCel_perm (l : List Cel) : (sortCel l).Perm l := List.mergeSort_perm _ _
theorem sortCel_eq {l m : List Cel} (hp : l.Perm m) (hm : m.Pairwise cless) : sortCel l = m := by
 have tr : ∀ a b c : Cel, (!(clt b a)) = true → (!(clt c b)) = true → (!(clt c a)) = true := fun a b c h1 h2 => by
   rw [Bool.not_eq_true', clt_f] at *; omega
 have tot : ∀ a b : Cel, (!(clt b a) || !(clt a b)) = true := fun a b => by
   rw [Bool.or_eq_true, Bool.not_eq_true', Bool.not_eq_true', clt_f, clt_f]; omega
 have hs := List.pairwise_mergeSort (le := fun x y : Cel => !(clt y x)) tr tot l
 refine List.Perm.eq_of_pairwise (le := fun x y => (!(clt y x)) = true) (fun a b _ _ h1 h2 => ?_) hs (hm.imp fun {a b} h => ?_) ((sortCel_perm l).trans hp)
 · obtain ⟨k, c, r⟩ := a
   obtain ⟨k', c', r'⟩ := b
   rw [Bool.not_eq_true', clt_f] at h1 h2
   simp only at h1 h2
   congr 1 <;> omega
 · have h : a.c < b.c ∨ (a.c = b.c ∧ (a.k < b.k ∨ (a.k = b.k ∧ a.r < b.r))) := h
   rw [Bool.not_eq_true', clt_f]; omega
theorem cel_one (x : Cel) : ∀ v ∈ x.C, v.oneCell' = true := fun v hv => by
 simp only [List.mem_cons, List.not_mem_nil, or_false] at hv
 rcases hv with rfl | rfl | rfl <;> rfl
theorem c_sortCel (d : List Cel) (hl : d.length ≤ 100000000) :
   FnW PP f_slices_SortFunc_sl_api_Cell_api_Cell [fnV f_slab_order] [] t_api_Cell d.length (rowV Cel.C d) (rowV Cel.C (sortCel d)) (.tuple #[]) := by
 have h := FnW.sortK (P := PP) Tryz.sort_Cell 3 (fun w => (TBgood t_api_Cell _ rfl).1.run_isAgg) (fun w => (TBgood t_api_Cell _ rfl).1.run_size) Cel.C (fun x => rfl) cel_one cmpCel
   ⟨fun x => by rw [lt_cmpCel, clt_f]; omega, fun x y z h1 h2 => by rw [lt_cmpCel, clt_t] at *; omega, fun x y z h1 h2 => by rw [lt_cmpCel, clt_f] at *; omega⟩
   (fun x y h1 h2 => by
     rw [lt_cmpCel, clt_f] at h1 h2
     obtain ⟨k, c, r⟩ := x
     obtain ⟨k', c', r'⟩ := y
     simp only at h1 h2
     congr 1 <;> omega) f_slab_order c_order t_api_Cell d (by omega)
 rw [show (fun x y : Cel => !(ltOf cmpCel y x)) = fun x y => !(clt y x) by funext x y; rw [lt_cmpCel]] at h
 exact h
end Go.Sx
end
section
set_option maxRecDepth 10000
set_option maxHeartbeats 4000000
namespace Go.Sx
open Go Go.Proofs
def endI (s : Sl) (c r sd : Nat) : Nat := (s.L.xs.getD (c + sd) ⟨none, 0, []⟩).xs.idxOf (onP s (s.S.xs.getD c ⟨none, 0, []⟩) r (s.X.xs.getD (c + sd) 0)).y
def vertsL (c lo hi : Nat) : List Cel := (List.range (hi + 1 - lo)).map fun j => ⟨0, c, lo + j⟩
def wallsL (c lo hi : Nat) : List Cel := (List.range (hi - lo)).map fun j => ⟨1, c, lo + j⟩
def sideL (s : Sl) (c r sd : Nat) : List Cel := vertsL (c + sd) (endI s c r sd) (endI s c (r + 1) sd) ++ wallsL (c + sd) (endI s c r sd) (endI s c (r + 1) sd)
def facesL (s : Sl) (x : Cel) : List Cel := match x.k with
 | 0 => []
 | 1 => [⟨0, x.c, x.r⟩, ⟨0, x.c, x.r + 1⟩]
 | 2 => [⟨0, x.c, endI s x.c x.r 0⟩, ⟨0, x.c + 1, endI s x.c x.r 1⟩]
 | _ => sideL s x.c x.r 0 ++ ([⟨2, x.c, x.r⟩, ⟨2, x.c, x.r + 1⟩] ++ sideL s x.c x.r 1)
def arrG (c lo hi : Nat) : Nat → List Cel
 | 0 => []
 | j + 1 => arrG c lo hi j ++ (⟨0, c, lo + j⟩ :: if lo + j < hi then [⟨1, c, lo + j⟩] else [])
theorem arrG_perm (c lo hi : Nat) : ∀ j, lo + j ≤ hi + 1 → (arrG c lo hi j).Perm ((List.range j).map (fun i => (⟨0, c, lo + i⟩ : Cel)) ++ (List.range (min j (hi - lo))).map fun i => ⟨1, c, lo + i⟩)
 | 0, _ => by simp [arrG]
 | j + 1, hj => by
   have ih := arrG_perm c lo hi j (by omega)
   rw [arrG, List.range_succ, List.map_append]
   by_cases h : lo + j < hi
   · rw [if_pos h, show min (j + 1) (hi - lo) = min j (hi - lo) + 1 by omega, List.range_succ, List.map_append, show min j (hi - lo) = j by omega]
     rw [show min j (hi - lo) = j by omega] at ih
     refine (ih.append_right _).trans ?_
     simp only [List.map_cons, List.map_nil, List.append_assoc]
     refine List.Perm.append_left _ ?_
     refine (List.perm_append_comm_assoc _ [_] [_]).trans ?_
     exact List.Perm.refl _
   · rw [if_neg h, show min (j + 1) (hi - lo) = min j (hi - lo) by omega]
     refine (ih.append_right _).trans ?_
     simp only [List.map_cons, List.map_nil, List.append_assoc]
     refine List.Perm.append_left _ ?_
     exact List.perm_append_comm
theorem vertsL_asc (c lo hi : Nat) : (vertsL c lo hi ++ wallsL c lo hi).Pairwise cless := by
 refine List.pairwise_append.2 ⟨?_, ?_, fun a ha b hb => ?_⟩
 · rw [vertsL, List.pairwise_map]; exact List.pairwise_lt_range.imp (fun h => .inr ⟨rfl, .inr ⟨rfl, Nat.add_lt_add_left h lo⟩⟩)
 · rw [wallsL, List.pairwise_map]; exact List.pairwise_lt_range.imp (fun h => .inr ⟨rfl, .inr ⟨rfl, Nat.add_lt_add_left h lo⟩⟩)
 · obtain ⟨i, _, rfl⟩ := List.mem_map.1 ha
   obtain ⟨j, _, rfl⟩ := List.mem_map.1 hb
   exact .inr ⟨rfl, .inl Nat.zero_lt_one⟩
theorem side_mem {c lo hi : Nat} {x : Cel} (h : x ∈ vertsL c lo hi ++ wallsL c lo hi) : x.c = c ∧ ((x.k = 0 ∧ lo ≤ x.r ∧ x.r ≤ hi) ∨ (x.k = 1 ∧ lo ≤ x.r ∧ x.r < hi)) := by
 rcases List.mem_append.1 h with h | h
 · obtain ⟨i, hi, rfl⟩ := List.mem_map.1 h
   have := List.mem_range.1 hi
   exact ⟨rfl, .inl ⟨rfl, by simp only; omega, by simp only; omega⟩⟩
 · obtain ⟨i, hi, rfl⟩ := List.mem_map.1 h
   have := List.mem_range.1 hi
   exact ⟨rfl, .inr ⟨rfl, by simp only; omega, by simp only; omega⟩⟩
theorem faces3_asc (s : Sl) (c r : Nat) : (facesL s ⟨3, c, r⟩).Pairwise cless := by
 show (sideL s c r 0 ++ (([⟨2, c, r⟩, ⟨2, c, r + 1⟩] : List Cel) ++ sideL s c r 1)).Pairwise cless
 refine List.pairwise_append.2 ⟨vertsL_asc .., List.pairwise_append.2 ⟨?_, vertsL_asc .., fun a ha b hb => ?_⟩, fun a ha b hb => ?_⟩
 · refine List.pairwise_cons.2 ⟨fun b hb => ?_, List.pairwise_singleton ..⟩
   rw [List.mem_singleton.1 hb]; exact .inr ⟨rfl, .inr ⟨rfl, by simp only; omega⟩⟩
 · have := (side_mem hb).1
   simp only [List.mem_cons, List.not_mem_nil, or_false] at ha
   rcases ha with rfl | rfl <;> exact .inl (by simp only; omega)
 · obtain ⟨h1, h2⟩ := side_mem ha
   rcases List.mem_append.1 hb with hb | hb
   · simp only [List.mem_cons, List.not_mem_nil, or_false] at hb
     rcases hb with rfl | rfl <;> exact .inr ⟨by simp only; omega, .inl (by simp only; omega)⟩
   · exact .inl (by have := (side_mem hb).1; omega)
def arrS (s : Sl) (c r sd : Nat) : List Cel := arrG (c + sd) (endI s c r sd) (endI s c (r + 1) sd) (endI s c (r + 1) sd + 1 - endI s c r sd)
theorem arrS_perm {s : Sl} {c r sd : Nat} (h : endI s c r sd ≤ endI s c (r + 1) sd) : (arrS s c r sd).Perm (sideL s c r sd) := by
 have := arrG_perm (c + sd) (endI s c r sd) (endI s c (r + 1) sd) (endI s c (r + 1) sd + 1 - endI s c r sd) (by omega)
 rw [show min (endI s c (r + 1) sd + 1 - endI s c r sd) (endI s c (r + 1) sd - endI s c r sd) = endI s c (r + 1) sd - endI s c r sd by omega] at this
 exact this
def arrL (s : Sl) (c r : Nat) : Nat → List Cel
 | 0 => [⟨2, c, r⟩, ⟨2, c, r + 1⟩]
 | j + 1 => arrL s c r j ++ arrS s c r j
theorem sort_arr {s : Sl} {c r : Nat} (h0 : endI s c r 0 ≤ endI s c (r + 1) 0) (h1 : endI s c r 1 ≤ endI s c (r + 1) 1) : sortCel (arrL s c r 2) = facesL s ⟨3, c, r⟩ := by
 refine sortCel_eq ?_ (faces3_asc s c r)
 show ((([⟨2, c, r⟩, ⟨2, c, r + 1⟩] : List Cel) ++ arrS s c r 0) ++ arrS s c r 1).Perm (sideL s c r 0 ++ (([⟨2, c, r⟩, ⟨2, c, r + 1⟩] : List Cel) ++ sideL s c r 1))
 rw [← List.append_assoc]
 exact (List.perm_append_comm.trans ((arrS_perm h0).append_right _)).append (arrS_perm h1)
structure EndOk (s : Sl) (c r sd : Nat) : Prop where
 t : ∃ t, s.S.xs[c]? = some t
 X : ∃ X, s.X.xs[c + sd]? = some X
 l : ∃ l, s.L.xs[c + sd]? = some l
 at' : ∀ t X l, s.S.xs[c]? = some t → s.X.xs[c + sd]? = some X → s.L.xs[c + sd]? = some l → l.xs[endI s c r sd]? = some (onP s t r X).y ∧ ∀ j, j < endI s c r sd → l.xs[j]? ≠ some (onP s t r X).y
theorem c_endI {s : Sl} {c r sd : Nat} (h : EndOk s c r sd) (hs : s.small) (hz : s.sz) (hzx : s.szX) (hr : r ≤ 1000000000) : FnM PP f_slab_end [s.V, .int .i64 c, .int .i64 r, .int .i64 sd] (facts s.F) (retsV (.int .i64 (endI s c r sd))) := by
 obtain ⟨t, ht⟩ := h.t
 obtain ⟨X, hX⟩ := h.X
 obtain ⟨l, hl⟩ := h.l
 obtain ⟨h1, h2⟩ := h.at' t X l ht hX hl
 exact c_end s c r sd t l X _ hs hz hzx ht hX hl hr h1 h2
theorem EndOk.lt {s : Sl} {c r sd : Nat} (h : EndOk s c r sd) (hs : s.small) : endI s c r sd < 1000000 := by
 obtain ⟨t, ht⟩ := h.t
 obtain ⟨X, hX⟩ := h.X
 obtain ⟨l, hl⟩ := h.l
 have := (List.getElem?_eq_some_iff.1 (h.at' t X l ht hX hl).1).1
 have := hs.2.2.2.1 l (List.mem_of_getElem? hl)
 omega
theorem c_fc0 (s : Sl) (c r : Nat) : FnM PP f_slab_kinds_3 [s.V, Cel.V ⟨0, c, r⟩] (facts s.F) (retsO t_api_Cell 3 0 (rowV Cel.C [])) := by
 refine FnM.of TBgood mixed h_slab_kinds_3 rfl rfl (Nat.le_of_ble_eq_true rfl) s.F_ok (post := fun l st => l = [.o (.v nilV)]) (fun w l st E' w' hp hm => ?_) ?_
 · subst hp; exact ⟨_, rfl, World.ownsRow_nil _ _ _ _, hm.ext.below⟩
 intro w hw
 conv => whnf
theorem c_fc1 (s : Sl) (c r : Nat) (hr : r ≤ 1000000) : FnM PP f_slab_kinds_5 [s.V, Cel.V ⟨1, c, r⟩] (facts s.F) (retsO t_api_Cell 3 2 (rowV Cel.C [⟨0, c, r⟩, ⟨0, c, r + 1⟩])) := by
 refine FnM.of TBgood mixed h_slab_kinds_5 rfl rfl (Nat.le_of_ble_eq_true rfl) s.F_ok (fun w l st E w' hp hm => postS_ok hp hm) ?_
 intro w hw
 conv => whnf
 refine ⟨16, 2, [], rfl, .inr ⟨_, rfl, ?_⟩, rfl, by decide, by decide, rfl⟩
 show some [Value.int .i64 0, .int .i64 c, .int .i64 r, .int .i64 0, .int .i64 c, .int .i64 (IntKind.i64.wrap ((r : Int) + 1))] = some _
 rw [wrap_i64 (by omega) (by omega)]; rfl
theorem c_fc2 (s : Sl) (c r : Nat) (hs : s.small) (hz : s.sz) (hzx : s.szX) (h0 : EndOk s c r 0) (h1 : EndOk s c r 1) (hc : c ≤ 1000000) (hr : r ≤ 10000000) :
   FnM PP f_slab_kinds_7 [s.V, Cel.V ⟨2, c, r⟩] (facts s.F) (retsO t_api_Cell 3 2 (rowV Cel.C [⟨0, c, endI s c r 0⟩, ⟨0, c + 1, endI s c r 1⟩])) := by
 refine FnM.of TBgood mixed h_slab_kinds_7 rfl rfl (Nat.le_of_ble_eq_true rfl) s.F_ok (fun w l st E w' hp hm => postS_ok hp hm) ?_
 intro w hw
 conv => whnf
 refine DrawVC.quiet (by kernel_rfl) ?_
 conv => whnf
 refine cds (c_endI h0 hs hz hzx (by omega)) ?_
 conv => whnf
 refine cds (c_endI h1 hs hz hzx (by omega)) ?_
 conv => whnf
 refine ⟨24, 2, [], rfl, .inr ⟨_, rfl, ?_⟩, rfl, by decide, by decide, rfl⟩
 show some [Value.int .i64 0, .int .i64 c, .int .i64 (endI s c r 0), .int .i64 0, .int .i64 (IntKind.i64.wrap ((c : Int) + 1)), .int .i64 (endI s c r 1)] = some _
 rw [wrap_i64 (by omega) (by omega)]; rfl
theorem cel1 (L : List Cel) (x : Cel) : app (rowV Cel.C L) x.C = rowV Cel.C (L ++ [x]) := by
 rw [app_eq, rowV_append]; simp [rowV]
theorem c_slAround (s : Sl) (c r : Nat) (hs : s.small) (hz : s.sz) (hzx : s.szX) (h00 : EndOk s c r 0) (h01 : EndOk s c r 1) (h10 : EndOk s c (r + 1) 0) (h11 : EndOk s c (r + 1) 1) (hle0 : endI s c r 0 ≤ endI s c (r + 1) 0) (hle1 : endI s c r 1 ≤ endI s c (r + 1) 1) (hc : c ≤ 1000000) (hr : r ≤ 10000000) :
   FnM PP f_slab_around [s.V, Cel.V ⟨3, c, r⟩] (facts s.F) (retsO t_api_Cell 3 (facesL s ⟨3, c, r⟩).length (rowV Cel.C (facesL s ⟨3, c, r⟩))) := by
 refine FnO.of TBgood mixed h_slab_around rfl rfl (Nat.le_of_ble_eq_true rfl) s.F_ok ?_
 intro w hw
 have hE : ∀ sd, sd < 2 → EndOk s c r sd ∧ EndOk s c (r + 1) sd ∧ endI s c r sd ≤ endI s c (r + 1) sd := fun sd h => by
   match sd, h with
   | 0, _ => exact ⟨h00, h10, hle0⟩
   | 1, _ => exact ⟨h01, h11, hle1⟩
 have hwr : IntKind.i64.wrap ((r : Int) + 1) = ((r + 1 : Nat) : Int) := by rw [wrap_i64 (by omega) (by omega)]; rfl
 have hlen : ∀ c lo hi j, (arrG c lo hi j).length ≤ 2 * j := fun c lo hi j => by
   induction j with
   | zero => exact Nat.le_refl _
   | succ j ih =>
     rw [arrG, List.length_append, List.length_cons]
     have : (if lo + j < hi then [(⟨1, c, lo + j⟩ : Cel)] else []).length ≤ 1 := by split <;> simp
     omega
 have hlS : ∀ sd, sd < 2 → (arrS s c r sd).length ≤ 2000004 := fun sd h => by
   have := hlen (c + sd) (endI s c r sd) (endI s c (r + 1) sd) (endI s c (r + 1) sd + 1 - endI s c r sd)
   have := (hE sd h).2.1.lt hs
   unfold arrS; omega
 have hlL : ∀ sd, sd ≤ 2 → (arrL s c r sd).length ≤ 2 + sd * 2000004 := fun sd h => by
   match sd, h with
   | 0, _ => exact Nat.le_refl _
   | 1, _ => rw [arrL, arrL, List.length_append]; have := hlS 0 (by omega); simp only [List.length_cons, List.length_nil]; omega
   | 2, _ => rw [arrL, arrL, arrL, List.length_append, List.length_append]; have := hlS 0 (by omega); have := hlS 1 (by omega); simp only [List.length_cons, List.length_nil]; omega
 conv => whnf
 refine sexec_loop (ι := Nat) (fun sd => ⟨[(2, .o (.p 2 0)), (3, .o (.p 3 0)), (5, .o (.w 4)), (22, .o (.v (.int .i64 sd)))],
     [(2, slM s), (3, .box ((Cel.C ⟨3, c, r⟩).map AV.v) t_api_Cell), (4, .own t_api_Cell 3 (arrL s c r sd).length (rowV Cel.C (arrL s c r sd)))], s.F⟩)
   (fun sd => sd ≤ 2) (fun sd => 2 - sd) 0 (Nat.zero_le _)
   ((SLe.own 5 21 4 t_api_Cell 3 2 (xs := rowV Cel.C [⟨2, c, r⟩, ⟨2, c, r + 1⟩]) rfl rfl (by
     show some [Value.int .i64 2, .int .i64 c, .int .i64 r, .int .i64 2, .int .i64 c, .int .i64 (IntKind.i64.wrap ((r : Int) + 1))] = some _
     rw [hwr]; rfl) rfl (by decide) rfl rfl).trans (SLe.id ⟨rfl, rfl, rfl, rfl, trivial⟩ ⟨⟨_, rfl, .refl _⟩, ⟨_, rfl, .refl _⟩, ⟨_, rfl, .refl _⟩, trivial⟩ (fun R hR => hR))) ?_
 intro sd hsd
 have hsd : sd ≤ 2 := hsd
 have hla := hlL sd hsd
 conv => whnf
 by_cases hsd2 : sd < 2
 rotate_left
 · refine br_false (decide_eq_false (show ¬ (sd : Int) < (2 : Int) by omega)) ?_
   obtain rfl : sd = 2 := by omega
   conv => whnf
   have hso := c_sortCel (arrL s c r 2) (by omega)
   have hl2 : 0 < (arrL s c r 2).length := by
     show 0 < ((([⟨2, c, r⟩, ⟨2, c, r + 1⟩] : List Cel) ++ arrS s c r 0) ++ arrS s c r 1).length
     simp
   have hsl : (sortCel (arrL s c r 2)).length = (arrL s c r 2).length := (sortCel_perm _).length_eq
   refine CallVC.w (k := 4) rfl hl2 hso.enters (fun E w' hm => ⟨[fnV f_slab_order], [], rfl, hso, (fun R hR => by cases hR), (fun R hR => by cases hR)⟩) (by rw [rowV_length Cel.C_len, rowV_length Cel.C_len, hsl]) ?_
   rw [← hsl, sort_arr hle0 hle1]
   conv => whnf
   exact ⟨4, rfl, rfl⟩
 refine br_true (decide_eq_true (show (sd : Int) < (2 : Int) by omega)) ?_
 obtain ⟨k1, k2, k3⟩ := hE sd hsd2
 have q1 := c_endI k1 hs hz hzx (by omega)
 have q2 := c_endI k2 hs hz hzx (by omega)
 rw [← hwr] at q2
 have b2 := k2.lt hs
 obtain ⟨lo, hlo⟩ : ∃ lo, lo = endI s c r sd := ⟨_, rfl⟩
 obtain ⟨hi, hhi⟩ : ∃ hi, hi = endI s c (r + 1) sd := ⟨_, rfl⟩
 rw [← hlo] at q1 k3
 rw [← hhi] at q2 k3 b2
 have hwc : IntKind.i64.wrap ((c : Int) + (sd : Int)) = ((c + sd : Nat) : Int) := by rw [wrap_i64 (by omega) (by omega)]; rfl
 obtain ⟨Z, hZ⟩ : ∃ Z, Z = arrL s c r sd := ⟨_, rfl⟩
 rw [← hZ] at hla ⊢
 conv => whnf
 refine DrawVC.quiet (by kernel_rfl) ?_
 conv => whnf
 refine cds q1 ?_
 conv => whnf
 refine cds q2 ?_
 conv => whnf
 refine sexec_loop (ι := Nat) (fun j => ⟨[(2, .o (.p 2 0)), (3, .o (.p 3 0)), (5, .o (.w 4)), (6, .o (.v (.int .i64 sd))), (8, .o (.v (.int .i64 hi))), (9, .o (.v (.int .i64 ((lo + j : Nat) : Int)))), (22, .o (.v (.int .i64 sd)))],
     [(2, slM s), (3, .box ((Cel.C ⟨3, c, r⟩).map AV.v) t_api_Cell), (4, .own t_api_Cell 3 (Z ++ arrG (c + sd) lo hi j).length (rowV Cel.C (Z ++ arrG (c + sd) lo hi j)))], s.F⟩)
   (fun j => lo + j ≤ hi + 1) (fun j => hi + 1 - (lo + j)) 0 (by show lo + 0 ≤ hi + 1; omega)
   (SLe.id ⟨rfl, rfl, rfl, rfl, rfl, rfl, rfl, trivial⟩ ⟨⟨_, rfl, .refl _⟩, ⟨_, rfl, .refl _⟩, ⟨_, rfl, by rw [show arrG (c + sd) lo hi 0 = [] from rfl, List.append_nil]; exact .refl _⟩, trivial⟩ (fun R hR => hR)) ?_
 intro j hj
 have hj : lo + j ≤ hi + 1 := hj
 have hgl := hlen (c + sd) lo hi j
 conv => whnf
 by_cases hjh : lo + j ≤ hi
 rotate_left
 · refine br_false (decide_eq_false (show ¬ ((lo + j : Nat) : Int) ≤ (hi : Int) by omega)) ?_
   conv => whnf
   have he : Z ++ arrG (c + sd) lo hi j = arrL s c r (sd + 1) := by
     rw [arrL, ← hZ, arrS, ← hlo, ← hhi, show j = hi + 1 - lo by omega]
   refine ⟨sd + 1, by show sd + 1 ≤ 2; omega, by show 2 - (sd + 1) < 2 - sd; omega, SLe.id ⟨rfl, rfl, rfl, some_wrap (n := 2) (by omega) (by omega), trivial⟩ ⟨⟨_, rfl, .refl _⟩, ⟨_, rfl, .refl _⟩, ⟨_, rfl, by rw [he]; exact .refl _⟩, trivial⟩ (fun R hR => hR)⟩
 refine br_true (decide_eq_true (show ((lo + j : Nat) : Int) ≤ (hi : Int) by omega)) ?_
 obtain ⟨G, hG⟩ : ∃ G, G = Z ++ arrG (c + sd) lo hi j := ⟨_, rfl⟩
 have hGl : G.length ≤ 10000000 := by rw [hG, List.length_append]; omega
 have hG1 : Z ++ arrG (c + sd) lo hi (j + 1) = (G ++ [⟨0, c + sd, lo + j⟩]) ++ (if lo + j < hi then [⟨1, c + sd, lo + j⟩] else []) := by
   rw [arrG, hG]; simp
 rw [← hG]
 have ea : ∀ k : Nat, app (rowV Cel.C G) [Value.int .i64 k, .int .i64 (IntKind.i64.wrap ((c : Int) + (sd : Int))), .int .i64 ((lo + j : Nat) : Int)] = rowV Cel.C (G ++ [⟨k, c + sd, lo + j⟩]) := fun k => by
   rw [hwc]; exact cel1 G ⟨k, c + sd, lo + j⟩
 conv => whnf
 refine ⟨by show G.length + 1 ≤ 9223372036854775807 ∧ (G.length + 1) * 24 ≤ 140737488355328; omega, ?_⟩
 conv => whnf
 by_cases hw2 : lo + j < hi
 · rw [if_pos hw2] at hG1
   refine br_true (decide_eq_true (show ((lo + j : Nat) : Int) < (hi : Int) by omega)) ?_
   conv => whnf
   refine ⟨by show (G.length + 1) + 1 ≤ 9223372036854775807 ∧ ((G.length + 1) + 1) * 24 ≤ 140737488355328; omega, ?_⟩
   conv => whnf
   refine ⟨j + 1, by show lo + (j + 1) ≤ hi + 1; omega, by show hi + 1 - (lo + (j + 1)) < hi + 1 - (lo + j); omega, SLe.mk (fun k => bif Nat.beq k 4 then 66 else k) ⟨rfl, rfl, rfl, rfl, rfl, ?_, rfl, trivial⟩ ⟨⟨_, rfl, .refl _⟩, ⟨_, rfl, .refl _⟩, ⟨_, rfl, ?_⟩, trivial⟩ rfl (fun R hR => hR)⟩
   · show some (SV.o (.v (.int .i64 (IntKind.i64.wrap (((lo + j : Nat) : Int) + 1))))) = _
     rw [wrap_i64 (by omega) (by omega)]; rfl
   · have e2 : app (app (rowV Cel.C G) [Value.int .i64 (0 : Nat), .int .i64 (IntKind.i64.wrap ((c : Int) + (sd : Int))), .int .i64 ((lo + j : Nat) : Int)]) [Value.int .i64 (1 : Nat), .int .i64 (IntKind.i64.wrap ((c : Int) + (sd : Int))), .int .i64 ((lo + j : Nat) : Int)] = rowV Cel.C (Z ++ arrG (c + sd) lo hi (j + 1)) := by
       rw [ea 0, hG1, hwc]; exact cel1 _ ⟨1, c + sd, lo + j⟩
     rw [← e2, show (Z ++ arrG (c + sd) lo hi (j + 1)).length = (G.length + 1) + 1 by rw [hG1]; simp]
     exact .refl _
 · rw [if_neg hw2, List.append_nil] at hG1
   refine br_false (decide_eq_false (show ¬ ((lo + j : Nat) : Int) < (hi : Int) by omega)) ?_
   conv => whnf
   refine ⟨j + 1, by show lo + (j + 1) ≤ hi + 1; omega, by show hi + 1 - (lo + (j + 1)) < hi + 1 - (lo + j); omega, SLe.mk (fun k => bif Nat.beq k 4 then 54 else k) ⟨rfl, rfl, rfl, rfl, rfl, ?_, rfl, trivial⟩ ⟨⟨_, rfl, .refl _⟩, ⟨_, rfl, .refl _⟩, ⟨_, rfl, ?_⟩, trivial⟩ rfl (fun R hR => hR)⟩
   · show some (SV.o (.v (.int .i64 (IntKind.i64.wrap (((lo + j : Nat) : Int) + 1))))) = _
     rw [wrap_i64 (by omega) (by omega)]; rfl
   · rw [hG1, ← ea 0, show (G ++ [(⟨0, c + sd, lo + j⟩ : Cel)]).length = G.length + 1 by simp]
     exact .refl _
end Go.Sx
end
section
set_option maxRecDepth 10000
set_option maxHeartbeats 4000000
namespace Go.Sx
open Go Go.Proofs
structure FcOk (s : Sl) (x : Cel) : Prop where
 low : 2 ≤ x.k → EndOk s x.c x.r 0 ∧ EndOk s x.c x.r 1
 high : x.k = 3 → (EndOk s x.c (x.r + 1) 0 ∧ EndOk s x.c (x.r + 1) 1) ∧ endI s x.c x.r 0 ≤ endI s x.c (x.r + 1) 0 ∧ endI s x.c x.r 1 ≤ endI s x.c (x.r + 1) 1
abbrev fcF : Nat → FuncId
 | 0 => f_slab_kinds_3
 | 1 => f_slab_kinds_5
 | 2 => f_slab_kinds_7
 | _ => f_slab_around
theorem c_fcAll (s : Sl) (x : Cel) (hs : s.small) (hz : s.sz) (hzx : s.szX) (hk : x.k < 4) (hx : (x.r : Int) < cntK s x.k x.c) (hf : FcOk s x) : FnM PP (fcF x.k) [s.V, x.V] (facts s.F) (retsO t_api_Cell 3 (facesL s x).length (rowV Cel.C (facesL s x))) := by
 obtain ⟨k, c, r⟩ := x
 have hk' : k = 0 ∨ k = 1 ∨ k = 2 ∨ k = 3 := by have : k < 4 := hk; omega
 have hsm := col_small hs hk hx
 have hc : c ≤ 1000000 := hsm.1
 have hr : r ≤ 10000000 := hsm.2
 rcases hk' with rfl | rfl | rfl | rfl
 · exact c_fc0 s c r
 · obtain ⟨l, x, h1, h2, h3⟩ := lineN_inv (show (r : Int) < lineN s 1 c from hx)
   exact c_fc1 s c r (by have := hs.2.2.2.1 l (List.mem_of_getElem? h1); omega)
 · obtain ⟨h0, h1⟩ := hf.low (Nat.le_refl _)
   exact c_fc2 s c r hs hz hzx h0 h1 hc hr
 · obtain ⟨h0, h1⟩ := hf.low (show 2 ≤ 3 by decide)
   obtain ⟨⟨h2, h3⟩, h4, h5⟩ := hf.high rfl
   exact c_slAround s c r hs hz hzx h0 h1 h2 h3 h4 h5 hc hr
theorem facesL_len {s : Sl} {x : Cel} (hs : s.small) (hk : x.k < 4) (hf : FcOk s x) : (facesL s x).length ≤ 1000000000 := by
 obtain ⟨k, c, r⟩ := x
 have hk' : k = 0 ∨ k = 1 ∨ k = 2 ∨ k = 3 := by have : k < 4 := hk; omega
 rcases hk' with rfl | rfl | rfl | rfl
 · exact Nat.zero_le _
 · exact Nat.le_of_ble_eq_true rfl
 · exact Nat.le_of_ble_eq_true rfl
 · obtain ⟨⟨h2, h3⟩, h4, h5⟩ := hf.high rfl
   have := h2.lt hs
   have := h3.lt hs
   show (sideL s c r 0 ++ (([⟨2, c, r⟩, ⟨2, c, r + 1⟩] : List Cel) ++ sideL s c r 1)).length ≤ _
   have hl : ∀ c lo hi, (vertsL c lo hi ++ wallsL c lo hi).length ≤ 2 * hi + 1 := fun c lo hi => by
     rw [List.length_append, vertsL, wallsL, List.length_map, List.length_map, List.length_range, List.length_range]; omega
   have e0 := hl (c + 0) (endI s c r 0) (endI s c (r + 1) 0)
   have e1 := hl (c + 1) (endI s c r 1) (endI s c (r + 1) 1)
   simp only at *
   unfold sideL
   rw [List.length_append (bs := _ ++ _), List.length_append (bs := vertsL (c + 1) _ _ ++ wallsL (c + 1) _ _)]
   simp only [List.length_cons, List.length_nil]
   omega
theorem c_slFaces (s : Sl) (x : Cel) (hs : s.small) (hz : s.sz) (hzx : s.szX) (hk : x.k < 4) (hx : (x.r : Int) < cntK s x.k x.c) (hf : FcOk s x) :
   FnM PP f_slab_Faces [s.V, x.V] (facts s.F) (retsT t_api_Cell 3 (facesL s x).length (rowV Cel.C (facesL s x)) (.int .i64 0)) := by
 refine FnM.ofS TBgood mixed h_slab_Faces rfl rfl (Nat.le_of_ble_eq_true rfl) s.F_ok (fun w l st E w' hp hm => postT_ok hp hm) ?_
 intro w hw
 have hC := c_fcAll s x hs hz hzx hk hx hf
 have his := c_slIs s x hs ⟨hk, (col_small hs hk hx).1⟩
 rw [decide_eq_true hx] at his
 obtain ⟨L, hL⟩ : ∃ L, L = facesL s x := ⟨_, rfl⟩
 rw [← hL] at hC ⊢
 obtain ⟨k, c, r⟩ := x
 have hk' : k = 0 ∨ k = 1 ∨ k = 2 ∨ k = 3 := by have : k < 4 := hk; omega
 refine WPS.peel TBgood mixed ?_
 conv => whnf
 refine WPS.peel TBgood mixed ?_
 conv => whnf
 refine cfs his ?_
 conv => whnf
 refine WPS.seq ?_
 rcases hk' with rfl | rfl | rfl | rfl
 all_goals
   refine WPS.drawT TBgood mixed [] (10 + 4294967296) (forks 0 [1, 2, 3, 4, 5, 6, 7, 8, 9] 5 [] [[1, 2], [5], [6]]) (K := fun st => SLe ⟨w, [], b_slab_Faces.ntmps⟩ st ⟨[(4, .o (.w 17)), (5, .o (.v (.int .i64 0)))], [(17, .own t_api_Cell 3 L.length (rowV Cel.C L))], []⟩) (by kernel_rfl) ?_ ?_
   rotate_left
   · intro st hst
     refine WPS.le ?_ hst
     refine WPS.of TBgood mixed ?_
     conv => whnf
     exact ⟨17, rfl, rfl⟩
   conv => whnf
   repeat' (first
     | exact True.intro
     | exact SLe.id ⟨rfl, rfl, trivial⟩ ⟨⟨_, rfl, .refl _⟩, trivial⟩ (fun R hR => by cases hR)
     | (refine CallVC.e c_kinds.enters (CallV.facts c_kinds rfl (by simp)) kinds_ok (fun ⟨a1, a2, a3, a4⟩ hex => ?_); conv => whnf)
     | (refine CallVCd.o hC.enters (CallV.facts hC rfl (fun R hR => mem_app4 hR)) ?_; conv => whnf)
     | (refine And.intro ?_ ?_ <;> (conv => whnf))
     | (refine ⟨⟨Int.natCast_nonneg _, Int.ofNat_lt.2 hk⟩, ?_⟩; conv => whnf))
def overL (s : Sl) (x : Cel) : List Cel := (colsL s (x.c - 1) (x.c + 1 - (x.c - 1))).filter fun d => decide (x.k < d.k) && decide (x ∈ facesL s d)
theorem c_slOver (s : Sl) (x : Cel) (hs : s.small) (hz : s.sz) (hzx : s.szX) (hk : x.k < 4) (hx : (x.r : Int) < cntK s x.k x.c) (hc1 : x.c + 1 ≤ 1000000) (hf : ∀ d ∈ colsL s (x.c - 1) (x.c + 1 - (x.c - 1)), FcOk s d) (hn : (colsL s (x.c - 1) (x.c + 1 - (x.c - 1))).length ≤ 1000000000) :
   FnM PP f_slab_Over [s.V, x.V] (facts s.F) (retsT t_api_Cell 3 (overL s x).length (rowV Cel.C (overL s x)) (.int .i64 0)) := by
 refine FnM.ofS TBgood mixed h_slab_Over rfl rfl (Nat.le_of_ble_eq_true rfl) s.F_ok (post := fun l st => postT t_api_Cell 3 (overL s x).length (rowV Cel.C (overL s x)) (.int .i64 0) l st ∨ (overL s x = [] ∧ l = [.o (.v nilV), .o (.v (.int .i64 0))])) (fun w l st E w' hp hm => hp.elim (fun hp => postT_ok hp hm) (fun h => ?_)) ?_
 · obtain ⟨h1, rfl⟩ := h
   rw [h1]
   exact ⟨_, rfl, World.ownsRow_nil _ _ _ _, hm.ext.below⟩
 intro w hw
 have his := c_slIs s x hs ⟨hk, (col_small hs hk hx).1⟩
 rw [decide_eq_true hx] at his
 obtain ⟨cells, hcells⟩ : ∃ cs, cs = colsL s (x.c - 1) (x.c + 1 - (x.c - 1)) := ⟨_, rfl⟩
 have hw1 : IntKind.i64.wrap ((x.c : Int) - 1) = (x.c : Int) - 1 := wrap_i64 (by omega) (by omega)
 have hw2 : IntKind.i64.wrap ((x.c : Int) + 1) = ((x.c + 1 : Nat) : Int) := by rw [wrap_i64 (by omega) (by omega)]; rfl
 have ha := c_all s (IntKind.i64.wrap ((x.c : Int) - 1)) (IntKind.i64.wrap ((x.c : Int) + 1))
 refine WPS.peel TBgood mixed ?_
 conv => whnf
 refine WPS.peel TBgood mixed ?_
 conv => whnf
 refine cfs his ?_
 conv => whnf
 refine WPS.peel TBgood mixed ?_
 conv => whnf
 refine WPS.peel TBgood mixed ?_
 conv => whnf
 refine CallVC.e c_kinds.enters (CallV.facts c_kinds rfl (by simp)) kinds_ok (fun ⟨a1, a2, a3, a4⟩ hex => ?_)
 conv => whnf
 refine WPS.seq ?_
 refine WPS.peel TBgood mixed ?_
 conv => whnf
 refine CallVC.f3 ha.enters (CallV.facts ha rfl (by simp)) (fun b1 b2 b3 => ?_)
 conv => whnf
 refine WPS.block ?_
 obtain ⟨re0, hre0⟩ : ∃ re0, re0 = SlRes (some b1) [Value.int .i64 (IntKind.i64.wrap ((x.c : Int) - 1))] :: SlRes (some b2) [Value.int .i64 (IntKind.i64.wrap ((x.c : Int) + 1))] :: SlRes (some b3) s.C :: (kindF a1 a2 a3 a4 ++ s.F) := ⟨_, rfl⟩
 have hsq := c_all1 b1 b2 b3 s (IntKind.i64.wrap ((x.c : Int) - 1)) (x.c - 1) (x.c + 1) hs hc1 (by omega) (by rw [hw1]; split <;> omega)
 rw [← hw2, ← hcells] at hsq
 have hsub : ∀ R ∈ SlRes (some b1) [Value.int .i64 (IntKind.i64.wrap ((x.c : Int) - 1))] :: SlRes (some b2) [Value.int .i64 (IntKind.i64.wrap ((x.c : Int) + 1))] :: SlRes (some b3) s.C :: s.F, R ∈ re0 := fun R hR => by
   rw [hre0]
   simp only [List.mem_cons] at hR
   rcases hR with rfl | rfl | rfl | hR
   · exact List.mem_cons_self ..
   · exact List.mem_cons_of_mem _ (List.mem_cons_self ..)
   · exact List.mem_cons_of_mem _ (List.mem_cons_of_mem _ (List.mem_cons_self ..))
   · exact List.mem_cons_of_mem _ (List.mem_cons_of_mem _ (List.mem_cons_of_mem _ (List.mem_append_right _ hR)))
 have hsF : ∀ R ∈ s.F, R ∈ re0 := fun R hR => hsub R (List.mem_cons_of_mem _ (List.mem_cons_of_mem _ (List.mem_cons_of_mem _ hR)))
 obtain ⟨g, hg⟩ : ∃ g : Value, g = .func (.func f_slab_all_1) #[] ⟨[ptrV b1, ptrV b2, ptrV b3]⟩ := ⟨_, rfl⟩
 refine WPS.le (st' := ⟨[(2, .o (.p 2 0)), (3, .o (.p 3 0)), (6, .o (.p 6 0)), (7, .o (.p 7 0)), (21, .o (.v (.func (.func f_slab_all_1) #[] ⟨[ptrV b1, ptrV b2, ptrV b3]⟩)))],
     [(2, slM s), (3, .box (x.C.map AV.v) t_api_Cell), (6, .box [.v nilV] t_sl_api_Cell), (7, .box ((kindC a1 a2 a3 a4).map AV.v) t_ar4_slab_kind)], re0⟩) ?_ (SLe.id ⟨rfl, rfl, rfl, rfl, rfl, trivial⟩ ⟨⟨_, rfl, .refl _⟩, ⟨_, rfl, .refl _⟩, ⟨_, rfl, .refl _⟩, ⟨_, rfl, .refl _⟩, trivial⟩ (fun R hR => by rw [hre0] at hR; exact hR))
 clear hre0
 obtain ⟨p, hp⟩ : ∃ p : Cel → Bool, p = fun d => decide (x.k < d.k) && decide (x ∈ facesL s d) := ⟨_, rfl⟩
 have hov : overL s x = cells.filter p := by rw [overL, ← hcells, hp]
 rw [hov]
 rw [← hcells] at hf hn
 have hmem : ∀ d ∈ cells, d.k < 4 ∧ (d.r : Int) < cntK s d.k d.c := fun d hd => by
   rw [hcells] at hd
   obtain ⟨_, _, h3⟩ := colsL_mem hd
   exact h3
 obtain ⟨ML, hML⟩ : ∃ ML : List Cel → List (Nat × ME), ML = fun L => match L with
   | [] => [(45, slM s), (46, .box (x.C.map AV.v) t_api_Cell), (47, .box [.v nilV] t_sl_api_Cell), (48, .box ((kindC a1 a2 a3 a4).map AV.v) t_ar4_slab_kind)]
   | y :: l => [(45, slM s), (46, .box (x.C.map AV.v) t_api_Cell), (47, .box [.w 44] t_sl_api_Cell), (48, .box ((kindC a1 a2 a3 a4).map AV.v) t_ar4_slab_kind), (44, .own t_api_Cell 3 (l.length + 1) (rowV Cel.C (y :: l)))] := ⟨_, rfl⟩
 refine WPS.range TBgood mixed rfl rfl hsq hsub 4 [(2, .o (.p 45 0)), (3, .o (.p 46 0)), (6, .o (.p 47 0)), (7, .o (.p 48 0))]
   (fun i (_ : Unit) => ML ((cells.take i).filter p))
   (fun i _ => i ≤ cells.length) () (Nat.zero_le _)
   (by
     rw [show (cells.take 0).filter p = [] from rfl, hML]
     exact SLe.mk (fun k => bif Nat.beq k 45 then 2 else bif Nat.beq k 46 then 3 else bif Nat.beq k 47 then 6 else bif Nat.beq k 48 then 7 else k) ⟨rfl, rfl, rfl, rfl, trivial⟩ ⟨⟨_, rfl, .refl _⟩, ⟨_, rfl, .refl _⟩, ⟨_, rfl, .refl _⟩, ⟨_, rfl, .refl _⟩, trivial⟩ rfl (fun R hR => hR))
   (by rw [show (cells.take 0).filter p = [] from rfl, hML]; rfl)
   (fun i j _ => by rw [hML]; cases (cells.take i).filter p <;> exact ⟨rfl, rfl⟩) rfl (fun x hx => by obtain ⟨e, _, rfl⟩ := List.mem_map.1 hx; rfl) rfl ?_ ?_
 · intro W1 X i j Rx hi _
   rw [List.length_map] at hi
   obtain ⟨d, hd⟩ : ∃ d, cells[i]? = some d := ⟨_, List.getElem?_eq_getElem hi⟩
   rw [celXs_at hd]
   have hdm := List.mem_of_getElem? hd
   obtain ⟨hd4, hdr⟩ := hmem d hdm
   have htk : (cells.take (i + 1)).filter p = (cells.take i).filter p ++ (if p d then [d] else []) := by
     rw [take_snoc' hd, List.filter_append]
     congr 1
     rw [List.filter_cons]; rfl
   have hFl : ((cells.take i).filter p).length ≤ i := Nat.le_trans (List.length_filter_le _ _) (by rw [List.length_take]; omega)
   rw [htk]
   generalize (cells.take i).filter p = L at hFl
   have hfc := c_fcAll s d hs hz hzx hd4 hdr (hf d hdm)
   have hfl := facesL_len hs hd4 (hf d hdm)
   have hpd : p d = (decide (x.k < d.k) && decide (x ∈ facesL s d)) := by rw [hp]
   obtain ⟨F, hF⟩ : ∃ F, F = facesL s d := ⟨_, rfl⟩
   rw [← hF] at hfc hfl hpd
   have hct : ∀ A c, F.length ≤ c → FnM PP f_slices_Contains_sl_api_Cell_api_Cell [.slice A F.length c, x.V] (facts [SlRes A (rowV Cel.C F)]) (retsV (.bool (decide (x ∈ F)))) := fun A c _ => c_ContainsCel A c F x hfl
   have n0 : ML [] = [(45, slM s), (46, .box (x.C.map AV.v) t_api_Cell), (47, .box [.v nilV] t_sl_api_Cell), (48, .box ((kindC a1 a2 a3 a4).map AV.v) t_ar4_slab_kind)] := by rw [hML]
   have n1 : ∀ y l, ML (y :: l) = [(45, slM s), (46, .box (x.C.map AV.v) t_api_Cell), (47, .box [.w 44] t_sl_api_Cell), (48, .box ((kindC a1 a2 a3 a4).map AV.v) t_ar4_slab_kind), (44, .own t_api_Cell 3 (l.length + 1) (rowV Cel.C (y :: l)))] := fun y l => by rw [hML]
   clear hML
   have hil : i < 1000000000 := by omega
   rcases Nat.lt_or_ge x.k d.k with hkk | hkk
   rotate_left
   · have hpn : ¬ p d = true := by rw [hpd]; simp only [Bool.and_eq_true, decide_eq_true_eq]; exact fun h => by omega
     rw [if_neg hpn, List.append_nil]
     clear hpd hpn hfc htk hd hdm hdr
     obtain ⟨k, cc, r⟩ := d
     have hk' : k = 0 ∨ k = 1 ∨ k = 2 ∨ k = 3 := by have : k < 4 := hd4; omega
     rcases L with _ | ⟨y, l⟩
     · rw [n0]
       rcases hk' with rfl | rfl | rfl | rfl
       all_goals
         conv => whnf
         refine ⟨rfl, fun Ry => ?_⟩
         conv => whnf
         refine DrawVC.quiet (by kernel_rfl) ?_
         conv => whnf
         try refine br_false (decide_eq_false (fun h => Nat.not_le.2 (Int.ofNat_lt.1 h) hkk)) ?_
         try conv => whnf
         exact ⟨(), by omega, SLe.id trivial ⟨⟨_, rfl, .refl _⟩, ⟨_, rfl, .refl _⟩, ⟨_, rfl, .refl _⟩, ⟨_, rfl, .refl _⟩, trivial⟩ (fun R hR => hR)⟩
     · rw [n1]
       rcases hk' with rfl | rfl | rfl | rfl
       all_goals
         conv => whnf
         refine ⟨rfl, fun Ry => ?_⟩
         conv => whnf
         refine DrawVC.quiet (by kernel_rfl) ?_
         conv => whnf
         try refine br_false (decide_eq_false (fun h => Nat.not_le.2 (Int.ofNat_lt.1 h) hkk)) ?_
         try conv => whnf
         exact ⟨(), by omega, SLe.id trivial ⟨⟨_, rfl, .refl _⟩, ⟨_, rfl, .refl _⟩, ⟨_, rfl, .refl _⟩, ⟨_, rfl, .refl _⟩, ⟨_, rfl, .refl _⟩, trivial⟩ (fun R hR => hR)⟩
   rw [decide_eq_true hkk, Bool.true_and] at hpd
   rw [hpd]
   clear hpd htk hd hdm hdr
   obtain ⟨pv, hpv⟩ : ∃ pv, pv = decide (x ∈ F) := ⟨_, rfl⟩
   rw [← hpv] at hct ⊢
   clear hpv
   obtain ⟨k, cc, r⟩ := d
   have hk' : k = 1 ∨ k = 2 ∨ k = 3 := by have : k < 4 := hd4; have : x.k < k := hkk; omega
   rcases L with _ | ⟨y, l⟩
   · rw [n0]
     rcases hk' with rfl | rfl | rfl
     all_goals
       conv => whnf
       refine ⟨rfl, fun Ry => ?_⟩
       conv => whnf
       refine DrawVC.quiet (by kernel_rfl) ?_
       conv => whnf
       refine br_true (decide_eq_true (Int.ofNat_lt.2 hkk)) ?_
       conv => whnf
       refine ⟨⟨Int.natCast_nonneg _, Int.ofNat_lt.2 hd4⟩, ?_⟩
       conv => whnf
       refine CallVCd.o hfc.enters (CallV.facts hfc rfl (fun R hR => List.mem_cons_of_mem _ (hsF R hR))) ?_
       conv => whnf
       refine CallVCd.v (hct none _ (Nat.le_refl _)).enters (CallV.sl1 (x := .o (.w 36)) (fun z => [z, x.V]) (RdA.own rfl) (List.mem_cons_self ..) (fun _ => rfl) hct) ?_
       cases pv with
       | false =>
         conv => whnf
         refine ⟨(), by omega, ?_⟩
         rw [if_neg (by decide), List.append_nil, n0]
         exact SLe.id trivial ⟨⟨_, rfl, .refl _⟩, ⟨_, rfl, .refl _⟩, ⟨_, rfl, .refl _⟩, ⟨_, rfl, .refl _⟩, trivial⟩ (fun R hR => hR)
       | true =>
         conv => whnf
         refine ⟨by show 0 + 1 ≤ 9223372036854775807 ∧ (0 + 1) * 24 ≤ 140737488355328; omega, ?_⟩
         conv => whnf
         refine ⟨(), by omega, ?_⟩
         rw [if_pos rfl, List.nil_append, n1]
         refine SLe.mk (fun k => bif Nat.beq k 44 then 43 else k) trivial ⟨⟨_, rfl, .refl _⟩, ⟨_, rfl, .refl _⟩, ⟨_, rfl, .refl _⟩, ⟨_, rfl, .refl _⟩, ⟨_, rfl, ?_⟩, trivial⟩ rfl (fun R hR => hR) (.inr (fun j => ren_hi (Nat.le_of_ble_eq_true rfl)))
         exact .refl _
   · rw [n1]
     rcases hk' with rfl | rfl | rfl
     all_goals
       conv => whnf
       refine ⟨rfl, fun Ry => ?_⟩
       conv => whnf
       refine DrawVC.quiet (by kernel_rfl) ?_
       conv => whnf
       refine br_true (decide_eq_true (Int.ofNat_lt.2 hkk)) ?_
       conv => whnf
       refine ⟨⟨Int.natCast_nonneg _, Int.ofNat_lt.2 hd4⟩, ?_⟩
       conv => whnf
       refine CallVCd.o hfc.enters (CallV.facts hfc rfl (fun R hR => List.mem_cons_of_mem _ (hsF R hR))) ?_
       conv => whnf
       refine CallVCd.v (hct none _ (Nat.le_refl _)).enters (CallV.sl1 (x := .o (.w 36)) (fun z => [z, x.V]) (RdA.own rfl) (List.mem_cons_self ..) (fun _ => rfl) hct) ?_
       cases pv with
       | false =>
         conv => whnf
         refine ⟨(), by omega, ?_⟩
         rw [if_neg (by decide), List.append_nil, n1]
         exact SLe.id trivial ⟨⟨_, rfl, .refl _⟩, ⟨_, rfl, .refl _⟩, ⟨_, rfl, .refl _⟩, ⟨_, rfl, .refl _⟩, ⟨_, rfl, .refl _⟩, trivial⟩ (fun R hR => hR)
       | true =>
         conv => whnf
         refine ⟨by show (l.length + 1) + 1 ≤ 9223372036854775807 ∧ ((l.length + 1) + 1) * 24 ≤ 140737488355328; have : (y :: l).length ≤ i := hFl; simp only [List.length_cons] at this; omega, ?_⟩
         conv => whnf
         refine ⟨(), by omega, ?_⟩
         rw [if_pos rfl, List.cons_append, n1]
         refine SLe.mk (fun k => bif Nat.beq k 44 then 43 else k) trivial ⟨⟨_, rfl, .refl _⟩, ⟨_, rfl, .refl _⟩, ⟨_, rfl, .refl _⟩, ⟨_, rfl, .refl _⟩, ⟨_, rfl, ?_⟩, trivial⟩ rfl (fun R hR => hR) (.inr (fun j => ren_hi (Nat.le_of_ble_eq_true rfl)))
         have e : ∀ d : Cel, (l ++ [d]).length + 1 = (l.length + 1) + 1 := fun d => by simp
         rw [e, ← List.cons_append, ← cel1]
         exact .refl _
 · intro j _
   rw [show (celXs cells).length = cells.length from List.length_map .., List.take_of_length_le (Nat.le_refl _)]
   have n0 : ML [] = [(45, slM s), (46, .box (x.C.map AV.v) t_api_Cell), (47, .box [.v nilV] t_sl_api_Cell), (48, .box ((kindC a1 a2 a3 a4).map AV.v) t_ar4_slab_kind)] := by rw [hML]
   have n1 : ∀ y l, ML (y :: l) = [(45, slM s), (46, .box (x.C.map AV.v) t_api_Cell), (47, .box [.w 44] t_sl_api_Cell), (48, .box ((kindC a1 a2 a3 a4).map AV.v) t_ar4_slab_kind), (44, .own t_api_Cell 3 (l.length + 1) (rowV Cel.C (y :: l)))] := fun y l => by rw [hML]
   generalize cells.filter p = L
   refine WPS.of TBgood mixed ?_
   rcases L with _ | ⟨y, l⟩
   · rw [n0]
     conv => whnf
     exact .inr ⟨rfl, rfl⟩
   · rw [n1]
     conv => whnf
     exact .inl ⟨44, rfl, rfl⟩
end Go.Sx
end
section
set_option maxRecDepth 10000
set_option maxHeartbeats 1000000
namespace Go.Sx
theorem idx_at {l : List Rat} {h : Rat} (hm : h ∈ l) : l[l.idxOf h]? = some h := by
 have hlt := List.idxOf_lt_length_of_mem hm
 rw [List.getElem?_eq_getElem hlt, List.getElem_idxOf]
theorem side_in {s : Sl} (hs : s.is) (hy : s.lo.y < s.hi.y) {c : Nat} {X Y : Rat} (hN : Nx s c X Y) {t : Ln Nat} (ht : s.S.xs[c]? = some t) {r : Nat} (hr : r < t.xs.length + 2) {x h : Rat} (hx : x = X ∨ x = Y) (hh : (hgtsL s t x)[r]? = some h) : h ∈ ysL s.lo s.hi (pcsL s.lo s.hi s.sg.xs) x := by
 have hXY := hN.lt hs
 have hm := List.mem_of_getElem? hh
 rw [hgtsL] at hm
 rcases List.mem_cons.1 hm with rfl | hm
 · rw [ysL, ascL_mem]; exact List.mem_cons_self ..
 rcases List.mem_append.1 hm with hm | hm
 · obtain ⟨k, hk, rfl⟩ := List.mem_map.1 hm
   obtain ⟨p, hp⟩ := (strip_bel hs hy hN ht).2 k hk
   exact ys_of_ed hp (by rcases hx with rfl | rfl <;> grind) (by rcases hx with rfl | rfl <;> grind)
 · rw [List.mem_singleton.1 hm, ysL, ascL_mem]; exact List.mem_cons_of_mem _ (List.mem_cons_self ..)
theorem end_at {s : Sl} (hs : s.is) (hy : s.lo.y < s.hi.y) {c r sd : Nat} {X Y : Rat} (hN : Nx s c X Y) {t : Ln Nat} (ht : s.S.xs[c]? = some t) (hr : r < t.xs.length + 2) (hsd : sd < 2) : ∃ Z l h, (Z = X ∧ sd = 0 ∨ Z = Y ∧ sd = 1) ∧ s.X.xs[c + sd]? = some Z ∧ s.L.xs[c + sd]? = some l ∧ (hgtsL s t Z)[r]? = some h ∧ l.xs[endI s c r sd]? = some h ∧ Asc l.xs := by
 obtain ⟨e1, e2, e3⟩ := Sl.is_len hs
 obtain ⟨a, b, g1, g2, _, _, _⟩ := hgts_row hs hy hN ht hr
 have h1 := (List.getElem?_eq_some_iff.1 hN.x).1
 have h2 := (List.getElem?_eq_some_iff.1 hN.y).1
 obtain ⟨Z, h, hZ, hZx, hh⟩ : ∃ Z h, (Z = X ∧ sd = 0 ∨ Z = Y ∧ sd = 1) ∧ s.X.xs[c + sd]? = some Z ∧ (hgtsL s t Z)[r]? = some h := by
   match sd, hsd with
   | 0, _ => exact ⟨X, a, .inl ⟨rfl, rfl⟩, hN.x, g1⟩
   | 1, _ => exact ⟨Y, b, .inr ⟨rfl, rfl⟩, hN.y, g2⟩
 obtain ⟨l, hl⟩ : ∃ l, s.L.xs[c + sd]? = some l := ⟨_, List.getElem?_eq_getElem (by omega)⟩
 have hm : h ∈ l.xs := by
   rw [line_at hs hZx hl]
   exact side_in hs hy hN ht hr (by rcases hZ with ⟨h, _⟩ | ⟨h, _⟩; exact .inl h; exact .inr h) hh
 refine ⟨Z, l, h, hZ, hZx, hl, hh, ?_, (ys_ranges hs (Rat.le_of_lt hy) hZx hl).asc⟩
 have : endI s c r sd = l.xs.idxOf h := by
   unfold endI
   rw [getD_of' hl, getD_of' ht, getD_of' hZx]
   show l.xs.idxOf ((hgtsL s t Z).getD r 0) = _
   rw [getD_of' hh]
 rw [this]; exact idx_at hm
theorem end_ok {s : Sl} (hs : s.is) (hy : s.lo.y < s.hi.y) {c r sd : Nat} {X Y : Rat} (hN : Nx s c X Y) {t : Ln Nat} (ht : s.S.xs[c]? = some t) (hr : r < t.xs.length + 2) (hsd : sd < 2) : EndOk s c r sd := by
 obtain ⟨Z, l, h, _, hZ, hl, hh, hi, ha⟩ := end_at hs hy hN ht hr hsd
 refine ⟨⟨t, ht⟩, ⟨Z, hZ⟩, ⟨l, hl⟩, fun t' X' l' h1 h2 h3 => ?_⟩
 rw [ht] at h1; cases h1
 rw [hZ] at h2; cases h2
 rw [hl] at h3; cases h3
 have e : (onP s t r Z).y = h := by show (hgtsL s t Z).getD r 0 = h; rw [getD_of' hh]
 rw [e]
 refine ⟨hi, fun j hj hj2 => ?_⟩
 have := asc_get ha hj2 hi hj; grind
theorem end_mono {s : Sl} (hs : s.is) (hy : s.lo.y < s.hi.y) {c r sd : Nat} {X Y : Rat} (hN : Nx s c X Y) {t : Ln Nat} (ht : s.S.xs[c]? = some t) (hr : r + 1 < t.xs.length + 2) (hsd : sd < 2) : endI s c r sd ≤ endI s c (r + 1) sd := by
 obtain ⟨Z, l, h, hZ1, hZ, hl, hh, hi, ha⟩ := end_at hs hy hN ht (show r < t.xs.length + 2 by omega) hsd
 obtain ⟨Z', l', h', hZ1', hZ', hl', hh', hi', _⟩ := end_at hs hy hN ht hr hsd
 rw [hZ] at hZ'; cases hZ'
 rw [hl] at hl'; cases hl'
 obtain ⟨a, b, g1, g2, _, _, _⟩ := hgts_row hs hy hN ht (r := r) (by omega)
 obtain ⟨a', b', g1', g2', _, _, _⟩ := hgts_row hs hy hN ht hr
 obtain ⟨m1, m2, _⟩ := hgts_two hs hy hN ht (show r < r + 1 by omega) g1 g2 g1' g2'
 have hle : h ≤ h' := by
   rcases hZ1 with ⟨rfl, _⟩ | ⟨rfl, _⟩
   · rw [hh] at g1; cases g1; rw [hh'] at g1'; cases g1'; exact m1
   · rw [hh] at g2; cases g2; rw [hh'] at g2'; cases g2'; exact m2
 refine Nat.not_lt.1 fun hlt => ?_
 have := asc_get ha hi' hi hlt; grind
theorem fc_ok {s : Sl} (hs : s.is) (hy : s.lo.y < s.hi.y) {x : Cel} (hk : x.k < 4) (hx : (x.r : Int) < cntK s x.k x.c) : FcOk s x := by
 obtain ⟨k, c, r⟩ := x
 have hk' : k = 0 ∨ k = 1 ∨ k = 2 ∨ k = 3 := by have : k < 4 := hk; omega
 rcases hk' with rfl | rfl | rfl | rfl
 · exact ⟨fun h => absurd h (show ¬ 2 ≤ 0 by decide), fun h => absurd h (show ¬ 0 = 3 by decide)⟩
 · exact ⟨fun h => absurd h (show ¬ 2 ≤ 1 by decide), fun h => absurd h (show ¬ 1 = 3 by decide)⟩
 · obtain ⟨t, X, Y, h1, h2, h3, h4, h5⟩ := stripN_inv (show (r : Int) < stripN s 2 c from hx)
   exact ⟨fun _ => ⟨end_ok hs hy ⟨h2, h3⟩ h1 h4 (by decide), end_ok hs hy ⟨h2, h3⟩ h1 h4 (by decide)⟩, fun h => absurd h (show ¬ 2 = 3 by decide)⟩
 · obtain ⟨t, X, Y, h1, h2, h3, h4, h5⟩ := stripN_inv (show (r : Int) < stripN s 1 c from hx)
   exact ⟨fun _ => ⟨end_ok hs hy ⟨h2, h3⟩ h1 (by show r < _; omega) (by decide), end_ok hs hy ⟨h2, h3⟩ h1 (by show r < _; omega) (by decide)⟩,
     fun _ => ⟨⟨end_ok hs hy ⟨h2, h3⟩ h1 (by show r + 1 < _; omega) (by decide), end_ok hs hy ⟨h2, h3⟩ h1 (by show r + 1 < _; omega) (by decide)⟩, end_mono hs hy ⟨h2, h3⟩ h1 (by show r + 1 < _; omega) (by decide), end_mono hs hy ⟨h2, h3⟩ h1 (by show r + 1 < _; omega) (by decide)⟩⟩
theorem lineN_at {s : Sl} (hs : s.is) {c d : Nat} {l : Ln Rat} (hl : s.L.xs[c]? = some l) : lineN s d c = (l.xs.length : Int) - d := by
 obtain ⟨e1, e2, e3⟩ := Sl.is_len hs
 have := (List.getElem?_eq_some_iff.1 hl).1
 unfold lineN
 rw [if_pos ⟨this, by omega⟩, List.getD_eq_getElem?_getD, List.getElem?_map, hl]; rfl
theorem stripN_at {s : Sl} (hs : s.is) {c d : Nat} {t : Ln Nat} (ht : s.S.xs[c]? = some t) : stripN s d c = (t.xs.length : Int) + d := by
 obtain ⟨e1, e2, e3⟩ := Sl.is_len hs
 have := (List.getElem?_eq_some_iff.1 ht).1
 unfold stripN
 rw [if_pos ⟨this, by omega, by omega⟩, List.getD_eq_getElem?_getD, List.getElem?_map, ht]; rfl
structure FaceOk (s : Sl) (x f : Cel) : Prop where
 k4 : f.k < 4
 cnt : (f.r : Int) < cntK s f.k f.c
 kind : f.k < x.k ∧ ¬ (f.k = 1 ∧ x.k = 2)
 col : f.c = x.c ∨ f.c = x.c + 1
 mid : inC s x ((cenP s x).at (cenP s f) (1 / 2))
theorem cen_line0 {s : Sl} {c r : Nat} {l : Ln Rat} {X y : Rat} (h1 : s.L.xs[c]? = some l) (h2 : s.X.xs[c]? = some X) (hy : l.xs[r]? = some y) : cenP s ⟨0, c, r⟩ = ⟨X, y⟩ := by
 simp only [cenP]; rw [getD_of' h2, getD_of' (show (s.L.xs.map (·.xs))[c]? = some l.xs by rw [List.getElem?_map, h1]; rfl), getD_of' hy]
theorem cen_line1 {s : Sl} {c r : Nat} {l : Ln Rat} {X y y' : Rat} (h1 : s.L.xs[c]? = some l) (h2 : s.X.xs[c]? = some X) (hy : l.xs[r]? = some y) (hy' : l.xs[r + 1]? = some y') : cenP s ⟨1, c, r⟩ = ⟨X, (y + y') / 2⟩ := by
 simp only [cenP, midV]; rw [getD_of' h2, getD_of' (show (s.L.xs.map (·.xs))[c]? = some l.xs by rw [List.getElem?_map, h1]; rfl), getD_of' hy, getD_of' hy']
 congr 1; grind
theorem faces_ok {s : Sl} (hs : s.is) (hy : s.lo.y < s.hi.y) {x : Cel} (hk : x.k < 4) (hx : (x.r : Int) < cntK s x.k x.c) : ∀ f ∈ facesL s x, FaceOk s x f := by
 intro f hf
 obtain ⟨cin, crn⟩ := center_in hs hy hk hx
 have sym : ∀ a b : V, a.at b (1 / 2) = b.at a (1 / 2) := fun a b => by rw [at_half, at_half]; congr 1 <;> grind
 obtain ⟨k, c, r⟩ := x
 have hk' : k = 0 ∨ k = 1 ∨ k = 2 ∨ k = 3 := by have : k < 4 := hk; omega
 rcases hk' with rfl | rfl | rfl | rfl
 · cases hf
 · obtain ⟨l, X, h1, h2, h3⟩ := lineN_inv (show (r : Int) < lineN s 1 c from hx)
   obtain ⟨y, hy'⟩ : ∃ y, l.xs[r]? = some y := ⟨_, List.getElem?_eq_getElem (by omega)⟩
   obtain ⟨y', hy''⟩ : ∃ y, l.xs[r + 1]? = some y := ⟨_, List.getElem?_eq_getElem (by omega)⟩
   rw [show crnL s ⟨1, c, r⟩ = [⟨X, y⟩, ⟨X, y'⟩] by simp only [crnL]; rw [getD_of' h2, getD_of' (show (s.L.xs.map (·.xs))[c]? = some l.xs by rw [List.getElem?_map, h1]; rfl), getD_of' hy', getD_of' hy'']] at crn
   have hf : f ∈ ([⟨0, c, r⟩, ⟨0, c, r + 1⟩] : List Cel) := hf
   simp only [List.mem_cons, List.not_mem_nil, or_false] at hf
   rcases hf with rfl | rfl
   · exact ⟨by show _ < 4; simp only; decide, by show (r : Int) < lineN s 0 c; rw [lineN_at hs h1]; omega, ⟨Nat.zero_lt_one, fun h => by cases h.1⟩, .inl rfl, by rw [cen_line0 h1 h2 hy', sym]; exact crn _ (List.mem_cons_self ..)⟩
   · exact ⟨by show _ < 4; simp only; decide, by show ((r + 1 : Nat) : Int) < lineN s 0 c; rw [lineN_at hs h1]; omega, ⟨Nat.zero_lt_one, fun h => by cases h.1⟩, .inl rfl, by rw [cen_line0 h1 h2 hy'', sym]; exact crn _ (List.mem_cons_of_mem _ (List.mem_cons_self ..))⟩
 · obtain ⟨t, X, Y, h1, h2, h3, h4, h5⟩ := stripN_inv (show (r : Int) < stripN s 2 c from hx)
   have hN : Nx s c X Y := ⟨h2, h3⟩
   obtain ⟨a, b, g1, g2, _, _, _⟩ := hgts_row hs hy hN h1 (r := r) (by omega)
   rw [show crnL s ⟨2, c, r⟩ = [⟨X, a⟩, ⟨Y, b⟩] by simp only [crnL, onP]; rw [getD_of' h2, getD_of' h3, getD_of' h1, getD_of' g1, getD_of' g2]] at crn
   obtain ⟨Z0, l0, w0, hz0, q1, q2, q3, q4, _⟩ := end_at hs hy hN h1 (show r < t.xs.length + 2 by omega) (show 0 < 2 by decide)
   obtain ⟨Z1, l1, w1, hz1, p1, p2, p3, p4, _⟩ := end_at hs hy hN h1 (show r < t.xs.length + 2 by omega) (show 1 < 2 by decide)
   rw [Nat.add_zero] at q1 q2
   have e0 : Z0 = X := by rcases hz0 with ⟨h, _⟩ | ⟨_, h⟩; exact h; cases h
   have e1 : Z1 = Y := by rcases hz1 with ⟨_, h⟩ | ⟨h, _⟩; cases h; exact h
   subst e0; subst e1
   rw [g1] at q3; cases q3
   rw [g2] at p3; cases p3
   have b0 := (List.getElem?_eq_some_iff.1 q4).1
   have b1 := (List.getElem?_eq_some_iff.1 p4).1
   have hf : f ∈ ([⟨0, c, endI s c r 0⟩, ⟨0, c + 1, endI s c r 1⟩] : List Cel) := hf
   simp only [List.mem_cons, List.not_mem_nil, or_false] at hf
   rcases hf with rfl | rfl
   · exact ⟨by show _ < 4; simp only; decide, by show ((endI s c r 0 : Nat) : Int) < lineN s 0 c; rw [lineN_at hs q2]; omega, ⟨show 0 < 2 by decide, fun h => by cases h.1⟩, .inl rfl, by rw [cen_line0 q2 q1 q4, sym]; exact crn _ (List.mem_cons_self ..)⟩
   · exact ⟨by show _ < 4; simp only; decide, by show ((endI s c r 1 : Nat) : Int) < lineN s 0 (c + 1); rw [lineN_at hs p2]; omega, ⟨show 0 < 2 by decide, fun h => by cases h.1⟩, .inr rfl, by rw [cen_line0 p2 p1 p4, sym]; exact crn _ (List.mem_cons_of_mem _ (List.mem_cons_self ..))⟩
 · obtain ⟨t, X, Y, h1, h2, h3, h4, h5⟩ := stripN_inv (show (r : Int) < stripN s 1 c from hx)
   have hN : Nx s c X Y := ⟨h2, h3⟩
   have hXY := hN.lt hs
   obtain ⟨a, b, g1, g2, _, _, g5⟩ := hgts_row hs hy hN h1 (r := r) (by omega)
   obtain ⟨a', b', g1', g2', _, _, g5'⟩ := hgts_row hs hy hN h1 (r := r + 1) (by omega)
   obtain ⟨m1, m2, m3⟩ := hgts_two hs hy hN h1 (show r < r + 1 by omega) g1 g2 g1' g2'
   obtain ⟨m, gm, gl⟩ := g5 ((X + Y) / 2) (by grind) (by grind)
   obtain ⟨m', gm', gl'⟩ := g5' ((X + Y) / 2) (by grind) (by grind)
   have em : m = (a + b) / 2 := mul_cancel_eq (show 0 < Y - X by grind) (by grind)
   have em' : m' = (a' + b') / 2 := mul_cancel_eq (show 0 < Y - X by grind) (by grind)
   have e0 : cenP s ⟨3, c, r⟩ = ⟨(X + Y) / 2, (a + b + a' + b') / 4⟩ := by
     simp only [cenP, onP, midV]; rw [getD_of' h2, getD_of' h3, getD_of' h1, getD_of' gm, getD_of' gm', em, em']
     congr 1 <;> grind
   have ecr : crnL s ⟨3, c, r⟩ = unw (ddp [⟨X, a⟩, ⟨Y, b⟩, ⟨Y, b'⟩, ⟨X, a'⟩]) := by simp only [crnL, crn3, onP]; rw [getD_of' h2, getD_of' h3, getD_of' h1, getD_of' g1, getD_of' g2, getD_of' g1', getD_of' g2']
   have hW := Rat.mul_pos (show 0 < Y - X by grind) (show 0 < a' + b' - a - b by grind)
   have fin : ∀ q : V, (q.x = X ∧ a ≤ q.y ∧ q.y ≤ a') ∨ (q.x = Y ∧ b ≤ q.y ∧ q.y ≤ b') ∨ (q.x = (X + Y) / 2 ∧ (a + b) / 2 ≤ q.y ∧ q.y ≤ (a' + b') / 2) → inC s ⟨3, c, r⟩ ((cenP s ⟨3, c, r⟩).at q (1 / 2)) := fun q hq => by
     rw [← conB_in hs hy hk hx, ecr, e0, at_half]
     show conB 3 _ _ = true
     rw [con3 hXY m1 m2 m3]
     obtain ⟨qx, qy⟩ := q
     simp only at hq ⊢
     rcases hq with ⟨rfl, k1, k2⟩ | ⟨rfl, k1, k2⟩ | ⟨rfl, k1, k2⟩
     · have w1 := Rat.mul_nonneg (show 0 ≤ Y - qx by grind) (show 0 ≤ qy - a by grind)
       have w2 := Rat.mul_nonneg (show 0 ≤ Y - qx by grind) (show 0 ≤ a' - qy by grind)
       exact ⟨by grind, by grind, by grind, by grind⟩
     · have w1 := Rat.mul_nonneg (show 0 ≤ qx - X by grind) (show 0 ≤ qy - b by grind)
       have w2 := Rat.mul_nonneg (show 0 ≤ qx - X by grind) (show 0 ≤ b' - qy by grind)
       exact ⟨by grind, by grind, by grind, by grind⟩
     · have w1 := Rat.mul_nonneg (show 0 ≤ Y - X by grind) (show 0 ≤ qy - (a + b) / 2 by grind)
       have w2 := Rat.mul_nonneg (show 0 ≤ Y - X by grind) (show 0 ≤ (a' + b') / 2 - qy by grind)
       exact ⟨by grind, by grind, by grind, by grind⟩
   have side : ∀ sd, sd < 2 → f ∈ sideL s c r sd → FaceOk s ⟨3, c, r⟩ f := fun sd hsd hf => by
     obtain ⟨Z, l, h, hz, q1, q2, q3, q4, qa⟩ := end_at hs hy hN h1 (show r < t.xs.length + 2 by omega) hsd
     obtain ⟨Z', l', h', hz', q1', q2', q3', q4', _⟩ := end_at hs hy hN h1 (show r + 1 < t.xs.length + 2 by omega) hsd
     rw [q1] at q1'; cases q1'
     rw [q2] at q2'; cases q2'
     have bb := (List.getElem?_eq_some_iff.1 q4').1
     have bd : ∀ {j : Nat} {y : Rat}, endI s c r sd ≤ j → j ≤ endI s c (r + 1) sd → l.xs[j]? = some y → h ≤ y ∧ y ≤ h' := fun {j y} k1 k2 k3 => by
       constructor
       · rcases Nat.lt_or_eq_of_le k1 with k | k
         · exact Rat.le_of_lt (asc_get qa q4 k3 k)
         · subst k; rw [q4] at k3; cases k3; exact Rat.le_refl
       · rcases Nat.lt_or_eq_of_le k2 with k | k
         · exact Rat.le_of_lt (asc_get qa k3 q4' k)
         · subst k; rw [q4'] at k3; cases k3; exact Rat.le_refl
     have hq : ∀ y, h ≤ y → y ≤ h' → inC s ⟨3, c, r⟩ ((cenP s ⟨3, c, r⟩).at ⟨Z, y⟩ (1 / 2)) := fun y k1 k2 => by
       refine fin _ ?_
       rcases hz with ⟨rfl, _⟩ | ⟨rfl, _⟩
       · rw [g1] at q3; cases q3; rw [g1'] at q3'; cases q3'; exact .inl ⟨rfl, k1, k2⟩
       · rw [g2] at q3; cases q3; rw [g2'] at q3'; cases q3'; exact .inr (.inl ⟨rfl, k1, k2⟩)
     have hcol : c + sd = c ∨ c + sd = c + 1 := by omega
     rcases List.mem_append.1 hf with hf | hf
     · obtain ⟨i, hi, rfl⟩ := List.mem_map.1 hf
       have hi := List.mem_range.1 hi
       obtain ⟨y, hyy⟩ : ∃ y, l.xs[endI s c r sd + i]? = some y := ⟨_, List.getElem?_eq_getElem (by omega)⟩
       obtain ⟨k1, k2⟩ := bd (by omega) (by omega) hyy
       exact ⟨by show 0 < 4; decide, by show ((endI s c r sd + i : Nat) : Int) < lineN s 0 (c + sd); rw [lineN_at hs q2]; omega, ⟨by show 0 < 3; decide, fun h => by cases h.1⟩, hcol, by rw [cen_line0 q2 q1 hyy]; exact hq y k1 k2⟩
     · obtain ⟨i, hi, rfl⟩ := List.mem_map.1 hf
       have hi := List.mem_range.1 hi
       obtain ⟨y, hyy⟩ : ∃ y, l.xs[endI s c r sd + i]? = some y := ⟨_, List.getElem?_eq_getElem (by omega)⟩
       obtain ⟨y', hyy'⟩ : ∃ y, l.xs[endI s c r sd + i + 1]? = some y := ⟨_, List.getElem?_eq_getElem (by omega)⟩
       obtain ⟨k1, k2⟩ := bd (by omega) (by omega) hyy
       obtain ⟨k3, k4⟩ := bd (by omega) (by omega) hyy'
       exact ⟨by show 1 < 4; decide, by show ((endI s c r sd + i : Nat) : Int) < lineN s 1 (c + sd); rw [lineN_at hs q2]; omega, ⟨by show 1 < 3; decide, fun h => by cases h.2⟩, hcol, by rw [cen_line1 q2 q1 hyy hyy']; exact hq _ (by grind) (by grind)⟩
   have hf : f ∈ sideL s c r 0 ++ (([⟨2, c, r⟩, ⟨2, c, r + 1⟩] : List Cel) ++ sideL s c r 1) := hf
   rcases List.mem_append.1 hf with hf | hf
   · exact side 0 (by decide) hf
   rcases List.mem_append.1 hf with hf | hf
   · simp only [List.mem_cons, List.not_mem_nil, or_false] at hf
     rcases hf with rfl | rfl
     · refine ⟨by show _ < 4; simp only; decide, by show (r : Int) < stripN s 2 c; rw [stripN_at hs h1]; omega, ⟨by show 2 < 3; decide, fun h => by cases h.1⟩, .inl rfl, fin _ (.inr (.inr ?_))⟩
       have : cenP s ⟨2, c, r⟩ = ⟨(X + Y) / 2, m⟩ := by simp only [cenP, onP]; rw [getD_of' h2, getD_of' h3, getD_of' h1, getD_of' gm]
       rw [this]; exact ⟨rfl, by show _ ≤ m; grind, by show m ≤ _; grind⟩
     · refine ⟨by show _ < 4; simp only; decide, by show ((r + 1 : Nat) : Int) < stripN s 2 c; rw [stripN_at hs h1]; omega, ⟨by show 2 < 3; decide, fun h => by cases h.1⟩, .inl rfl, fin _ (.inr (.inr ?_))⟩
       have : cenP s ⟨2, c, r + 1⟩ = ⟨(X + Y) / 2, m'⟩ := by simp only [cenP, onP]; rw [getD_of' h2, getD_of' h3, getD_of' h1, getD_of' gm']
       rw [this]; exact ⟨rfl, by show _ ≤ m'; grind, by show m' ≤ _; grind⟩
   · exact side 1 (by decide) hf
theorem face_out {s : Sl} (hs : s.is) (hy : s.lo.y < s.hi.y) {x f : Cel} (hk : x.k < 4) (hf : FaceOk s x f) : ¬ inC s x (cenP s f) := fun h => by
 have := inC_unique hs hy hk hf.k4 h (center_in hs hy hf.k4 hf.cnt).1
 have := hf.kind.1
 subst_vars
 omega
theorem face_over {s : Sl} {x f : Cel} (hk : x.k < 4) (hx : (x.r : Int) < cntK s x.k x.c) (hm : f ∈ facesL s x) (hf : FaceOk s x f) : x ∈ overL s f := by
 refine List.mem_filter.2 ⟨colsL_mem' hk hx (by have := hf.col; omega) (by have := hf.col; omega), ?_⟩
 rw [decide_eq_true hf.kind.1, decide_eq_true hm]; rfl
theorem faces_nil {s : Sl} {x : Cel} (hk : x.k < 4) : x.k = 0 ↔ (facesL s x).length = 0 := by
 obtain ⟨k, c, r⟩ := x
 have hk' : k = 0 ∨ k = 1 ∨ k = 2 ∨ k = 3 := by have : k < 4 := hk; omega
 rcases hk' with rfl | rfl | rfl | rfl
 · exact ⟨fun _ => rfl, fun _ => rfl⟩
 · exact ⟨fun h => (by cases h), fun h => (by cases h)⟩
 · exact ⟨fun h => (by cases h), fun h => (by cases h)⟩
 · refine ⟨fun h => (by cases h), fun h => ?_⟩
   have h : (sideL s c r 0 ++ (([⟨2, c, r⟩, ⟨2, c, r + 1⟩] : List Cel) ++ sideL s c r 1)).length = 0 := h
   simp at h
end Go.Sx
end
section
/- The law of boundaries. -/
set_option maxRecDepth 10000
set_option maxHeartbeats 4000000
namespace Go.Sx
open Go Go.Proofs
theorem colsL_append (s : Sl) : ∀ (m n c : Nat), colsL s c (m + n) = colsL s c m ++ colsL s (c + m) n
 | 0, n, c => by simp [colsL]
 | m + 1, n, c => by
   rw [show m + 1 + n = (m + n) + 1 by omega, colsL, colsL, colsL_append s m n (c + 1), List.append_assoc, show c + 1 + m = c + (m + 1) by omega]
theorem colsL_le {s : Sl} {a n : Nat} (h : a + n ≤ s.X.xs.length) : (colsL s a n).length ≤ (cellsL s).length := by
 unfold cellsL
 rw [show s.X.xs.length = a + (n + (s.X.xs.length - (a + n))) by omega, colsL_append, colsL_append, List.length_append, List.length_append, Nat.zero_add]
 omega
theorem c_over' {s : Sl} (hs : s.is) (hy : s.lo.y < s.hi.y) (hsm : s.small) (hz : s.sz) (hzx : s.szX) (hcl : (cellsL s).length ≤ 1000000000) {x : Cel} (hk : x.k < 4) (hx : (x.r : Int) < cntK s x.k x.c) (hc : x.c < s.X.xs.length) :
   FnM PP f_slab_Over [s.V, x.V] (facts s.F) (retsT t_api_Cell 3 (overL s x).length (rowV Cel.C (overL s x)) (.int .i64 0)) ∧ (overL s x).length ≤ 1000000000 := by
 have hl : (colsL s (x.c - 1) (x.c + 1 - (x.c - 1))).length ≤ 1000000000 := Nat.le_trans (colsL_le (by omega)) hcl
 refine ⟨c_slOver s x hsm hz hzx hk hx (by have := hsm.1; omega) (fun d hd => ?_) hl, Nat.le_trans (List.length_filter_le _ _) hl⟩
 obtain ⟨_, _, h3, h4⟩ := colsL_mem hd
 exact fc_ok hs hy h3 h4
theorem and3 (k : Nat) (hk : k < 4) : IntKind.i64.wrap ((BitVec.ofInt IntKind.i64.bits (k : Int) &&& BitVec.ofInt IntKind.i64.bits 3).toNat : Int) = (k : Int) := by
 have hk' : k = 0 ∨ k = 1 ∨ k = 2 ∨ k = 3 := by omega
 rcases hk' with rfl | rfl | rfl | rfl <;> decide
theorem w_SlabBoundaries (b : Bx) (A : Option Addr) (c : Nat) (l : List (Pt × Pt)) (hlc : l.length ≤ c) (u : Fin 65536) :
   FnM PP f_narrowslaw16_SlabBoundaries [bxV b, .slice A l.length c, .int .u16 ((u.val : Nat) : Int)] (facts [SlRes A (rowV sgC l)]) (retsV (.bool true)) := by
 refine FnS.of TBgood mixed h_narrowslaw16_SlabBoundaries rfl rfl (Nat.le_of_ble_eq_true rfl) (by simp [SlRes.ok]) ?_
 intro w hw
 by_cases hno : grt16 b l = true ∨ 8 < l.length ∨ bldE b l ≠ 0
 · have hn := c_lbuildNo b A c l hno
   conv => whnf
   refine cfs hn ?_
   conv => whnf
   refine cf c_awake16 ?_
   conv => whnf
   exact postV_one rfl
 obtain ⟨lo, hi, E, hB⟩ := Bld.of hno
 obtain ⟨rfl, rfl, hg, hlen, hx, hy, hlo, hhi, hE⟩ := hB
 have hb := c_lbuildOk lo hi E A c hg hlen hx hy hE hlo hhi
 rw [List.length_map, show rowV sgC (E.map fun e => (PQ e.1, PQ e.2)) = rowV sgq E from rowV_map ..]
 conv => whnf
 refine CallVC.e hb.enters (CallV.facts hb rfl (fun R h => h)) (fun i => F'_ok i) (fun d _ => ?_)
 obtain ⟨d, e1, e2, e3, his, e5⟩ := d
 have e6 : Ln.R sgq d.sg = SlRes A (rowV sgq E) := by rw [e3]; rfl
 have hF : ∀ R ∈ d.F, R ∈ d.F' ++ [SlRes A (rowV sgq E)] := fun R hR => by
   rcases Sl.F_F' hR with h | h
   · exact List.mem_append_left _ h
   · rw [h, e6]; exact List.mem_append_right _ (List.mem_cons_self ..)
 obtain ⟨hsm, hcl⟩ := Sl.is_small his (by rw [e3]; exact hlen)
 have hdz : d.sz := ⟨fun e he => hE e (by rw [e3] at he; exact he), by rw [e1]; exact hlo, by rw [e2]; exact hhi⟩
 have hdx := Sl.is_szX his hdz
 have hce := c_slCells d hsm hcl
 have hlx : d.lo.x ≤ d.hi.x := by rw [e1, e2]; exact Rat.le_of_lt hx
 have hly : d.lo.y < d.hi.y := by rw [e1, e2]; exact hy
 obtain ⟨re, hre⟩ : ∃ re, re = d.F' ++ [SlRes A (rowV sgq E)] := ⟨_, rfl⟩
 rw [← hre] at hF
 have hF0 : ∀ R ∈ d.F, R ∈ d.F' ++ [SlRes A (rowV sgq E)] := fun R h => by have := hF R h; rw [hre] at this; exact this
 obtain ⟨cs, hcs⟩ : ∃ cs, cs = cellsL d := ⟨_, rfl⟩
 have hpos : 0 < cs.length := by
   obtain ⟨x, h4, h5⟩ := inC_exists his hlx hly (p := d.lo) ⟨⟨Rat.le_refl, hlx⟩, Rat.le_refl, Rat.le_of_lt hly⟩
   have := inC_mem his h4 h5
   rw [← hcs] at this
   exact List.length_pos_of_mem this
 rw [← hcs] at hce
 obtain ⟨k, hk⟩ : ∃ k, k = u.val % cs.length := ⟨_, rfl⟩
 have hcl' : cs.length ≤ 1000000000 := by rw [hcs]; exact hcl
 have hkn : k < cs.length := by rw [hk]; exact Nat.mod_lt _ (by omega)
 obtain ⟨x, hx'⟩ : ∃ x, cs[k]? = some x := ⟨_, List.getElem?_eq_getElem (by omega)⟩
 have hxm : x ∈ cellsL d := by rw [← hcs]; exact List.mem_of_getElem? hx'
 obtain ⟨x1, x2, x3⟩ := cellsL_mem hxm
 have hfx := faces_ok his hly x2 x3
 have hfo := fc_ok his hly x2 x3
 obtain ⟨cin, _⟩ := center_in his hly x2 x3
 have hct := c_slCenter d x hsm hdz hdx x2 x3
 have hco := c_slCorners d x hsm hdz hdx x2 x3
 have hfa := c_slFaces d x hsm hdz hdx x2 x3 hfo
 have hfl := facesL_len hsm x2 hfo
 obtain ⟨hov, hol⟩ := c_over' his hly hsm hdz hdx hcl x2 x3 x1
 obtain ⟨zL, zp⟩ := cells_sz hdz hdx x2 x3
 have hLl : (crnL d x).length ≤ 4 := crnL_len
 have hcon := fun q => conB_in his hly x2 x3 q
 obtain ⟨L, hL⟩ : ∃ L, L = crnL d x := ⟨_, rfl⟩
 rw [← hL] at hco zL hLl hcon
 obtain ⟨p, hp⟩ : ∃ p, p = cenP d x := ⟨_, rfl⟩
 rw [← hp] at hct cin zp
 have hcn : ∀ q : V, SzV 1000000 q → ∀ A c, L.length ≤ c → FnM PP f_narrowslaw16_contains [x.V, .slice A L.length c, pV (PQ q)] (facts [SlRes A (rowV ptQ L)]) (retsV (.bool (conB x.k L q))) := fun q hq A c _ => by
   have := c_contains A c x L (PQ q) (fun v hv => (zL v hv).le (by decide)) hq.q (by omega) x2
   rwa [PQ_v] at this
 have hc0 := hcn p (zp.le (by decide))
 rw [(hcon p).2 cin] at hc0
 obtain ⟨F, hF'⟩ : ∃ F, F = facesL d x := ⟨_, rfl⟩
 obtain ⟨O, hO⟩ : ∃ O, O = overL d x := ⟨_, rfl⟩
 rw [← hF'] at hfa hfl
 rw [← hO] at hov hol
 conv => whnf
 refine CallVC.o 40 hce.enters (CallV.facts hce rfl (fun R h => hF0 R h)) rfl rfl ?_
 conv => whnf
 refine br_false (show ((cs.length : Int) == 0) = false by rw [beq_eq_false_iff_ne]; omega) ?_
 have ek : (IntKind.i64.wrap (u.val : Int)).tmod (cs.length : Int) = (k : Int) := by
   have := u.isLt
   rw [wrap_i64 (by omega) (by omega), hk]; exact (Int.ofNat_tmod u.val cs.length).symm
 conv => whnf
 refine ⟨by omega, ?_⟩
 conv => whnf
 refine ⟨by rw [ek]; omega, ?_⟩
 conv => whnf
 refine RowVC.elem Cel.C Cel.C_len (k := k) (by show ((IntKind.i64.wrap (u.val : Int)).tmod (cs.length : Int)).toNat * 3 = k * 3; rw [ek, Int.toNat_natCast]) (by omega) (by decide) (fun h => by cases h) ?_
 intro z' hz2
 obtain rfl : z' = x := by rw [hx'] at hz2; exact (Option.some.inj hz2).symm
 conv => whnf
 refine CallVC.t 55 hco.enters (CallV.facts hco rfl (fun R h => hF0 R h)) rfl rfl ?_
 conv => whnf
 refine CallVC.t 61 hfa.enters (CallV.facts hfa rfl (fun R h => hF0 R h)) rfl rfl ?_
 conv => whnf
 refine CallVC.t 67 hov.enters (CallV.facts hov rfl (fun R h => hF0 R h)) rfl rfl ?_
 conv => whnf
 refine cfs hct ?_ rfl (fun R h => hF0 R h)
 conv => whnf
 refine CallVC.v (hc0 none _ (Nat.le_refl _)).enters (CallV.sl1 (x := .o (.w 55)) (fun z => [z'.V, z, pV (PQ p)]) (RdA.own rfl) (List.mem_cons_of_mem _ (List.mem_cons_self ..)) (fun _ => rfl) hc0) ?_
 conv => whnf
 obtain ⟨nf, hnf⟩ : ∃ nf, nf = F.length := ⟨_, rfl⟩
 obtain ⟨no, hno'⟩ : ∃ no, no = O.length := ⟨_, rfl⟩
 refine sexec_loop (ι := Nat) (fun i => ⟨[(7, .o (.p 7 0)), (10, .o (.p 10 0)), (11, .o (.w 55)), (13, .o (.w 61)), (15, .o (.w 67)), (17, .o (.p 17 0)), (19, .o (.s 97 0 4 4)), (98, .o (.w 61)), (99, .o (.v (.int .i64 nf))), (100, .o (.v (.int .i64 i)))],
     [(7, slM d), (10, .box (z'.C.map AV.v) t_api_Cell), (17, .box ((ptC (PQ p)).map AV.v) t_api_Point), (55, .own t_api_Point 6 L.length (rowV ptQ L)), (61, .own t_api_Cell 3 nf (rowV Cel.C F)), (67, .own t_api_Cell 3 O.length (rowV Cel.C O)),
       (97, .box [.v (.int .i64 0), .v (.int .i64 1), .v (.int .i64 1), .v (.int .i64 2)] t_int)], re⟩)
   (fun i => i ≤ nf) (fun i => nf - i) 0 (Nat.zero_le _)
   (SLe.id ⟨rfl, rfl, rfl, rfl, rfl, rfl, rfl, rfl, by rw [hnf]; rfl, rfl, trivial⟩ ⟨⟨_, rfl, .refl _⟩, ⟨_, rfl, .refl _⟩, ⟨_, rfl, .refl _⟩, ⟨_, rfl, .refl _⟩, ⟨_, rfl, by rw [hnf]; exact .refl _⟩, ⟨_, rfl, .refl _⟩, ⟨_, rfl, .refl _⟩, trivial⟩ (fun R hR => by rw [hre] at hR; exact hR)) ?_
 intro i hi0
 have hi0 : i ≤ nf := hi0
 conv => whnf
 by_cases hi' : i < nf
 rotate_left
 · refine br_false (decide_eq_false (show ¬ (i : Int) < (nf : Int) by omega)) ?_
   conv => whnf
   have hzk : ((z'.k : Int) == 0) = ((nf : Int) == 0) := by
     have := faces_nil (s := d) x2
     rw [← hF', ← hnf] at this
     refine Bool.eq_iff_iff.2 ?_
     rw [beq_iff_eq, beq_iff_eq]
     omega
   refine sexec_loop (ι := Nat) (fun j => ⟨[(7, .o (.p 7 0)), (10, .o (.p 10 0)), (13, .o (.w 61)), (158, .o (.w 67)), (159, .o (.v (.int .i64 no))), (160, .o (.v (.int .i64 j)))],
       [(7, slM d), (10, .box (z'.C.map AV.v) t_api_Cell), (61, .own t_api_Cell 3 nf (rowV Cel.C F)), (67, .own t_api_Cell 3 no (rowV Cel.C O))], re⟩)
     (fun j => j ≤ no) (fun j => no - j) 0 (Nat.zero_le _)
     (SLe.id ⟨rfl, rfl, rfl, rfl, by rw [hno']; rfl, rfl, trivial⟩ ⟨⟨_, rfl, .refl _⟩, ⟨_, rfl, .refl _⟩, ⟨_, rfl, .refl _⟩, ⟨_, rfl, by rw [hno']; exact .refl _⟩, trivial⟩ (fun R hR => hR)) ?_
   intro j hj0
   have hj0 : j ≤ no := hj0
   conv => whnf
   by_cases hj : j < no
   rotate_left
   · refine br_false (decide_eq_false (show ¬ (j : Int) < (no : Int) by omega)) ?_
     conv => whnf
     refine br_true (show (((z'.k : Int) == 0) == ((nf : Int) == 0)) = true by rw [hzk]; simp) ?_
     conv => whnf
     refine cf c_awake16 ?_
     conv => whnf
     exact postV_one rfl
   refine br_true (decide_eq_true (show (j : Int) < (no : Int) by omega)) ?_
   obtain ⟨g, hg'⟩ : ∃ g, O[j]? = some g := ⟨_, List.getElem?_eq_getElem (by omega)⟩
   have hgm : g ∈ overL d z' := by rw [← hO]; exact List.mem_of_getElem? hg'
   obtain ⟨hgm1, hgm2⟩ := List.mem_filter.1 hgm
   obtain ⟨_, _, g3, g4⟩ := colsL_mem hgm1
   have hzin : z' ∈ facesL d g := by
     simp only [Bool.and_eq_true, decide_eq_true_eq] at hgm2
     exact hgm2.2
   have hgo := fc_ok his hly g3 g4
   have hgf := c_slFaces d g hsm hdz hdx g3 g4 hgo
   have hgl := facesL_len hsm g3 hgo
   obtain ⟨G, hG⟩ : ∃ G, G = facesL d g := ⟨_, rfl⟩
   rw [← hG] at hgf hgl hzin
   have hcg : ∀ A c, G.length ≤ c → FnM PP f_slices_Contains_sl_api_Cell_api_Cell [.slice A G.length c, z'.V] (facts [SlRes A (rowV Cel.C G)]) (retsV (.bool true)) := fun A c _ => by
     have := c_ContainsCel A c G z' hgl
     rwa [decide_eq_true hzin] at this
   conv => whnf
   refine ⟨by show (0 : Int) ≤ (j : Int) ∧ (j : Int) < no; omega, ?_⟩
   conv => whnf
   refine RowVC.elem Cel.C Cel.C_len (k := j) (by show (j : Int).toNat * 3 = j * 3; rw [Int.toNat_natCast]) (by omega) (by decide) (fun h => by cases h) ?_
   intro g' hg2
   obtain rfl : g' = g := by rw [hg'] at hg2; exact (Option.some.inj hg2).symm
   conv => whnf
   refine CallVC.t 167 hgf.enters (CallV.facts hgf rfl (fun R h => hF R h)) rfl rfl ?_
   conv => whnf
   refine CallVC.v (hcg none _ (Nat.le_refl _)).enters (CallV.sl1 (x := .o (.w 167)) (fun z => [z, z'.V]) (RdA.own rfl) (List.mem_cons_self ..) (fun _ => rfl) hcg) ?_
   conv => whnf
   exact ⟨j + 1, by show j + 1 ≤ no; omega, by show no - (j + 1) < no - j; omega, SLe.id ⟨rfl, rfl, rfl, rfl, rfl, some_wrap hj (by omega), trivial⟩ ⟨⟨_, rfl, .refl _⟩, ⟨_, rfl, .refl _⟩, ⟨_, rfl, .refl _⟩, ⟨_, rfl, .refl _⟩, trivial⟩ (fun R hR => hR)⟩
 refine br_true (decide_eq_true (show (i : Int) < (nf : Int) by omega)) ?_
 obtain ⟨f, hf⟩ : ∃ f, F[i]? = some f := ⟨_, List.getElem?_eq_getElem (by omega)⟩
 have hfm : f ∈ facesL d z' := by rw [← hF']; exact List.mem_of_getElem? hf
 have fo := hfx f hfm
 have hfc : f.c < d.X.xs.length := by
   have h := (center_in his hly fo.k4 fo.cnt).1
   have := (cellsL_mem (inC_mem his fo.k4 h)).1
   exact this
 obtain ⟨hov2, hol2⟩ := c_over' his hly hsm hdz hdx hcl fo.k4 fo.cnt hfc
 have hct2 := c_slCenter d f hsm hdz hdx fo.k4 fo.cnt
 obtain ⟨_, zq⟩ := cells_sz hdz hdx fo.k4 fo.cnt
 have hq0 : conB z'.k L (cenP d f) = false := by
   cases h : conB z'.k L (cenP d f) with
   | false => rfl
   | true => exact absurd ((hcon _).1 h) (face_out his hly x2 fo)
 have hq1 := (hcon _).2 fo.mid
 have hin2 : z' ∈ overL d f := face_over x2 x3 hfm fo
 rw [← hp] at hq1
 obtain ⟨q, hq⟩ : ∃ q, q = cenP d f := ⟨_, rfl⟩
 rw [← hq] at hct2 zq hq0 hq1
 have hc2 := hcn q (zq.le (by decide))
 rw [hq0] at hc2
 have hat := c_vAt (PQ p) (PQ q) (Q (1 / 2)) (zp.q.le (by decide)) (zq.q.le (by decide)) (((show Sz 1 (1 : Rat) from ⟨by decide, by decide⟩).div (show Sz 2 (2 : Rat) from ⟨by decide, by decide⟩)).q.le (by decide))
 rw [PQ_v, PQ_v, Q_v] at hat
 have zat : SzV 1000000 (p.at q (1 / 2)) := by
   rw [at_half]
   exact ⟨(half_sz zp.1 zq.1).le (by decide), (half_sz zp.2 zq.2).le (by decide)⟩
 have hc3 := hcn _ zat
 rw [hq1] at hc3
 obtain ⟨G, hG⟩ : ∃ G, G = overL d f := ⟨_, rfl⟩
 rw [← hG] at hov2 hol2 hin2
 have hcg : ∀ A c, G.length ≤ c → FnM PP f_slices_Contains_sl_api_Cell_api_Cell [.slice A G.length c, z'.V] (facts [SlRes A (rowV Cel.C G)]) (retsV (.bool true)) := fun A c _ => by
   have := c_ContainsCel A c G z' hol2
   rwa [decide_eq_true hin2] at this
 conv => whnf
 refine ⟨by show (0 : Int) ≤ (i : Int) ∧ (i : Int) < nf; omega, ?_⟩
 conv => whnf
 refine RowVC.elem Cel.C Cel.C_len (k := i) (by show (i : Int).toNat * 3 = i * 3; rw [Int.toNat_natCast]) (by omega) (by decide) (fun h => by cases h) ?_
 intro f' hf2
 obtain rfl : f' = f := by rw [hf] at hf2; exact (Option.some.inj hf2).symm
 conv => whnf
 refine CallVC.t 107 hov2.enters (CallV.facts hov2 rfl (fun R h => hF R h)) rfl rfl ?_
 conv => whnf
 refine cfs hct2 ?_ rfl (fun R h => hF R h)
 conv => whnf
 refine DrawVC.quiet (by kernel_rfl) ?_
 conv => whnf
 have af := and3 f'.k fo.k4
 have ax := and3 z'.k x2
 have hf4 := fo.k4
 have hx4 := x2
 have hkk : (f'.k = 0 ∧ z'.k = 1) ∨ (f'.k = 0 ∧ z'.k = 2) ∨ (f'.k = 0 ∧ z'.k = 3) ∨ (f'.k = 1 ∧ z'.k = 3) ∨ (f'.k = 2 ∧ z'.k = 3) := by
   have h1 := fo.kind.1
   have h2 := fo.kind.2
   omega
 have hnf9 : nf ≤ 1000000000 := by omega
 clear fo hfm hf hfc hov2 hct2 hq0 hq1 hin2 hq hG hcon hx' hxm x1 x2 x3 hfx hfo hct hco hfa hov hL hp hF' hO hnf hno'
 obtain ⟨fk, fc, fr⟩ := f'
 obtain ⟨xk, xc, xr⟩ := z'
 simp only at hkk
 rcases hkk with ⟨rfl, rfl⟩ | ⟨rfl, rfl⟩ | ⟨rfl, rfl⟩ | ⟨rfl, rfl⟩ | ⟨rfl, rfl⟩
 all_goals
   rw [af]
   refine ⟨⟨Int.natCast_nonneg _, Int.ofNat_lt.2 hf4⟩, ?_⟩
   conv => whnf
   rw [ax]
   refine ⟨⟨Int.natCast_nonneg _, Int.ofNat_lt.2 hx4⟩, ?_⟩
   conv => whnf
   refine CallVCd.v (hcg none _ (Nat.le_refl _)).enters (CallV.sl1 (x := .o (.w 107)) (fun z => [z, Cel.V _]) (RdA.own rfl) (List.mem_cons_self ..) (fun _ => rfl) hcg) ?_
   conv => whnf
   refine CallVCd.v (hc2 none _ (Nat.le_refl _)).enters (CallV.sl1 (x := .o (.w 55)) (fun z => [Cel.V _, z, pV (PQ q)]) (RdA.own rfl) (List.mem_cons_of_mem _ (List.mem_cons_self ..)) (fun _ => rfl) hc2) ?_
   conv => whnf
   refine DrawVC.quiet (by kernel_rfl) ?_
   conv => whnf
   refine cd c_half ?_
   conv => whnf
   refine cd hat ?_
   conv => whnf
   refine CallVCd.v (hc3 none _ (Nat.le_refl _)).enters (CallV.sl1 (x := .o (.w 55)) (fun z => [Cel.V _, z, pV (PQ (p.at q (1 / 2)))]) (RdA.own rfl) (List.mem_cons_of_mem _ (List.mem_cons_self ..)) (fun _ => rfl) hc3) ?_
   conv => whnf
   exact ⟨i + 1, by show i + 1 ≤ nf; omega, by show nf - (i + 1) < nf - i; omega, SLe.id ⟨rfl, rfl, rfl, rfl, rfl, rfl, rfl, rfl, rfl, some_wrap hi' hnf9, trivial⟩ ⟨⟨_, rfl, .refl _⟩, ⟨_, rfl, .refl _⟩, ⟨_, rfl, .refl _⟩, ⟨_, rfl, .refl _⟩, ⟨_, rfl, .refl _⟩, ⟨_, rfl, .refl _⟩, ⟨_, rfl, .refl _⟩, trivial⟩ (fun R hR => hR)⟩
end Go.Sx
end
section
set_option maxRecDepth 10000
namespace Go.Sx
open Go Go.Proofs Go.ChangeShapes Go.WideShapes Go.RowKit Go.Deep
variable {H : Type} {enc : TypeId × Value → H} {w : World} {base : Nat} {spare : Nat → Bool} {held : Bool}
theorem open_u16 {r : Reach} {b : Nat} {v : Value} {d : DataW H} {ps : List MemPlace} (hv : Value.okWide PP w r b t_uint16 v) (h : DataW.Trod enc PP w base spare held t_uint16 v d ps) : ∃ u : Fin 65536, v = .int .u16 ((u.val : Nat) : Int) := by
 obtain ⟨n0, rfl⟩ := okWide_int (TBgood t_uint16 _ rfl).1.und hv
 obtain ⟨fuel, hf⟩ := h
 obtain ⟨n, hn, _, hwf⟩ := DataW.trod_int (TBgood t_uint16 _ rfl).1.und hf
 have hb : 0 ≤ n ∧ n ≤ 65535 := by
   simp [Lit.wf] at hwf
   exact ⟨hwf.1, hwf.2⟩
 refine ⟨⟨n.toNat, by omega⟩, ?_⟩
 show Value.int .u16 n0 = Value.int .u16 ((n.toNat : Nat) : Int)
 rw [Int.toNat_of_nonneg hb.1]
 exact List.head_eq_of_cons_eq hn
end Go.Sx
end
