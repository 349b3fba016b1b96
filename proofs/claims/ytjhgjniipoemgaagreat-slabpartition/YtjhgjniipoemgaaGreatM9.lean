/- A part of the proof of a law: the symbolic executor, contracts of functions of the program, plain laws. No conditions. -/
import Derived.Test.YtjhgjniipoemgaaGreatM8
set_option linter.unusedVariables false
set_option linter.unusedSimpArgs false
set_option linter.unusedSectionVars false
section
set_option maxRecDepth 10000
set_option maxHeartbeats 1000000
namespace Go.Sx
def rowIn (H : List Rat) (flat : Bool) (r : Nat) (y : Rat) : Prop := if flat then H[r]? = some y else ∃ a b, H[r]? = some a ∧ H[r + 1]? = some b ∧ a < y ∧ y < b
theorem row_unique {H : List Rat} (h : Asc H) {f g : Bool} {r q : Nat} {y : Rat} (h1 : rowIn H f r y) (h2 : rowIn H g q y) : f = g ∧ r = q := by
 have le : ∀ {i j : Nat} {a b : Rat}, H[i]? = some a → H[j]? = some b → a < b → i < j := fun {i j a b} hi hj hab => by
   refine Nat.not_le.1 fun hji => ?_
   rcases Nat.lt_or_eq_of_le hji with hji | hji
   · have := asc_get h hj hi hji; grind
   · subst hji; rw [hi] at hj; cases hj; grind
 unfold rowIn at h1 h2
 cases f <;> cases g <;> simp only [if_true, if_false, Bool.false_eq_true] at h1 h2
 · obtain ⟨a, b, a1, b1, c1, d1⟩ := h1
   obtain ⟨a', b', a2, b2, c2, d2⟩ := h2
   have k1 := le a1 b2 (by grind)
   have k2 := le a2 b1 (by grind)
   exact ⟨rfl, by omega⟩
 · obtain ⟨a, b, a1, b1, c1, d1⟩ := h1
   have k1 := le a1 h2 c1
   have k2 := le h2 b1 d1
   omega
 · obtain ⟨a, b, a1, b1, c1, d1⟩ := h2
   have k1 := le a1 h1 c1
   have k2 := le h1 b1 d1
   omega
 · refine ⟨rfl, ?_⟩
   rcases Nat.lt_trichotomy r q with hrq | hrq | hrq
   · have := asc_get h h1 h2 hrq; grind
   · exact hrq
   · have := asc_get h h2 h1 hrq; grind
theorem row_exists {y z : Rat} : ∀ {l : List Rat} {a : Rat}, a ≤ y → (a :: l)[l.length]? = some z → y ≤ z → ∃ f r, rowIn (a :: l) f r y
 | [], a, h1, h2, h3 => by
   simp at h2
   refine ⟨true, 0, ?_⟩
   show some a = some y
   congr 1; grind
 | b :: l, a, h1, h2, h3 => by
   by_cases e : y = a
   · exact ⟨true, 0, by show some a = some y; rw [e]⟩
   by_cases e2 : y < b
   · exact ⟨false, 0, a, b, rfl, rfl, by grind, e2⟩
   · obtain ⟨f, r, h⟩ := row_exists (l := l) (a := b) (by grind) (by simpa using h2) h3
     refine ⟨f, r + 1, ?_⟩
     unfold rowIn at h ⊢
     cases f
     · obtain ⟨u, v, k1, k2, k3⟩ := h
       exact ⟨u, v, by simpa using k1, by simpa using k2, k3⟩
     · simpa using h
theorem asc_first {l : List Rat} (h : Asc l) {m : Rat} (hm : m ∈ l) (hle : ∀ z ∈ l, m ≤ z) : l[0]? = some m := by
 obtain ⟨j, hj⟩ := List.getElem?_of_mem hm
 by_cases h0 : j = 0
 · rw [h0] at hj; exact hj
 · obtain ⟨x, hx⟩ : ∃ x, l[0]? = some x := ⟨_, List.getElem?_eq_getElem (by have := (List.getElem?_eq_some_iff.1 hj).1; omega)⟩
   have := asc_get h hx hj (by omega)
   have := hle x (List.mem_of_getElem? hx)
   grind
theorem asc_last {l : List Rat} (h : Asc l) {m : Rat} (hm : m ∈ l) (hle : ∀ z ∈ l, z ≤ m) : l[l.length - 1]? = some m := by
 obtain ⟨j, hj⟩ := List.getElem?_of_mem hm
 have hl := (List.getElem?_eq_some_iff.1 hj).1
 by_cases h0 : j = l.length - 1
 · rw [h0] at hj; exact hj
 · obtain ⟨x, hx⟩ : ∃ x, l[l.length - 1]? = some x := ⟨_, List.getElem?_eq_getElem (by omega)⟩
   have := asc_get h hj hx (by omega)
   have := hle x (List.mem_of_getElem? hx)
   grind
structure Ranges (H : List Rat) (lo hi : Rat) : Prop where
 asc : Asc H
 first : H[0]? = some lo
 last : H[H.length - 1]? = some hi
theorem Ranges.ex {H : List Rat} {lo hi : Rat} (h : Ranges H lo hi) {y : Rat} (h1 : lo ≤ y) (h2 : y ≤ hi) : ∃ f r, rowIn H f r y := by
 cases H with
 | nil => have := h.first; cases this
 | cons a l =>
   have e : a = lo := Option.some.inj h.first
   exact row_exists (z := hi) (by rw [e]; exact h1) (by simpa using h.last) h2
theorem Ranges.mem {H : List Rat} {lo hi : Rat} (h : Ranges H lo hi) {i : Nat} {x : Rat} (hx : H[i]? = some x) : lo ≤ x ∧ x ≤ hi := by
 have hl := (List.getElem?_eq_some_iff.1 hx).1
 constructor
 · by_cases h0 : i = 0
   · subst h0; rw [h.first] at hx; cases hx; exact Rat.le_refl
   · exact Rat.le_of_lt (asc_get h.asc h.first hx (by omega))
 · by_cases h0 : i = H.length - 1
   · subst h0; rw [h.last] at hx; cases hx; exact Rat.le_refl
   · exact Rat.le_of_lt (asc_get h.asc hx h.last (by omega))
theorem Ranges.bd {H : List Rat} {lo hi : Rat} (h : Ranges H lo hi) {f : Bool} {r : Nat} {y : Rat} (h1 : rowIn H f r y) : lo ≤ y ∧ y ≤ hi := by
 unfold rowIn at h1
 cases f <;> simp only [if_true, if_false, Bool.false_eq_true] at h1
 · obtain ⟨a, b, a1, b1, c1, d1⟩ := h1
   have := h.mem a1
   have := h.mem b1
   exact ⟨by grind, by grind⟩
 · exact h.mem h1
theorem xs_ranges {s : Sl} (hs : s.is) (hx : s.lo.x ≤ s.hi.x) : Ranges s.X.xs s.lo.x s.hi.x := ⟨Sl.is_asc hs, Sl.is_first hs hx, Sl.is_last hs hx⟩
theorem ys_in {s : Sl} (hy : s.lo.y ≤ s.hi.y) {X : Rat} : ∀ y ∈ ysL s.lo s.hi (pcsL s.lo s.hi s.sg.xs) X, s.lo.y ≤ y ∧ y ≤ s.hi.y := fun y hm => by
 rw [ysL, ascL_mem] at hm
 rcases List.mem_cons.1 hm with rfl | hm
 · exact ⟨Rat.le_refl, hy⟩
 rcases List.mem_cons.1 hm with rfl | hm
 · exact ⟨hy, Rat.le_refl⟩
 obtain ⟨p, hp, h⟩ := List.mem_flatMap.1 hm
 obtain ⟨e, he⟩ := pcs_of hp
 rcases List.mem_append.1 h with h | h
 · split at h
   · simp only [List.mem_cons, List.not_mem_nil, or_false] at h
     rcases h with rfl | rfl
     · exact he.ia.2
     · exact he.ib.2
   · cases h
 · cases hh : hgtO p X with
   | none => rw [hh] at h; cases h
   | some z =>
     rw [hh] at h
     rw [List.mem_singleton.1 (show y ∈ [z] from h)]
     exact (inX_on he.ia he.ib (hgtO_on hh).2).2
theorem line_at {s : Sl} (hs : s.is) {c : Nat} {X : Rat} {l : Ln Rat} (hx : s.X.xs[c]? = some X) (hl : s.L.xs[c]? = some l) : l.xs = ysL s.lo s.hi (pcsL s.lo s.hi s.sg.xs) X := by
 have h := congrArg (fun z : List (List Rat) => z[c]?) hs.2.1
 simp only [List.getElem?_map, hx, hl, Option.map_some] at h
 exact Option.some.inj h
theorem ys_ranges {s : Sl} (hs : s.is) (hy : s.lo.y ≤ s.hi.y) {c : Nat} {X : Rat} {l : Ln Rat} (hx : s.X.xs[c]? = some X) (hl : s.L.xs[c]? = some l) : Ranges l.xs s.lo.y s.hi.y := by
 rw [line_at hs hx hl]
 have ha : Asc (ysL s.lo s.hi (pcsL s.lo s.hi s.sg.xs) X) := ascL_asc _
 exact ⟨ha, asc_first ha (ascL_mem.2 (List.mem_cons_self ..)) (fun z hz => (ys_in hy z hz).1), asc_last ha (ascL_mem.2 (List.mem_cons_of_mem _ (List.mem_cons_self ..))) (fun z hz => (ys_in hy z hz).2)⟩
theorem hgts_ends (s : Sl) (t : Ln Nat) (x : Rat) : (hgtsL s t x)[0]? = some s.lo.y ∧ (hgtsL s t x)[(hgtsL s t x).length - 1]? = some s.hi.y := by
 refine ⟨rfl, ?_⟩
 have : (hgtsL s t x).length - 1 = t.xs.length + 1 := by simp [hgtsL]
 rw [this, hgtsL, List.getElem?_cons_succ, List.getElem?_append_right (by simp)]; simp
def colH (s : Sl) (line : Bool) (c : Nat) (x : Rat) : Option (List Rat) := if line then (s.L.xs[c]?).map (·.xs) else (s.S.xs[c]?).map fun t => hgtsL s t x
def inC (s : Sl) (x : Cel) (p : V) : Prop := rowIn s.X.xs (decide (x.k < 2)) x.c p.x ∧ ∃ H, colH s (decide (x.k < 2)) x.c p.x = some H ∧ rowIn H (decide (x.k % 2 = 0)) x.r p.y
theorem colH_ranges {s : Sl} (hs : s.is) (hy : s.lo.y < s.hi.y) {f : Bool} {c : Nat} {x : Rat} {H : List Rat} (h1 : rowIn s.X.xs f c x) (h2 : colH s f c x = some H) : Ranges H s.lo.y s.hi.y := by
 unfold rowIn at h1
 unfold colH at h2
 cases f <;> simp only [if_true, if_false, Bool.false_eq_true] at h1 h2
 · obtain ⟨X, Y, a1, b1, c1, d1⟩ := h1
   cases ht : s.S.xs[c]? with
   | none => rw [ht] at h2; cases h2
   | some t =>
     rw [ht] at h2; cases h2
     exact ⟨hgts_asc_in hs hy ⟨a1, b1⟩ ht c1 d1, (hgts_ends s t x).1, (hgts_ends s t x).2⟩
 · cases hl : s.L.xs[c]? with
   | none => rw [hl] at h2; cases h2
   | some l => rw [hl] at h2; cases h2; exact ys_ranges hs (Rat.le_of_lt hy) h1 hl
theorem colH_some {s : Sl} (hs : s.is) {f : Bool} {c : Nat} {x : Rat} (h1 : rowIn s.X.xs f c x) : ∃ H, colH s f c x = some H := by
 obtain ⟨e1, e2, e3⟩ := Sl.is_len hs
 unfold rowIn at h1
 unfold colH
 cases f <;> simp only [if_true, if_false, Bool.false_eq_true] at h1 ⊢
 · obtain ⟨X, Y, a1, b1, _⟩ := h1
   have := (List.getElem?_eq_some_iff.1 b1).1
   rw [List.getElem?_eq_getElem (show c < s.S.xs.length by omega)]; exact ⟨_, rfl⟩
 · have := (List.getElem?_eq_some_iff.1 h1).1
   rw [List.getElem?_eq_getElem (show c < s.L.xs.length by omega)]; exact ⟨_, rfl⟩
theorem inC_unique {s : Sl} (hs : s.is) (hy : s.lo.y < s.hi.y) {x y : Cel} (hx4 : x.k < 4) (hy4 : y.k < 4) {p : V} (h1 : inC s x p) (h2 : inC s y p) : x = y := by
 obtain ⟨a1, H, a2, a3⟩ := h1
 obtain ⟨b1, G, b2, b3⟩ := h2
 obtain ⟨e1, e2⟩ := row_unique (Sl.is_asc hs) a1 b1
 rw [← e1, ← e2] at b2
 rw [a2] at b2; cases b2
 obtain ⟨e3, e4⟩ := row_unique (colH_ranges hs hy a1 a2).asc a3 b3
 obtain ⟨k, c, r⟩ := x
 obtain ⟨k', c', r'⟩ := y
 simp only at e1 e2 e3 e4 hx4 hy4
 have : k = k' := by
   have h1 : k < 2 ↔ k' < 2 := decide_eq_decide.1 e1
   have h2 : k % 2 = 0 ↔ k' % 2 = 0 := decide_eq_decide.1 e3
   omega
 rw [this, e2, e4]
theorem inC_box {s : Sl} (hs : s.is) (hx : s.lo.x ≤ s.hi.x) (hy : s.lo.y < s.hi.y) {x : Cel} {p : V} (h : inC s x p) : inX s.lo s.hi p := by
 obtain ⟨a1, H, a2, a3⟩ := h
 exact ⟨(xs_ranges hs hx).bd a1, (colH_ranges hs hy a1 a2).bd a3⟩
theorem colF_mem' {s : Sl} {x : Cel} : ∀ {j : Nat}, j ≤ 4 → 4 - j ≤ x.k → x.k < 4 → (x.r : Int) < cntK s x.k x.c → x ∈ colF s x.c j
 | 0, _, h1, h2, _ => by omega
 | j + 1, hj, h1, h2, h3 => by
   rw [colF]
   by_cases h : x.k = 3 - j
   · refine List.mem_append_left _ (List.mem_map.2 ⟨x.r, List.mem_range.2 (by rw [← h]; omega), by rw [← h]⟩)
   · exact List.mem_append_right _ (colF_mem' (by omega) (by omega) h2 h3)
theorem colsL_mem' {s : Sl} {x : Cel} (h2 : x.k < 4) (h3 : (x.r : Int) < cntK s x.k x.c) : ∀ {n c : Nat}, c ≤ x.c → x.c < c + n → x ∈ colsL s c n
 | 0, c, h, h' => by omega
 | n + 1, c, h, h' => by
   rw [colsL]
   by_cases hc : x.c = c
   · rw [← hc]; exact List.mem_append_left _ (colF_mem' (Nat.le_refl 4) (by omega) h2 h3)
   · exact List.mem_append_right _ (colsL_mem' h2 h3 (by omega) (by omega))
theorem cellsL_mem' {s : Sl} {x : Cel} (h1 : x.c < s.X.xs.length) (h2 : x.k < 4) (h3 : (x.r : Int) < cntK s x.k x.c) : x ∈ cellsL s := colsL_mem' h2 h3 (Nat.zero_le _) (by omega)
theorem cnt_of {s : Sl} (hs : s.is) {x : Cel} (h4 : x.k < 4) {y : Rat} {p : Rat} (h1 : rowIn s.X.xs (decide (x.k < 2)) x.c p) {H : List Rat} (h2 : colH s (decide (x.k < 2)) x.c p = some H) (h3 : rowIn H (decide (x.k % 2 = 0)) x.r y) : (x.r : Int) < cntK s x.k x.c := by
 obtain ⟨k, c, r⟩ := x
 obtain ⟨e1, e2, e3⟩ := Sl.is_len hs
 have hk : k = 0 ∨ k = 1 ∨ k = 2 ∨ k = 3 := by have : k < 4 := h4; omega
 have hL : ∀ {d : Nat} {l : Ln Rat}, s.L.xs[c]? = some l → lineN s d c = (l.xs.length : Int) - d := fun {d l} hl => by
   have := (List.getElem?_eq_some_iff.1 hl).1
   unfold lineN
   rw [if_pos ⟨this, by omega⟩, List.getD_eq_getElem?_getD, List.getElem?_map, hl]; rfl
 have hS : ∀ {d : Nat} {t : Ln Nat}, s.S.xs[c]? = some t → stripN s d c = (t.xs.length : Int) + d := fun {d t} ht => by
   have := (List.getElem?_eq_some_iff.1 ht).1
   unfold stripN
   rw [if_pos ⟨this, by omega, by omega⟩, List.getD_eq_getElem?_getD, List.getElem?_map, ht]; rfl
 rcases hk with rfl | rfl | rfl | rfl
 · have h2 : (s.L.xs[c]?).map (·.xs) = some H := h2
   have h3 : H[r]? = some y := h3
   cases hl : s.L.xs[c]? with
   | none => rw [hl] at h2; cases h2
   | some l =>
     rw [hl] at h2; cases h2
     show (r : Int) < lineN s 0 c
     rw [hL hl]
     have := (List.getElem?_eq_some_iff.1 h3).1
     simp only at this
     omega
 · have h2 : (s.L.xs[c]?).map (·.xs) = some H := h2
   have h3 : ∃ a b, H[r]? = some a ∧ H[r + 1]? = some b ∧ a < y ∧ y < b := h3
   cases hl : s.L.xs[c]? with
   | none => rw [hl] at h2; cases h2
   | some l =>
     rw [hl] at h2; cases h2
     show (r : Int) < lineN s 1 c
     rw [hL hl]
     obtain ⟨a, b, _, h5, _⟩ := h3
     have := (List.getElem?_eq_some_iff.1 h5).1
     simp only at this
     omega
 · have h2 : (s.S.xs[c]?).map (fun t => hgtsL s t p) = some H := h2
   have h3 : rowIn H true r y := by have h : rowIn H (decide ((2 : Nat) % 2 = 0)) r y := h3; rwa [show decide ((2 : Nat) % 2 = 0) = true by decide] at h
   have h3 : H[r]? = some y := h3
   cases ht : s.S.xs[c]? with
   | none => rw [ht] at h2; cases h2
   | some t =>
     rw [ht] at h2; cases h2
     show (r : Int) < stripN s 2 c
     rw [hS ht]
     have := (List.getElem?_eq_some_iff.1 h3).1
     simp [hgtsL] at this
     omega
 · have h2 : (s.S.xs[c]?).map (fun t => hgtsL s t p) = some H := h2
   have h3 : rowIn H false r y := by have h : rowIn H (decide ((3 : Nat) % 2 = 0)) r y := h3; rwa [show decide ((3 : Nat) % 2 = 0) = false by decide] at h
   have h3 : ∃ a b, H[r]? = some a ∧ H[r + 1]? = some b ∧ a < y ∧ y < b := h3
   cases ht : s.S.xs[c]? with
   | none => rw [ht] at h2; cases h2
   | some t =>
     rw [ht] at h2; cases h2
     show (r : Int) < stripN s 1 c
     rw [hS ht]
     obtain ⟨a, b, _, h5, _⟩ := h3
     have := (List.getElem?_eq_some_iff.1 h5).1
     simp [hgtsL] at this
     omega
theorem inC_mem {s : Sl} (hs : s.is) {x : Cel} (h4 : x.k < 4) {p : V} (h : inC s x p) : x ∈ cellsL s := by
 obtain ⟨a1, H, a2, a3⟩ := h
 refine cellsL_mem' ?_ h4 (cnt_of hs h4 a1 a2 a3)
 unfold rowIn at a1
 split at a1
 · exact (List.getElem?_eq_some_iff.1 a1).1
 · obtain ⟨a, b, h1, _⟩ := a1
   exact (List.getElem?_eq_some_iff.1 h1).1
def kindOf (line flat : Bool) : Nat := if line then (if flat then 0 else 1) else (if flat then 2 else 3)
theorem inC_exists {s : Sl} (hs : s.is) (hx : s.lo.x ≤ s.hi.x) (hy : s.lo.y < s.hi.y) {p : V} (hp : inX s.lo s.hi p) : ∃ x, x.k < 4 ∧ inC s x p := by
 obtain ⟨f, c, h1⟩ := (xs_ranges hs hx).ex hp.1.1 hp.1.2
 obtain ⟨H, h2⟩ := colH_some hs h1
 obtain ⟨g, r, h3⟩ := (colH_ranges hs hy h1 h2).ex hp.2.1 hp.2.2
 refine ⟨⟨kindOf f g, c, r⟩, by show kindOf f g < 4; cases f <;> cases g <;> decide, ?_⟩
 have e1 : decide (kindOf f g < 2) = f := by cases f <;> cases g <;> rfl
 have e2 : decide (kindOf f g % 2 = 0) = g := by cases f <;> cases g <;> rfl
 show rowIn s.X.xs (decide (kindOf f g < 2)) c p.x ∧ ∃ H, colH s (decide (kindOf f g < 2)) c p.x = some H ∧ rowIn H (decide (kindOf f g % 2 = 0)) r p.y
 rw [e1, e2]
 exact ⟨h1, H, h2, h3⟩
end Go.Sx
end
section
set_option maxRecDepth 10000
set_option maxHeartbeats 1000000
namespace Go.Sx
theorem betw_iff {a b p : V} (hab : a ≠ b) : betwB a b p = true ↔ onS a b p := by
 refine ⟨betw_at hab, ?_⟩
 rintro ⟨t, ⟨t0, t1⟩, rfl⟩
 unfold betwB
 simp only [Bool.and_eq_true, decide_eq_true_eq, Bool.or_eq_true]
 refine ⟨cmpQ_eq.2 ?_, ?_, .inl (fun h => hab (cmpV_zero.1 h))⟩
 · show (b.x - a.x) * ((a.y + (b.y - a.y) * t) - a.y) - (b.y - a.y) * ((a.x + (b.x - a.x) * t) - a.x) = 0
   grind
 · by_cases h0 : t = 0
   · rw [h0, V.at_zero, cmpV_zero.2 rfl]; simp
   by_cases h1 : t = 1
   · rw [h1, V.at_one, cmpV_zero.2 (show b = b from rfl)]; simp
   rw [cmpV_step (by grind), cmpV_step' (by grind)]
   rcases cmpV_cases a b with h | h | h <;> rw [h] <;> decide
theorem onS_seg {X Y a b x h : Rat} (hXY : X < Y) : onS ⟨X, a⟩ ⟨Y, b⟩ ⟨x, h⟩ ↔ X ≤ x ∧ x ≤ Y ∧ h * (Y - X) = a * (Y - x) + b * (x - X) := by
 constructor
 · intro o
   have c := onS_col (onS_left (⟨X, a⟩ : V) ⟨Y, b⟩) (onS_right (⟨X, a⟩ : V) ⟨Y, b⟩) o
   obtain ⟨t, ⟨t0, t1⟩, e⟩ := o
   have ex : x = X + (Y - X) * t := congrArg V.x e
   have k1 := Rat.mul_nonneg (show 0 ≤ Y - X by grind) t0
   have k2 := Rat.mul_nonneg (show 0 ≤ Y - X by grind) (show 0 ≤ 1 - t by grind)
   exact ⟨by grind, by grind, by grind⟩
 · rintro ⟨h1, h2, h3⟩
   exact onS_lin (onS_left _ _) (onS_right _ _) hXY h1 h2 (by grind)
theorem onS_vert {X y y' x h : Rat} (hy : y < y') : onS ⟨X, y⟩ ⟨X, y'⟩ ⟨x, h⟩ ↔ x = X ∧ y ≤ h ∧ h ≤ y' := by
 constructor
 · rintro ⟨t, ⟨t0, t1⟩, e⟩
   have ex : x = X + (X - X) * t := congrArg V.x e
   have ey : h = y + (y' - y) * t := congrArg V.y e
   have k1 := Rat.mul_nonneg (show 0 ≤ y' - y by grind) t0
   have k2 := Rat.mul_nonneg (show 0 ≤ y' - y by grind) (show 0 ≤ 1 - t by grind)
   exact ⟨by grind, by grind, by grind⟩
 · rintro ⟨rfl, h1, h2⟩
   obtain ⟨u, hd, u0, u1, _⟩ := ratio_ex (d := h - y) (g := y' - h) (by grind) (by grind) (by grind)
   refine ⟨u, ⟨u0, u1⟩, ?_⟩
   show (⟨x, h⟩ : V) = ⟨x + (x - x) * u, y + (y' - y) * u⟩
   congr 1 <;> grind
def orR (a b p : V) : Prop := 0 < (b - a).cross (p - a)
theorem orB_iff {a b p : V} : orB a b p = false ↔ orR a b p := by
 unfold orB orR
 rw [decide_eq_false_iff_not, cmpQ_le]
 exact Rat.not_le
theorem con_ring3 (A B C p : V) : conB 3 [A, B, C] p = true ↔ orR A B p ∧ orR B C p ∧ orR C A p := by
 have e : conB 3 [A, B, C] p = (!(orB A B p || (orB B C p || (orB C A p || false))) && (true && true)) := by simp [conB, ringG, List.range_succ]
 rw [e, ← orB_iff, ← orB_iff, ← orB_iff]
 cases orB A B p <;> cases orB B C p <;> cases orB C A p <;> simp
theorem con_ring4 (A B C D p : V) : conB 3 [A, B, C, D] p = true ↔ orR A B p ∧ orR B C p ∧ orR C D p ∧ orR D A p := by
 have e : conB 3 [A, B, C, D] p = (!(orB A B p || (orB B C p || (orB C D p || (orB D A p || false)))) && (true && true)) := by simp [conB, ringG, List.range_succ]
 rw [e, ← orB_iff, ← orB_iff, ← orB_iff, ← orB_iff]
 cases orB A B p <;> cases orB B C p <;> cases orB C D p <;> cases orB D A p <;> simp
theorem orR_mk {x y u v a b : Rat} : orR ⟨x, y⟩ ⟨u, v⟩ ⟨a, b⟩ ↔ 0 < (u - x) * (b - y) - (v - y) * (a - x) := Iff.rfl
theorem pos_of_mul {a b : Rat} (h : 0 < a * b) (ha : 0 ≤ a) : 0 < b := by
 refine Rat.not_le.1 fun hb => ?_
 have := Rat.mul_nonneg ha (show 0 ≤ -b by grind)
 grind
theorem crn3_cases {X Y a b a' b' : Rat} (hXY : X < Y) (h1 : a ≤ a') (h2 : b ≤ b') (h3 : a < a' ∨ b < b') :
   (a < a' ∧ b < b' ∧ unw (ddp [⟨X, a⟩, ⟨Y, b⟩, ⟨Y, b'⟩, (⟨X, a'⟩ : V)]) = [⟨X, a⟩, ⟨Y, b⟩, ⟨Y, b'⟩, ⟨X, a'⟩]) ∨ (a < a' ∧ b = b' ∧ unw (ddp [⟨X, a⟩, ⟨Y, b⟩, ⟨Y, b'⟩, (⟨X, a'⟩ : V)]) = [⟨X, a⟩, ⟨Y, b⟩, ⟨X, a'⟩]) ∨
   (a = a' ∧ b < b' ∧ unw (ddp [⟨X, a⟩, ⟨Y, b⟩, ⟨Y, b'⟩, (⟨X, a'⟩ : V)]) = [⟨X, a⟩, ⟨Y, b⟩, ⟨Y, b'⟩]) := by
 have n1 : ¬ (⟨Y, b⟩ : V) = ⟨X, a⟩ := fun h => by have := congrArg V.x h; simp only at this; grind
 have n2 : ¬ (⟨X, a'⟩ : V) = ⟨Y, b'⟩ := fun h => by have := congrArg V.x h; simp only at this; grind
 have d1 : ∀ l, ddpG (⟨X, a⟩ : V) (⟨Y, b⟩ :: l) = ⟨Y, b⟩ :: ddpG ⟨Y, b⟩ l := fun l => by rw [ddpG, if_neg n1]
 have d3 : ddpG (⟨Y, b'⟩ : V) [⟨X, a'⟩] = [⟨X, a'⟩] := by rw [ddpG, if_neg n2]; rfl
 have e0 : ddp [⟨X, a⟩, ⟨Y, b⟩, ⟨Y, b'⟩, (⟨X, a'⟩ : V)] = ⟨X, a⟩ :: ⟨Y, b⟩ :: ddpG ⟨Y, b⟩ [⟨Y, b'⟩, ⟨X, a'⟩] := by rw [ddp, d1]
 by_cases ha : a < a'
 · have n3 : ¬ (⟨X, a⟩ : V) = ⟨X, a'⟩ := fun h => by have := congrArg V.y h; simp only at this; grind
   by_cases hb : b < b'
   · left
     refine ⟨ha, hb, ?_⟩
     have n4 : ¬ (⟨Y, b'⟩ : V) = ⟨Y, b⟩ := fun h => by have := congrArg V.y h; simp only at this; grind
     rw [e0, ddpG, if_neg n4, d3]
     unfold unw
     rw [if_neg (fun h => n3 (Option.some.inj h.2))]
   · right; left
     have e : b = b' := by grind
     subst e
     refine ⟨ha, rfl, ?_⟩
     rw [e0, ddpG, if_pos rfl, d3]
     unfold unw
     rw [if_neg (fun h => n3 (Option.some.inj h.2))]
 · right; right
   have e : a = a' := by grind
   subst e
   have hb : b < b' := by grind
   refine ⟨rfl, hb, ?_⟩
   have n4 : ¬ (⟨Y, b'⟩ : V) = ⟨Y, b⟩ := fun h => by have := congrArg V.y h; simp only at this; grind
   rw [e0, ddpG, if_neg n4, d3]
   unfold unw
   rw [if_pos ⟨by simp, rfl⟩]; rfl
theorem con3 {X Y a b a' b' : Rat} (hXY : X < Y) (h1 : a ≤ a') (h2 : b ≤ b') (h3 : a < a' ∨ b < b') {x y : Rat} : conB 3 (unw (ddp [⟨X, a⟩, ⟨Y, b⟩, ⟨Y, b'⟩, (⟨X, a'⟩ : V)])) ⟨x, y⟩ = true ↔
   X < x ∧ x < Y ∧ a * (Y - x) + b * (x - X) < y * (Y - X) ∧ y * (Y - X) < a' * (Y - x) + b' * (x - X) := by
 rcases crn3_cases hXY h1 h2 h3 with ⟨ha, hb, e⟩ | ⟨ha, hb, e⟩ | ⟨ha, hb, e⟩
 · rw [e, con_ring4, orR_mk, orR_mk, orR_mk, orR_mk]
   constructor
   · rintro ⟨k1, k2, k3, k4⟩
     have q1 := pos_of_mul (a := b' - b) (b := Y - x) (by grind) (by grind)
     have q2 := pos_of_mul (a := a' - a) (b := x - X) (by grind) (by grind)
     exact ⟨by grind, by grind, by grind, by grind⟩
   · rintro ⟨k1, k2, k3, k4⟩
     have q1 := Rat.mul_pos (show 0 < b' - b by grind) (show 0 < Y - x by grind)
     have q2 := Rat.mul_pos (show 0 < a' - a by grind) (show 0 < x - X by grind)
     exact ⟨by grind, by grind, by grind, by grind⟩
 · subst hb
   rw [e, con_ring3, orR_mk, orR_mk, orR_mk]
   constructor
   · rintro ⟨k1, k2, k3⟩
     have q1 := pos_of_mul (a := a' - a) (b := Y - x) (by grind) (by grind)
     have q2 := pos_of_mul (a := a' - a) (b := x - X) (by grind) (by grind)
     exact ⟨by grind, by grind, by grind, by grind⟩
   · rintro ⟨k1, k2, k3, k4⟩
     have q2 := Rat.mul_pos (show 0 < a' - a by grind) (show 0 < x - X by grind)
     exact ⟨by grind, by grind, by grind⟩
 · subst ha
   rw [e, con_ring3, orR_mk, orR_mk, orR_mk]
   constructor
   · rintro ⟨k1, k2, k3⟩
     have q1 := pos_of_mul (a := b' - b) (b := Y - x) (by grind) (by grind)
     have q2 := pos_of_mul (a := b' - b) (b := x - X) (by grind) (by grind)
     exact ⟨by grind, by grind, by grind, by grind⟩
   · rintro ⟨k1, k2, k3, k4⟩
     have q2 := Rat.mul_pos (show 0 < b' - b by grind) (show 0 < Y - x by grind)
     exact ⟨by grind, by grind, by grind⟩
theorem mul_cancel_lt {a b c : Rat} (hc : 0 < c) : a * c < b * c ↔ a < b := by
 constructor
 · intro h
   have := pos_of_mul (a := c) (b := b - a) (by grind) (by grind)
   grind
 · intro h
   have := Rat.mul_pos (show 0 < b - a by grind) hc
   grind
theorem mul_cancel_eq {a b c : Rat} (hc : 0 < c) (h : a * c = b * c) : a = b := by
 have h3 : (a - b) * c = 0 := by grind
 rcases Rat.mul_eq_zero.1 h3 with h4 | h4 <;> grind
theorem conB_in {s : Sl} (hs : s.is) (hy : s.lo.y < s.hi.y) {x : Cel} (hk : x.k < 4) (hx : (x.r : Int) < cntK s x.k x.c) (p : V) : conB x.k (crnL s x) p = true ↔ inC s x p := by
 obtain ⟨k, c, r⟩ := x
 obtain ⟨px, py⟩ := p
 have hk' : k = 0 ∨ k = 1 ∨ k = 2 ∨ k = 3 := by have : k < 4 := hk; omega
 rcases hk' with rfl | rfl | rfl | rfl
 · obtain ⟨l, X, h1, h2, h3⟩ := lineN_inv (show (r : Int) < lineN s 0 c from hx)
   obtain ⟨y, hy'⟩ : ∃ y, l.xs[r]? = some y := ⟨_, List.getElem?_eq_getElem (by omega)⟩
   rw [show crnL s ⟨0, c, r⟩ = [⟨X, y⟩] by simp only [crnL]; rw [getD_of' h2, getD_of' (show (s.L.xs.map (·.xs))[c]? = some l.xs by rw [List.getElem?_map, h1]; rfl), getD_of' hy']]
   have e : conB 0 [(⟨X, y⟩ : V)] ⟨px, py⟩ = (true && decide (cmpV ⟨X, y⟩ ⟨px, py⟩ = 0)) := rfl
   show conB 0 _ _ = true ↔ _
   rw [e, Bool.true_and, decide_eq_true_eq, cmpV_zero]
   constructor
   · intro h
     obtain ⟨rfl, rfl⟩ := V.mk.inj h
     exact ⟨h2, l.xs, by show (s.L.xs[c]?).map (·.xs) = _; rw [h1]; rfl, hy'⟩
   · rintro ⟨a1, H, a2, a3⟩
     have a1 : s.X.xs[c]? = some px := a1
     have a2 : (s.L.xs[c]?).map (·.xs) = some H := a2
     have a3 : H[r]? = some py := a3
     rw [h1] at a2; cases a2
     rw [h2] at a1; cases a1
     simp only at a3
     rw [hy'] at a3; cases a3
     rfl
 · obtain ⟨l, X, h1, h2, h3⟩ := lineN_inv (show (r : Int) < lineN s 1 c from hx)
   obtain ⟨y, hy'⟩ : ∃ y, l.xs[r]? = some y := ⟨_, List.getElem?_eq_getElem (by omega)⟩
   obtain ⟨y', hy''⟩ : ∃ y, l.xs[r + 1]? = some y := ⟨_, List.getElem?_eq_getElem (by omega)⟩
   have hlt : y < y' := asc_get (ys_ranges hs (Rat.le_of_lt hy) h2 h1).asc hy' hy'' (by omega)
   rw [show crnL s ⟨1, c, r⟩ = [⟨X, y⟩, ⟨X, y'⟩] by simp only [crnL]; rw [getD_of' h2, getD_of' (show (s.L.xs.map (·.xs))[c]? = some l.xs by rw [List.getElem?_map, h1]; rfl), getD_of' hy', getD_of' hy'']]
   have e : conB 1 [(⟨X, y⟩ : V), ⟨X, y'⟩] ⟨px, py⟩ = (true && (betwB ⟨X, y⟩ ⟨X, y'⟩ ⟨px, py⟩ && (decide (cmpV ⟨X, y⟩ ⟨px, py⟩ ≠ 0) && decide (cmpV ⟨X, y'⟩ ⟨px, py⟩ ≠ 0)))) := rfl
   show conB 1 _ _ = true ↔ _
   rw [e, Bool.true_and, Bool.and_eq_true, Bool.and_eq_true, decide_eq_true_eq, decide_eq_true_eq, betw_iff (fun h => by have := congrArg V.y h; simp only at this; grind), onS_vert hlt]
   constructor
   · rintro ⟨⟨rfl, b1, b2⟩, b3, b4⟩
     have c1 : y ≠ py := fun h => b3 (cmpV_zero.2 (by rw [h]))
     have c2 : y' ≠ py := fun h => b4 (cmpV_zero.2 (by rw [h]))
     exact ⟨h2, l.xs, by show (s.L.xs[c]?).map (·.xs) = _; rw [h1]; rfl, y, y', hy', hy'', by grind, by grind⟩
   · rintro ⟨a1, H, a2, a3⟩
     have a1 : s.X.xs[c]? = some px := a1
     have a2 : (s.L.xs[c]?).map (·.xs) = some H := a2
     have a3 : ∃ a b, H[r]? = some a ∧ H[r + 1]? = some b ∧ a < py ∧ py < b := a3
     rw [h1] at a2; cases a2
     rw [h2] at a1; cases a1
     obtain ⟨a, b, k1, k2, k3, k4⟩ := a3
     simp only at k1 k2
     rw [hy'] at k1; cases k1
     rw [hy''] at k2; cases k2
     refine ⟨⟨rfl, by grind, by grind⟩, fun h => ?_, fun h => ?_⟩
     · have := congrArg V.y (cmpV_zero.1 h); simp only at this; grind
     · have := congrArg V.y (cmpV_zero.1 h); simp only at this; grind
 · obtain ⟨t, X, Y, h1, h2, h3, h4, h5⟩ := stripN_inv (show (r : Int) < stripN s 2 c from hx)
   have hN : Nx s c X Y := ⟨h2, h3⟩
   have hXY := hN.lt hs
   obtain ⟨a, b, g1, g2, _, _, g5⟩ := hgts_row hs hy hN h1 (r := r) (by omega)
   rw [show crnL s ⟨2, c, r⟩ = [⟨X, a⟩, ⟨Y, b⟩] by simp only [crnL, onP]; rw [getD_of' h2, getD_of' h3, getD_of' h1, getD_of' g1, getD_of' g2]]
   have e : conB 2 [(⟨X, a⟩ : V), ⟨Y, b⟩] ⟨px, py⟩ = (true && (betwB ⟨X, a⟩ ⟨Y, b⟩ ⟨px, py⟩ && (decide (cmpV ⟨X, a⟩ ⟨px, py⟩ ≠ 0) && decide (cmpV ⟨Y, b⟩ ⟨px, py⟩ ≠ 0)))) := rfl
   show conB 2 _ _ = true ↔ _
   rw [e, Bool.true_and, Bool.and_eq_true, Bool.and_eq_true, decide_eq_true_eq, decide_eq_true_eq, betw_iff (fun h => by have := congrArg V.x h; simp only at this; grind), onS_seg hXY]
   constructor
   · rintro ⟨⟨b1, b2, b5⟩, b3, b4⟩
     have c1 : X ≠ px := fun h => b3 (cmpV_zero.2 (by
       subst h
       rw [mul_cancel_eq (show 0 < Y - X by grind) (show py * (Y - X) = a * (Y - X) by grind)]))
     have c2 : Y ≠ px := fun h => b4 (cmpV_zero.2 (by
       subst h
       rw [mul_cancel_eq (show 0 < Y - X by grind) (show py * (Y - X) = b * (Y - X) by grind)]))
     obtain ⟨h, q1, q2⟩ := g5 px b1 b2
     rw [← b5] at q2
     rw [mul_cancel_eq (by grind) q2] at q1
     exact ⟨⟨X, Y, h2, h3, by grind, by grind⟩, hgtsL s t px, by show (s.S.xs[c]?).map (fun t => hgtsL s t px) = _; rw [h1]; rfl, by
       show rowIn (hgtsL s t px) (decide ((2 : Nat) % 2 = 0)) r py
       rw [show decide ((2 : Nat) % 2 = 0) = true by decide]
       exact q1⟩
   · rintro ⟨⟨X', Y', k1, k2, k3, k4⟩, H, a2, a3⟩
     have k1 : s.X.xs[c]? = some X' := k1
     have k2 : s.X.xs[c + 1]? = some Y' := k2
     have k3 : X' < px := k3
     have k4 : px < Y' := k4
     rw [h2] at k1; cases k1
     rw [h3] at k2; cases k2
     have a2 : (s.S.xs[c]?).map (fun t => hgtsL s t px) = some H := a2
     rw [h1] at a2; cases a2
     have a3 : rowIn (hgtsL s t px) true r py := by
       have h : rowIn (hgtsL s t px) (decide ((2 : Nat) % 2 = 0)) r py := a3
       rwa [show decide ((2 : Nat) % 2 = 0) = true by decide] at h
     have a3 : (hgtsL s t px)[r]? = some py := a3
     obtain ⟨h, q1, q2⟩ := g5 px (by grind) (by grind)
     rw [a3] at q1; cases q1
     refine ⟨⟨by grind, by grind, q2⟩, fun h => ?_, fun h => ?_⟩
     · have := congrArg V.x (cmpV_zero.1 h); simp only at this; grind
     · have := congrArg V.x (cmpV_zero.1 h); simp only at this; grind
 · obtain ⟨t, X, Y, h1, h2, h3, h4, h5⟩ := stripN_inv (show (r : Int) < stripN s 1 c from hx)
   have hN : Nx s c X Y := ⟨h2, h3⟩
   have hXY := hN.lt hs
   obtain ⟨a, b, g1, g2, _, _, g5⟩ := hgts_row hs hy hN h1 (r := r) (by omega)
   obtain ⟨a', b', g1', g2', _, _, g5'⟩ := hgts_row hs hy hN h1 (r := r + 1) (by omega)
   obtain ⟨m1, m2, m3⟩ := hgts_two hs hy hN h1 (show r < r + 1 by omega) g1 g2 g1' g2'
   rw [show crnL s ⟨3, c, r⟩ = unw (ddp [⟨X, a⟩, ⟨Y, b⟩, ⟨Y, b'⟩, ⟨X, a'⟩]) by simp only [crnL, crn3, onP]; rw [getD_of' h2, getD_of' h3, getD_of' h1, getD_of' g1, getD_of' g2, getD_of' g1', getD_of' g2']]
   show conB 3 _ _ = true ↔ _
   rw [con3 hXY m1 m2 m3]
   constructor
   · rintro ⟨b1, b2, b3, b4⟩
     obtain ⟨h, q1, q2⟩ := g5 px (by grind) (by grind)
     obtain ⟨h', q1', q2'⟩ := g5' px (by grind) (by grind)
     rw [← q2, mul_cancel_lt (by grind)] at b3
     rw [← q2', mul_cancel_lt (by grind)] at b4
     refine ⟨⟨X, Y, h2, h3, b1, b2⟩, hgtsL s t px, by show (s.S.xs[c]?).map (fun t => hgtsL s t px) = _; rw [h1]; rfl, ?_⟩
     show rowIn (hgtsL s t px) (decide ((3 : Nat) % 2 = 0)) r py
     rw [show decide ((3 : Nat) % 2 = 0) = false by decide]
     exact ⟨h, h', q1, q1', b3, b4⟩
   · rintro ⟨⟨X', Y', k1, k2, k3, k4⟩, H, a2, a3⟩
     have k1 : s.X.xs[c]? = some X' := k1
     have k2 : s.X.xs[c + 1]? = some Y' := k2
     have k3 : X' < px := k3
     have k4 : px < Y' := k4
     rw [h2] at k1; cases k1
     rw [h3] at k2; cases k2
     have a2 : (s.S.xs[c]?).map (fun t => hgtsL s t px) = some H := a2
     rw [h1] at a2; cases a2
     have a3 : rowIn (hgtsL s t px) false r py := by
       have h : rowIn (hgtsL s t px) (decide ((3 : Nat) % 2 = 0)) r py := a3
       rwa [show decide ((3 : Nat) % 2 = 0) = false by decide] at h
     obtain ⟨h, h', q1, q1', b3, b4⟩ := (show ∃ a b, (hgtsL s t px)[r]? = some a ∧ (hgtsL s t px)[r + 1]? = some b ∧ a < py ∧ py < b from a3)
     obtain ⟨z, w1, w2⟩ := g5 px (by grind) (by grind)
     obtain ⟨z', w1', w2'⟩ := g5' px (by grind) (by grind)
     rw [q1] at w1; cases w1
     rw [q1'] at w1'; cases w1'
     refine ⟨k3, k4, ?_, ?_⟩
     · rw [← w2, mul_cancel_lt (by grind)]; exact b3
     · rw [← w2', mul_cancel_lt (by grind)]; exact b4
theorem countP_one {α : Type} {f : α → Bool} {R : α → α → Prop} (hR : ∀ a, ¬ R a a) : ∀ {l : List α}, l.Pairwise R → ∀ {x : α}, x ∈ l → f x = true → (∀ y ∈ l, f y = true → y = x) → l.countP f = 1
 | a :: l, hp, x, hx, hf, hu => by
   obtain ⟨h1, h2⟩ := List.pairwise_cons.1 hp
   by_cases ha : f a = true
   · have e := hu a (List.mem_cons_self ..) ha
     rw [List.countP_cons_of_pos ha, List.countP_eq_zero.2 (fun y hy hfy => ?_)]
     have e2 := hu y (List.mem_cons_of_mem _ hy) hfy
     exact hR a (by have := h1 y hy; rw [e2, ← e] at this; exact this)
   · rw [List.countP_cons_of_neg ha]
     have hx' : x ∈ l := by
       rcases List.mem_cons.1 hx with rfl | h
       · exact absurd hf ha
       · exact h
     exact countP_one hR h2 hx' hf (fun y hy => hu y (List.mem_cons_of_mem _ hy))
 | [], _, x, hx, _, _ => by cases hx
theorem cless_irr (a : Cel) : ¬ cless a a := fun h => by unfold cless at h; omega
instance (lo hi p : V) : Decidable (inX lo hi p) := inferInstanceAs (Decidable (_ ∧ _))
theorem cells_count {s : Sl} (hs : s.is) (hx : s.lo.x ≤ s.hi.x) (hy : s.lo.y < s.hi.y) (p : V) : (cellsL s).countP (fun x => conB x.k (crnL s x) p) = if inX s.lo s.hi p then 1 else 0 := by
 have hmem : ∀ x ∈ cellsL s, (conB x.k (crnL s x) p = true ↔ inC s x p) := fun x hx => by
   obtain ⟨_, h2, h3⟩ := cellsL_mem hx
   exact conB_in hs hy h2 h3 p
 split
 · rename_i hp
   obtain ⟨x, h4, hx1⟩ := inC_exists hs hx hy hp
   have hxm := inC_mem hs h4 hx1
   exact countP_one cless_irr (colsL_asc s _ _) hxm ((hmem x hxm).2 hx1) (fun y hym hfy => inC_unique hs hy (cellsL_mem hym).2.1 h4 ((hmem y hym).1 hfy) hx1)
 · rename_i hp
   rw [List.countP_eq_zero]
   intro x hxm hf
   exact hp (inC_box hs hx hy ((hmem x hxm).1 hf))
end Go.Sx
end
section
/- The law of the partition. -/
set_option maxRecDepth 10000
set_option maxHeartbeats 2000000
namespace Go.Sx
open Go Go.Proofs
theorem mxI_le {a b n : Int} : mxI a b ≤ n ↔ a ≤ n ∧ b ≤ n := by unfold mxI; split <;> omega
theorem xs_sz_small {s : Sl} (hs : s.is) (hz : s.sz) (hx : s.lo.x ≤ s.hi.x) (hy : s.lo.y < s.hi.y) (hzx : s.szX) {x : Cel} (hk : x.k < 4) (hx2 : (x.r : Int) < cntK s x.k x.c) : ∀ v ∈ crnL s x, SzV 400000 v := by
 obtain ⟨k, c, r⟩ := x
 have hk' : k = 0 ∨ k = 1 ∨ k = 2 ∨ k = 3 := by have : k < 4 := hk; omega
 have sx : ∀ {c X}, s.X.xs[c]? = some X → Sz 400000 X := fun h => (hzx.X _ (List.mem_of_getElem? h)).le (by decide)
 have sl : ∀ {c r : Nat} {l : Ln Rat} {y : Rat}, s.L.xs[c]? = some l → l.xs[r]? = some y → Sz 400000 y := fun h h' => (hzx.L _ (List.mem_of_getElem? h) _ (List.mem_of_getElem? h')).le (by decide)
 have so : ∀ {c : Nat} {X : Rat} (t r), s.X.xs[c]? = some X → SzV 400000 (onP s t r X) := fun {c X} t r h => onP_sz hz ((hzx.X _ (List.mem_of_getElem? h)).le (by decide))
 rcases hk' with rfl | rfl | rfl | rfl
 · obtain ⟨l, X, h1, h2, h3⟩ := lineN_inv (show (r : Int) < lineN s 0 c from hx2)
   obtain ⟨y, hy'⟩ : ∃ y, l.xs[r]? = some y := ⟨_, List.getElem?_eq_getElem (by omega)⟩
   rw [show crnL s ⟨0, c, r⟩ = [⟨X, y⟩] by simp only [crnL]; rw [getD_of' h2, getD_of' (show (s.L.xs.map (·.xs))[c]? = some l.xs by rw [List.getElem?_map, h1]; rfl), getD_of' hy']]
   intro v hv
   rw [List.mem_singleton.1 hv]; exact ⟨sx h2, sl h1 hy'⟩
 · obtain ⟨l, X, h1, h2, h3⟩ := lineN_inv (show (r : Int) < lineN s 1 c from hx2)
   obtain ⟨y, hy'⟩ : ∃ y, l.xs[r]? = some y := ⟨_, List.getElem?_eq_getElem (by omega)⟩
   obtain ⟨y', hy''⟩ : ∃ y, l.xs[r + 1]? = some y := ⟨_, List.getElem?_eq_getElem (by omega)⟩
   rw [show crnL s ⟨1, c, r⟩ = [⟨X, y⟩, ⟨X, y'⟩] by simp only [crnL]; rw [getD_of' h2, getD_of' (show (s.L.xs.map (·.xs))[c]? = some l.xs by rw [List.getElem?_map, h1]; rfl), getD_of' hy', getD_of' hy'']]
   intro v hv
   simp only [List.mem_cons, List.not_mem_nil, or_false] at hv
   rcases hv with rfl | rfl
   · exact ⟨sx h2, sl h1 hy'⟩
   · exact ⟨sx h2, sl h1 hy''⟩
 · obtain ⟨t, X, Y, h1, h2, h3, h4, h5⟩ := stripN_inv (show (r : Int) < stripN s 2 c from hx2)
   rw [show crnL s ⟨2, c, r⟩ = [onP s t r X, onP s t r Y] by simp only [crnL]; rw [getD_of' h2, getD_of' h3, getD_of' h1]]
   intro v hv
   simp only [List.mem_cons, List.not_mem_nil, or_false] at hv
   rcases hv with rfl | rfl
   · exact so t r h2
   · exact so t r h3
 · obtain ⟨t, X, Y, h1, h2, h3, h4, h5⟩ := stripN_inv (show (r : Int) < stripN s 1 c from hx2)
   rw [show crnL s ⟨3, c, r⟩ = crn3 s t r X Y by simp only [crnL]; rw [getD_of' h2, getD_of' h3, getD_of' h1]]
   intro v hv
   have : v ∈ [onP s t r X, onP s t r Y, onP s t (r + 1) Y, onP s t (r + 1) X] := by
     unfold crn3 unw at hv
     refine ddp_mem.1 ?_
     split at hv
     · exact List.mem_of_mem_take hv
     · exact hv
   simp only [List.mem_cons, List.not_mem_nil, or_false] at this
   rcases this with rfl | rfl | rfl | rfl
   · exact so t r h2
   · exact so t r h3
   · exact so t (r + 1) h3
   · exact so t (r + 1) h2
theorem crnL_len {s : Sl} {x : Cel} : (crnL s x).length ≤ 4 := by
 obtain ⟨k, c, r⟩ := x
 match k with
 | 0 => exact Nat.le_of_ble_eq_true rfl
 | 1 => exact Nat.le_of_ble_eq_true rfl
 | 2 => exact Nat.le_of_ble_eq_true rfl
 | k + 3 => exact Nat.le_trans (unw_len _) (ddp_len _)
theorem w_SlabPartition (b : Bx) (A : Option Addr) (c : Nat) (l : List (Pt × Pt)) (hlc : l.length ≤ c) (p : Pt) :
   FnM PP f_narrowslaw16_SlabPartition [bxV b, .slice A l.length c, pV p] (facts [SlRes A (rowV sgC l)]) (retsV (.bool true)) := by
 refine FnS.of TBgood mixed h_narrowslaw16_SlabPartition rfl rfl (Nat.le_of_ble_eq_true rfl) (by simp [SlRes.ok]) ?_
 intro w hw
 by_cases hno : grt16 b l = true ∨ 8 < l.length ∨ bldE b l ≠ 0
 · have hn := c_lbuildNo b A c l hno
   conv => whnf
   refine cfs hn ?_
   conv => whnf
   refine cf c_awake16 ?_
   conv => whnf
   exact postV_one rfl
 obtain ⟨lo, hi, E, hB⟩ := Bld.of hno
 obtain ⟨rfl, rfl, hg, hlen, hx, hy, hlo, hhi, hE⟩ := hB
 have hb := c_lbuildOk lo hi E A c hg hlen hx hy hE hlo hhi
 rw [List.length_map, show rowV sgC (E.map fun e => (PQ e.1, PQ e.2)) = rowV sgq E from rowV_map ..]
 conv => whnf
 refine CallVC.e hb.enters (CallV.facts hb rfl (fun R h => h)) (fun i => F'_ok i) (fun d _ => ?_)
 obtain ⟨d, e1, e2, e3, his, e5⟩ := d
 have e6 : Ln.R sgq d.sg = SlRes A (rowV sgq E) := by rw [e3]; rfl
 have hF : ∀ R ∈ d.F, R ∈ d.F' ++ [SlRes A (rowV sgq E)] := fun R hR => by
   rcases Sl.F_F' hR with h | h
   · exact List.mem_append_left _ h
   · rw [h, e6]; exact List.mem_append_right _ (List.mem_cons_self ..)
 obtain ⟨hsm, hcl⟩ := Sl.is_small his (by rw [e3]; exact hlen)
 have hdz : d.sz := ⟨fun e he => hE e (by rw [e3] at he; exact he), by rw [e1]; exact hlo, by rw [e2]; exact hhi⟩
 have hdx := Sl.is_szX his hdz
 have hce := c_slCells d hsm hcl
 have hlx : d.lo.x ≤ d.hi.x := by rw [e1, e2]; exact Rat.le_of_lt hx
 have hly : d.lo.y < d.hi.y := by rw [e1, e2]; exact hy
 have hcount := cells_count his hlx hly p.v
 obtain ⟨re, hre⟩ : ∃ re, re = d.F' ++ [SlRes A (rowV sgq E)] := ⟨_, rfl⟩
 obtain ⟨cells, hcells⟩ : ∃ cs, cs = cellsL d := ⟨_, rfl⟩
 rw [← hcells] at hce hcl hcount
 rw [← hre] at hF
 conv => whnf
 by_cases hbig : mxI (mxI (mxI ((bs p.x.num).size : Int) ((bs p.x.den).size : Int)) ((bs p.y.num).size : Int)) ((bs p.y.den).size : Int) > 20
 · refine br_true (decide_eq_true hbig) ?_
   conv => whnf
   refine cf c_awake16 ?_
   conv => whnf
   exact postV_one rfl
 refine br_false (decide_eq_false hbig) ?_
 have hp : p.sm KV := by
   have h := Int.not_lt.1 hbig
   simp only [mxI_le, bs_size] at h
   exact Pt.sm.le (k := 20) ⟨⟨by omega, by omega⟩, by omega, by omega⟩ (by decide)
 conv => whnf
 refine CallVC.o 44 hce.enters (CallV.facts hce rfl (fun R h => by have := hF R h; rw [hre] at this; exact this)) rfl rfl ?_
 conv => whnf
 obtain ⟨n, hn⟩ : ∃ n, n = cells.length := ⟨_, rfl⟩
 rw [← hn] at hcl
 obtain ⟨f, hf⟩ : ∃ f : Cel → Bool, f = fun x => conB x.k (crnL d x) p.v := ⟨_, rfl⟩
 rw [← hf] at hcount
 refine sexec_loop (ι := Nat) (fun i => ⟨[(3, .o (.p 3 0)), (5, .o (.p 5 0)), (7, .o (.p 7 0)), (9, .o (.v (.int .i64 ((cells.take i).countP f : Nat)))), (44, .o (.w 44)), (45, .o (.v (.int .i64 n))), (46, .o (.v (.int .i64 i)))],
     [(3, .box ((boxC ⟨PQ lo, PQ hi⟩).map AV.v) t_api_Box), (5, .box ((ptC p).map AV.v) t_api_Point), (7, slM d), (44, .own t_api_Cell 3 n (rowV Cel.C cells))], re⟩)
   (fun i => i ≤ n) (fun i => n - i) 0 (Nat.zero_le _) (SLe.id ⟨rfl, rfl, rfl, rfl, rfl, by rw [hn]; rfl, rfl, trivial⟩ ⟨⟨_, rfl, .refl _⟩, ⟨_, rfl, .refl _⟩, ⟨_, rfl, .refl _⟩, ⟨_, rfl, by rw [hn]; exact .refl _⟩, trivial⟩ (fun R hR => by rw [hre] at hR; exact hR)) ?_
 intro i hi0
 have hi0 : i ≤ n := hi0
 have hcb : (cells.take i).countP f ≤ i := Nat.le_trans List.countP_le_length (by rw [List.length_take]; omega)
 conv => whnf
 by_cases hi' : i < n
 rotate_left
 · refine br_false (decide_eq_false (show ¬ (i : Int) < (n : Int) by omega)) ?_
   have hwi := c_Within ⟨PQ lo, PQ hi⟩ p ⟨hlo.q.le (by decide), hhi.q.le (by decide)⟩ hp
   rw [PQ_v, PQ_v] at hwi
   rw [List.take_of_length_le (by omega), hcount]
   rw [e1, e2]
   by_cases hin : inX lo hi p.v
   · rw [if_pos hin]
     rw [show withB lo hi p.v = true from decide_eq_true ⟨hin.1.1, hin.1.2, hin.2.1, hin.2.2⟩] at hwi
     conv => whnf
     refine cf hwi ?_
     conv => whnf
     refine cf c_awake16 ?_
     conv => whnf
     exact postV_one rfl
   · rw [if_neg hin]
     rw [show withB lo hi p.v = false from decide_eq_false (fun h => hin ⟨⟨h.1, h.2.1⟩, h.2.2⟩)] at hwi
     conv => whnf
     refine cf hwi ?_
     conv => whnf
     refine cf c_awake16 ?_
     conv => whnf
     exact postV_one rfl
 refine br_true (decide_eq_true (show (i : Int) < (n : Int) by omega)) ?_
 obtain ⟨x, hx'⟩ : ∃ x, cells[i]? = some x := ⟨_, List.getElem?_eq_getElem (by omega)⟩
 have hxm : x ∈ cellsL d := by rw [← hcells]; exact List.mem_of_getElem? hx'
 obtain ⟨m1, m2, m3⟩ := cellsL_mem hxm
 have hco := c_slCorners d x hsm hdz hdx m2 m3
 have hct : (cells.take (i + 1)).countP f = (cells.take i).countP f + (if f x then 1 else 0) := by
   rw [take_snoc' hx', List.countP_append, List.countP_singleton]
 obtain ⟨L, hL⟩ : ∃ L, L = crnL d x := ⟨_, rfl⟩
 have hLs : ∀ v ∈ L, SzV 400000 v := by rw [hL]; exact xs_sz_small his hdz hlx hly hdx m2 m3
 have hLl : L.length ≤ 4 := by rw [hL]; exact crnL_len
 have hfx : f x = conB x.k L p.v := by rw [hf, hL]
 rw [← hL] at hco
 conv => whnf
 refine ⟨by show (0 : Int) ≤ (i : Int) ∧ (i : Int) < n; omega, ?_⟩
 conv => whnf
 refine RowVC.elem Cel.C Cel.C_len (k := i) (by show (i : Int).toNat * 3 = i * 3; rw [Int.toNat_natCast]) (by omega) (by decide) (fun h => by cases h) ?_
 intro x' hx2
 obtain rfl : x' = x := by rw [hx'] at hx2; exact (Option.some.inj hx2).symm
 have hcn : ∀ A c, L.length ≤ c → FnM PP f_narrowslaw16_contains [x'.V, .slice A L.length c, pV p] (facts [SlRes A (rowV ptQ L)]) (retsV (.bool (f x'))) := fun A c _ => by
   rw [hfx]; exact c_contains A c x' L p hLs hp (by omega) m2
 conv => whnf
 refine CallVC.t 53 hco.enters (CallV.facts hco rfl (fun R h => hF R h)) rfl rfl ?_
 conv => whnf
 refine CallVC.v (hcn none _ (Nat.le_refl _)).enters (CallV.sl1 (x := .o (.w 53)) (fun z => [x'.V, z, pV p]) (RdA.own rfl) (List.mem_cons_of_mem _ (List.mem_cons_self ..)) (fun _ => rfl) hcn) ?_
 cases hfv : f x' with
 | true =>
   rw [hfv, if_pos rfl] at hct
   conv => whnf
   exact ⟨i + 1, by show i + 1 ≤ n; omega, by show n - (i + 1) < n - i; omega, SLe.id ⟨rfl, rfl, rfl, by rw [hct]; exact some_wrap (n := n) (by omega) hcl, rfl, rfl, some_wrap hi' (by omega), trivial⟩ ⟨⟨_, rfl, .refl _⟩, ⟨_, rfl, .refl _⟩, ⟨_, rfl, .refl _⟩, ⟨_, rfl, .refl _⟩, trivial⟩ (fun R hR => hR)⟩
 | false =>
   rw [hfv, if_neg (by decide), Nat.add_zero] at hct
   conv => whnf
   exact ⟨i + 1, by show i + 1 ≤ n; omega, by show n - (i + 1) < n - i; omega, SLe.id ⟨rfl, rfl, rfl, by rw [hct]; rfl, rfl, rfl, some_wrap hi' (by omega), trivial⟩ ⟨⟨_, rfl, .refl _⟩, ⟨_, rfl, .refl _⟩, ⟨_, rfl, .refl _⟩, ⟨_, rfl, .refl _⟩, trivial⟩ (fun R hR => hR)⟩
end Go.Sx
end
