/- A part of the proof of a law: the symbolic executor, contracts of functions of the program, plain laws. No conditions. -/
import Derived.Test.YtjhgjniipoemgaaGreatM8
import Derived.SizedLaws
set_option linter.unusedVariables false
set_option linter.unusedSimpArgs false
set_option linter.unusedSectionVars false
section
set_option maxRecDepth 10000
set_option maxHeartbeats 1000000
namespace Go.Sx
def rowIn (H : List Rat) (flat : Bool) (r : Nat) (y : Rat) : Prop := if flat then H[r]? = some y else ∃ a b, H[r]? = some a ∧ H[r + 1]? = some b ∧ a < y ∧ y < b
theorem row_exists {y z : Rat} : ∀ {l : List Rat} {a : Rat}, a ≤ y → (a :: l)[l.length]? = some z → y ≤ z → ∃ f r, rowIn (a :: l) f r y
 | [], a, h1, h2, h3 => by
   simp at h2
   refine ⟨true, 0, ?_⟩
   show some a = some y
   congr 1; grind
 | b :: l, a, h1, h2, h3 => by
   by_cases e : y = a
   · exact ⟨true, 0, by show some a = some y; rw [e]⟩
   by_cases e2 : y < b
   · exact ⟨false, 0, a, b, rfl, rfl, by grind, e2⟩
   · obtain ⟨f, r, h⟩ := row_exists (l := l) (a := b) (by grind) (by simpa using h2) h3
     refine ⟨f, r + 1, ?_⟩
     unfold rowIn at h ⊢
     cases f
     · obtain ⟨u, v, k1, k2, k3⟩ := h
       exact ⟨u, v, by simpa using k1, by simpa using k2, k3⟩
     · simpa using h
theorem asc_first {l : List Rat} (h : Asc l) {m : Rat} (hm : m ∈ l) (hle : ∀ z ∈ l, m ≤ z) : l[0]? = some m := by
 obtain ⟨j, hj⟩ := List.getElem?_of_mem hm
 by_cases h0 : j = 0
 · rw [h0] at hj; exact hj
 · obtain ⟨x, hx⟩ : ∃ x, l[0]? = some x := ⟨_, List.getElem?_eq_getElem (by have := (List.getElem?_eq_some_iff.1 hj).1; omega)⟩
   have := asc_get h hx hj (by omega)
   have := hle x (List.mem_of_getElem? hx)
   grind
theorem asc_last {l : List Rat} (h : Asc l) {m : Rat} (hm : m ∈ l) (hle : ∀ z ∈ l, z ≤ m) : l[l.length - 1]? = some m := by
 obtain ⟨j, hj⟩ := List.getElem?_of_mem hm
 have hl := (List.getElem?_eq_some_iff.1 hj).1
 by_cases h0 : j = l.length - 1
 · rw [h0] at hj; exact hj
 · obtain ⟨x, hx⟩ : ∃ x, l[l.length - 1]? = some x := ⟨_, List.getElem?_eq_getElem (by omega)⟩
   have := asc_get h hj hx (by omega)
   have := hle x (List.mem_of_getElem? hx)
   grind
structure Ranges (H : List Rat) (lo hi : Rat) : Prop where
 asc : Asc H
 first : H[0]? = some lo
 last : H[H.length - 1]? = some hi
theorem Ranges.ex {H : List Rat} {lo hi : Rat} (h : Ranges H lo hi) {y : Rat} (h1 : lo ≤ y) (h2 : y ≤ hi) : ∃ f r, rowIn H f r y := by
 cases H with
 | nil => have := h.first; cases this
 | cons a l =>
   have e : a = lo := Option.some.inj h.first
   exact row_exists (z := hi) (by rw [e]; exact h1) (by simpa using h.last) h2
theorem Ranges.mem {H : List Rat} {lo hi : Rat} (h : Ranges H lo hi) {i : Nat} {x : Rat} (hx : H[i]? = some x) : lo ≤ x ∧ x ≤ hi := by
 have hl := (List.getElem?_eq_some_iff.1 hx).1
 constructor
 · by_cases h0 : i = 0
   · subst h0; rw [h.first] at hx; cases hx; exact Rat.le_refl
   · exact Rat.le_of_lt (asc_get h.asc h.first hx (by omega))
 · by_cases h0 : i = H.length - 1
   · subst h0; rw [h.last] at hx; cases hx; exact Rat.le_refl
   · exact Rat.le_of_lt (asc_get h.asc hx h.last (by omega))
theorem Ranges.bd {H : List Rat} {lo hi : Rat} (h : Ranges H lo hi) {f : Bool} {r : Nat} {y : Rat} (h1 : rowIn H f r y) : lo ≤ y ∧ y ≤ hi := by
 unfold rowIn at h1
 cases f <;> simp only [if_true, if_false, Bool.false_eq_true] at h1
 · obtain ⟨a, b, a1, b1, c1, d1⟩ := h1
   have := h.mem a1
   have := h.mem b1
   exact ⟨by grind, by grind⟩
 · exact h.mem h1
theorem xs_ranges {s : Sl} (hs : s.is) (hx : s.lo.x ≤ s.hi.x) : Ranges s.X.xs s.lo.x s.hi.x := ⟨Sl.is_asc hs, Sl.is_first hs hx, Sl.is_last hs hx⟩
theorem ys_in {s : Sl} (hy : s.lo.y ≤ s.hi.y) {X : Rat} : ∀ y ∈ ysL s.lo s.hi (pcsL s.lo s.hi s.sg.xs) X, s.lo.y ≤ y ∧ y ≤ s.hi.y := fun y hm => by
 rw [ysL, ascL_mem] at hm
 rcases List.mem_cons.1 hm with rfl | hm
 · exact ⟨Rat.le_refl, hy⟩
 rcases List.mem_cons.1 hm with rfl | hm
 · exact ⟨hy, Rat.le_refl⟩
 obtain ⟨p, hp, h⟩ := List.mem_flatMap.1 hm
 obtain ⟨e, he⟩ := pcs_of hp
 rcases List.mem_append.1 h with h | h
 · split at h
   · simp only [List.mem_cons, List.not_mem_nil, or_false] at h
     rcases h with rfl | rfl
     · exact he.ia.2
     · exact he.ib.2
   · cases h
 · cases hh : hgtO p X with
   | none => rw [hh] at h; cases h
   | some z =>
     rw [hh] at h
     rw [List.mem_singleton.1 (show y ∈ [z] from h)]
     exact (inX_on he.ia he.ib (hgtO_on hh).2).2
theorem line_at {s : Sl} (hs : s.is) {c : Nat} {X : Rat} {l : Ln Rat} (hx : s.X.xs[c]? = some X) (hl : s.L.xs[c]? = some l) : l.xs = ysL s.lo s.hi (pcsL s.lo s.hi s.sg.xs) X := by
 have h := congrArg (fun z : List (List Rat) => z[c]?) hs.2.1
 simp only [List.getElem?_map, hx, hl, Option.map_some] at h
 exact Option.some.inj h
theorem ys_ranges {s : Sl} (hs : s.is) (hy : s.lo.y ≤ s.hi.y) {c : Nat} {X : Rat} {l : Ln Rat} (hx : s.X.xs[c]? = some X) (hl : s.L.xs[c]? = some l) : Ranges l.xs s.lo.y s.hi.y := by
 rw [line_at hs hx hl]
 have ha : Asc (ysL s.lo s.hi (pcsL s.lo s.hi s.sg.xs) X) := ascL_asc _
 exact ⟨ha, asc_first ha (ascL_mem.2 (List.mem_cons_self ..)) (fun z hz => (ys_in hy z hz).1), asc_last ha (ascL_mem.2 (List.mem_cons_of_mem _ (List.mem_cons_self ..))) (fun z hz => (ys_in hy z hz).2)⟩
theorem hgts_ends (s : Sl) (t : Ln Nat) (x : Rat) : (hgtsL s t x)[0]? = some s.lo.y ∧ (hgtsL s t x)[(hgtsL s t x).length - 1]? = some s.hi.y := by
 refine ⟨rfl, ?_⟩
 have : (hgtsL s t x).length - 1 = t.xs.length + 1 := by simp [hgtsL]
 rw [this, hgtsL, List.getElem?_cons_succ, List.getElem?_append_right (by simp)]; simp
def colH (s : Sl) (line : Bool) (c : Nat) (x : Rat) : Option (List Rat) := if line then (s.L.xs[c]?).map (·.xs) else (s.S.xs[c]?).map fun t => hgtsL s t x
def inC (s : Sl) (x : Cel) (p : V) : Prop := rowIn s.X.xs (decide (x.k < 2)) x.c p.x ∧ ∃ H, colH s (decide (x.k < 2)) x.c p.x = some H ∧ rowIn H (decide (x.k % 2 = 0)) x.r p.y
theorem colH_ranges {s : Sl} (hs : s.is) (hy : s.lo.y < s.hi.y) {f : Bool} {c : Nat} {x : Rat} {H : List Rat} (h1 : rowIn s.X.xs f c x) (h2 : colH s f c x = some H) : Ranges H s.lo.y s.hi.y := by
 unfold rowIn at h1
 unfold colH at h2
 cases f <;> simp only [if_true, if_false, Bool.false_eq_true] at h1 h2
 · obtain ⟨X, Y, a1, b1, c1, d1⟩ := h1
   cases ht : s.S.xs[c]? with
   | none => rw [ht] at h2; cases h2
   | some t =>
     rw [ht] at h2; cases h2
     exact ⟨hgts_asc_in hs hy ⟨a1, b1⟩ ht c1 d1, (hgts_ends s t x).1, (hgts_ends s t x).2⟩
 · cases hl : s.L.xs[c]? with
   | none => rw [hl] at h2; cases h2
   | some l => rw [hl] at h2; cases h2; exact ys_ranges hs (Rat.le_of_lt hy) h1 hl
theorem colH_some {s : Sl} (hs : s.is) {f : Bool} {c : Nat} {x : Rat} (h1 : rowIn s.X.xs f c x) : ∃ H, colH s f c x = some H := by
 obtain ⟨e1, e2, e3⟩ := Sl.is_len hs
 unfold rowIn at h1
 unfold colH
 cases f <;> simp only [if_true, if_false, Bool.false_eq_true] at h1 ⊢
 · obtain ⟨X, Y, a1, b1, _⟩ := h1
   have := (List.getElem?_eq_some_iff.1 b1).1
   rw [List.getElem?_eq_getElem (show c < s.S.xs.length by omega)]; exact ⟨_, rfl⟩
 · have := (List.getElem?_eq_some_iff.1 h1).1
   rw [List.getElem?_eq_getElem (show c < s.L.xs.length by omega)]; exact ⟨_, rfl⟩
theorem inC_box {s : Sl} (hs : s.is) (hx : s.lo.x ≤ s.hi.x) (hy : s.lo.y < s.hi.y) {x : Cel} {p : V} (h : inC s x p) : inX s.lo s.hi p := by
 obtain ⟨a1, H, a2, a3⟩ := h
 exact ⟨(xs_ranges hs hx).bd a1, (colH_ranges hs hy a1 a2).bd a3⟩
theorem colF_mem' {s : Sl} {x : Cel} : ∀ {j : Nat}, j ≤ 4 → 4 - j ≤ x.k → x.k < 4 → (x.r : Int) < cntK s x.k x.c → x ∈ colF s x.c j
 | 0, _, h1, h2, _ => by omega
 | j + 1, hj, h1, h2, h3 => by
   rw [colF]
   by_cases h : x.k = 3 - j
   · refine List.mem_append_left _ (List.mem_map.2 ⟨x.r, List.mem_range.2 (by rw [← h]; omega), by rw [← h]⟩)
   · exact List.mem_append_right _ (colF_mem' (by omega) (by omega) h2 h3)
theorem colsL_mem' {s : Sl} {x : Cel} (h2 : x.k < 4) (h3 : (x.r : Int) < cntK s x.k x.c) : ∀ {n c : Nat}, c ≤ x.c → x.c < c + n → x ∈ colsL s c n
 | 0, c, h, h' => by omega
 | n + 1, c, h, h' => by
   rw [colsL]
   by_cases hc : x.c = c
   · rw [← hc]; exact List.mem_append_left _ (colF_mem' (Nat.le_refl 4) (by omega) h2 h3)
   · exact List.mem_append_right _ (colsL_mem' h2 h3 (by omega) (by omega))
theorem cellsL_mem' {s : Sl} {x : Cel} (h1 : x.c < s.X.xs.length) (h2 : x.k < 4) (h3 : (x.r : Int) < cntK s x.k x.c) : x ∈ cellsL s := colsL_mem' h2 h3 (Nat.zero_le _) (by omega)
theorem cnt_of {s : Sl} (hs : s.is) {x : Cel} (h4 : x.k < 4) {y : Rat} {p : Rat} (h1 : rowIn s.X.xs (decide (x.k < 2)) x.c p) {H : List Rat} (h2 : colH s (decide (x.k < 2)) x.c p = some H) (h3 : rowIn H (decide (x.k % 2 = 0)) x.r y) : (x.r : Int) < cntK s x.k x.c := by
 obtain ⟨k, c, r⟩ := x
 obtain ⟨e1, e2, e3⟩ := Sl.is_len hs
 have hk : k = 0 ∨ k = 1 ∨ k = 2 ∨ k = 3 := by have : k < 4 := h4; omega
 have hL : ∀ {d : Nat} {l : Ln Rat}, s.L.xs[c]? = some l → lineN s d c = (l.xs.length : Int) - d := fun {d l} hl => by
   have := (List.getElem?_eq_some_iff.1 hl).1
   unfold lineN
   rw [if_pos ⟨this, by omega⟩, List.getD_eq_getElem?_getD, List.getElem?_map, hl]; rfl
 have hS : ∀ {d : Nat} {t : Ln Nat}, s.S.xs[c]? = some t → stripN s d c = (t.xs.length : Int) + d := fun {d t} ht => by
   have := (List.getElem?_eq_some_iff.1 ht).1
   unfold stripN
   rw [if_pos ⟨this, by omega, by omega⟩, List.getD_eq_getElem?_getD, List.getElem?_map, ht]; rfl
 rcases hk with rfl | rfl | rfl | rfl
 · have h2 : (s.L.xs[c]?).map (·.xs) = some H := h2
   have h3 : H[r]? = some y := h3
   cases hl : s.L.xs[c]? with
   | none => rw [hl] at h2; cases h2
   | some l =>
     rw [hl] at h2; cases h2
     show (r : Int) < lineN s 0 c
     rw [hL hl]
     have := (List.getElem?_eq_some_iff.1 h3).1
     simp only at this
     omega
 · have h2 : (s.L.xs[c]?).map (·.xs) = some H := h2
   have h3 : ∃ a b, H[r]? = some a ∧ H[r + 1]? = some b ∧ a < y ∧ y < b := h3
   cases hl : s.L.xs[c]? with
   | none => rw [hl] at h2; cases h2
   | some l =>
     rw [hl] at h2; cases h2
     show (r : Int) < lineN s 1 c
     rw [hL hl]
     obtain ⟨a, b, _, h5, _⟩ := h3
     have := (List.getElem?_eq_some_iff.1 h5).1
     simp only at this
     omega
 · have h2 : (s.S.xs[c]?).map (fun t => hgtsL s t p) = some H := h2
   have h3 : rowIn H true r y := by have h : rowIn H (decide ((2 : Nat) % 2 = 0)) r y := h3; rwa [show decide ((2 : Nat) % 2 = 0) = true by decide] at h
   have h3 : H[r]? = some y := h3
   cases ht : s.S.xs[c]? with
   | none => rw [ht] at h2; cases h2
   | some t =>
     rw [ht] at h2; cases h2
     show (r : Int) < stripN s 2 c
     rw [hS ht]
     have := (List.getElem?_eq_some_iff.1 h3).1
     simp [hgtsL] at this
     omega
 · have h2 : (s.S.xs[c]?).map (fun t => hgtsL s t p) = some H := h2
   have h3 : rowIn H false r y := by have h : rowIn H (decide ((3 : Nat) % 2 = 0)) r y := h3; rwa [show decide ((3 : Nat) % 2 = 0) = false by decide] at h
   have h3 : ∃ a b, H[r]? = some a ∧ H[r + 1]? = some b ∧ a < y ∧ y < b := h3
   cases ht : s.S.xs[c]? with
   | none => rw [ht] at h2; cases h2
   | some t =>
     rw [ht] at h2; cases h2
     show (r : Int) < stripN s 1 c
     rw [hS ht]
     obtain ⟨a, b, _, h5, _⟩ := h3
     have := (List.getElem?_eq_some_iff.1 h5).1
     simp [hgtsL] at this
     omega
theorem inC_mem {s : Sl} (hs : s.is) {x : Cel} (h4 : x.k < 4) {p : V} (h : inC s x p) : x ∈ cellsL s := by
 obtain ⟨a1, H, a2, a3⟩ := h
 refine cellsL_mem' ?_ h4 (cnt_of hs h4 a1 a2 a3)
 unfold rowIn at a1
 split at a1
 · exact (List.getElem?_eq_some_iff.1 a1).1
 · obtain ⟨a, b, h1, _⟩ := a1
   exact (List.getElem?_eq_some_iff.1 h1).1
def kindOf (line flat : Bool) : Nat := if line then (if flat then 0 else 1) else (if flat then 2 else 3)
theorem inC_exists {s : Sl} (hs : s.is) (hx : s.lo.x ≤ s.hi.x) (hy : s.lo.y < s.hi.y) {p : V} (hp : inX s.lo s.hi p) : ∃ x, x.k < 4 ∧ inC s x p := by
 obtain ⟨f, c, h1⟩ := (xs_ranges hs hx).ex hp.1.1 hp.1.2
 obtain ⟨H, h2⟩ := colH_some hs h1
 obtain ⟨g, r, h3⟩ := (colH_ranges hs hy h1 h2).ex hp.2.1 hp.2.2
 refine ⟨⟨kindOf f g, c, r⟩, by show kindOf f g < 4; cases f <;> cases g <;> decide, ?_⟩
 have e1 : decide (kindOf f g < 2) = f := by cases f <;> cases g <;> rfl
 have e2 : decide (kindOf f g % 2 = 0) = g := by cases f <;> cases g <;> rfl
 show rowIn s.X.xs (decide (kindOf f g < 2)) c p.x ∧ ∃ H, colH s (decide (kindOf f g < 2)) c p.x = some H ∧ rowIn H (decide (kindOf f g % 2 = 0)) r p.y
 rw [e1, e2]
 exact ⟨h1, H, h2, h3⟩
end Go.Sx
end
section
set_option maxRecDepth 10000
set_option maxHeartbeats 1000000
namespace Go.Sx
theorem betw_iff {a b p : V} (hab : a ≠ b) : betwB a b p = true ↔ onS a b p := by
 refine ⟨betw_at hab, ?_⟩
 rintro ⟨t, ⟨t0, t1⟩, rfl⟩
 unfold betwB
 simp only [Bool.and_eq_true, decide_eq_true_eq, Bool.or_eq_true]
 refine ⟨cmpQ_eq.2 ?_, ?_, .inl (fun h => hab (cmpV_zero.1 h))⟩
 · show (b.x - a.x) * ((a.y + (b.y - a.y) * t) - a.y) - (b.y - a.y) * ((a.x + (b.x - a.x) * t) - a.x) = 0
   grind
 · by_cases h0 : t = 0
   · rw [h0, V.at_zero, cmpV_zero.2 rfl]; simp
   by_cases h1 : t = 1
   · rw [h1, V.at_one, cmpV_zero.2 (show b = b from rfl)]; simp
   rw [cmpV_step (by grind), cmpV_step' (by grind)]
   rcases cmpV_cases a b with h | h | h <;> rw [h] <;> decide
theorem onS_seg {X Y a b x h : Rat} (hXY : X < Y) : onS ⟨X, a⟩ ⟨Y, b⟩ ⟨x, h⟩ ↔ X ≤ x ∧ x ≤ Y ∧ h * (Y - X) = a * (Y - x) + b * (x - X) := by
 constructor
 · intro o
   have c := onS_col (onS_left (⟨X, a⟩ : V) ⟨Y, b⟩) (onS_right (⟨X, a⟩ : V) ⟨Y, b⟩) o
   obtain ⟨t, ⟨t0, t1⟩, e⟩ := o
   have ex : x = X + (Y - X) * t := congrArg V.x e
   have k1 := Rat.mul_nonneg (show 0 ≤ Y - X by grind) t0
   have k2 := Rat.mul_nonneg (show 0 ≤ Y - X by grind) (show 0 ≤ 1 - t by grind)
   exact ⟨by grind, by grind, by grind⟩
 · rintro ⟨h1, h2, h3⟩
   exact onS_lin (onS_left _ _) (onS_right _ _) hXY h1 h2 (by grind)
theorem onS_vert {X y y' x h : Rat} (hy : y < y') : onS ⟨X, y⟩ ⟨X, y'⟩ ⟨x, h⟩ ↔ x = X ∧ y ≤ h ∧ h ≤ y' := by
 constructor
 · rintro ⟨t, ⟨t0, t1⟩, e⟩
   have ex : x = X + (X - X) * t := congrArg V.x e
   have ey : h = y + (y' - y) * t := congrArg V.y e
   have k1 := Rat.mul_nonneg (show 0 ≤ y' - y by grind) t0
   have k2 := Rat.mul_nonneg (show 0 ≤ y' - y by grind) (show 0 ≤ 1 - t by grind)
   exact ⟨by grind, by grind, by grind⟩
 · rintro ⟨rfl, h1, h2⟩
   obtain ⟨u, hd, u0, u1, _⟩ := ratio_ex (d := h - y) (g := y' - h) (by grind) (by grind) (by grind)
   refine ⟨u, ⟨u0, u1⟩, ?_⟩
   show (⟨x, h⟩ : V) = ⟨x + (x - x) * u, y + (y' - y) * u⟩
   congr 1 <;> grind
def orR (a b p : V) : Prop := 0 < (b - a).cross (p - a)
theorem orB_iff {a b p : V} : orB a b p = false ↔ orR a b p := by
 unfold orB orR
 rw [decide_eq_false_iff_not, cmpQ_le]
 exact Rat.not_le
theorem con_ring3 (A B C p : V) : conB 3 [A, B, C] p = true ↔ orR A B p ∧ orR B C p ∧ orR C A p := by
 have e : conB 3 [A, B, C] p = (!(orB A B p || (orB B C p || (orB C A p || false))) && (true && true)) := by simp [conB, ringG, List.range_succ]
 rw [e, ← orB_iff, ← orB_iff, ← orB_iff]
 cases orB A B p <;> cases orB B C p <;> cases orB C A p <;> simp
theorem con_ring4 (A B C D p : V) : conB 3 [A, B, C, D] p = true ↔ orR A B p ∧ orR B C p ∧ orR C D p ∧ orR D A p := by
 have e : conB 3 [A, B, C, D] p = (!(orB A B p || (orB B C p || (orB C D p || (orB D A p || false)))) && (true && true)) := by simp [conB, ringG, List.range_succ]
 rw [e, ← orB_iff, ← orB_iff, ← orB_iff, ← orB_iff]
 cases orB A B p <;> cases orB B C p <;> cases orB C D p <;> cases orB D A p <;> simp
theorem orR_mk {x y u v a b : Rat} : orR ⟨x, y⟩ ⟨u, v⟩ ⟨a, b⟩ ↔ 0 < (u - x) * (b - y) - (v - y) * (a - x) := Iff.rfl
theorem pos_of_mul {a b : Rat} (h : 0 < a * b) (ha : 0 ≤ a) : 0 < b := by
 refine Rat.not_le.1 fun hb => ?_
 have := Rat.mul_nonneg ha (show 0 ≤ -b by grind)
 grind
theorem crn3_cases {X Y a b a' b' : Rat} (hXY : X < Y) (h1 : a ≤ a') (h2 : b ≤ b') (h3 : a < a' ∨ b < b') :
   (a < a' ∧ b < b' ∧ unw (ddp [⟨X, a⟩, ⟨Y, b⟩, ⟨Y, b'⟩, (⟨X, a'⟩ : V)]) = [⟨X, a⟩, ⟨Y, b⟩, ⟨Y, b'⟩, ⟨X, a'⟩]) ∨ (a < a' ∧ b = b' ∧ unw (ddp [⟨X, a⟩, ⟨Y, b⟩, ⟨Y, b'⟩, (⟨X, a'⟩ : V)]) = [⟨X, a⟩, ⟨Y, b⟩, ⟨X, a'⟩]) ∨
   (a = a' ∧ b < b' ∧ unw (ddp [⟨X, a⟩, ⟨Y, b⟩, ⟨Y, b'⟩, (⟨X, a'⟩ : V)]) = [⟨X, a⟩, ⟨Y, b⟩, ⟨Y, b'⟩]) := by
 have n1 : ¬ (⟨Y, b⟩ : V) = ⟨X, a⟩ := fun h => by have := congrArg V.x h; simp only at this; grind
 have n2 : ¬ (⟨X, a'⟩ : V) = ⟨Y, b'⟩ := fun h => by have := congrArg V.x h; simp only at this; grind
 have d1 : ∀ l, ddpG (⟨X, a⟩ : V) (⟨Y, b⟩ :: l) = ⟨Y, b⟩ :: ddpG ⟨Y, b⟩ l := fun l => by rw [ddpG, if_neg n1]
 have d3 : ddpG (⟨Y, b'⟩ : V) [⟨X, a'⟩] = [⟨X, a'⟩] := by rw [ddpG, if_neg n2]; rfl
 have e0 : ddp [⟨X, a⟩, ⟨Y, b⟩, ⟨Y, b'⟩, (⟨X, a'⟩ : V)] = ⟨X, a⟩ :: ⟨Y, b⟩ :: ddpG ⟨Y, b⟩ [⟨Y, b'⟩, ⟨X, a'⟩] := by rw [ddp, d1]
 by_cases ha : a < a'
 · have n3 : ¬ (⟨X, a⟩ : V) = ⟨X, a'⟩ := fun h => by have := congrArg V.y h; simp only at this; grind
   by_cases hb : b < b'
   · left
     refine ⟨ha, hb, ?_⟩
     have n4 : ¬ (⟨Y, b'⟩ : V) = ⟨Y, b⟩ := fun h => by have := congrArg V.y h; simp only at this; grind
     rw [e0, ddpG, if_neg n4, d3]
     unfold unw
     rw [if_neg (fun h => n3 (Option.some.inj h.2))]
   · right; left
     have e : b = b' := by grind
     subst e
     refine ⟨ha, rfl, ?_⟩
     rw [e0, ddpG, if_pos rfl, d3]
     unfold unw
     rw [if_neg (fun h => n3 (Option.some.inj h.2))]
 · right; right
   have e : a = a' := by grind
   subst e
   have hb : b < b' := by grind
   refine ⟨rfl, hb, ?_⟩
   have n4 : ¬ (⟨Y, b'⟩ : V) = ⟨Y, b⟩ := fun h => by have := congrArg V.y h; simp only at this; grind
   rw [e0, ddpG, if_neg n4, d3]
   unfold unw
   rw [if_pos ⟨by simp, rfl⟩]; rfl
theorem con3 {X Y a b a' b' : Rat} (hXY : X < Y) (h1 : a ≤ a') (h2 : b ≤ b') (h3 : a < a' ∨ b < b') {x y : Rat} : conB 3 (unw (ddp [⟨X, a⟩, ⟨Y, b⟩, ⟨Y, b'⟩, (⟨X, a'⟩ : V)])) ⟨x, y⟩ = true ↔
   X < x ∧ x < Y ∧ a * (Y - x) + b * (x - X) < y * (Y - X) ∧ y * (Y - X) < a' * (Y - x) + b' * (x - X) := by
 rcases crn3_cases hXY h1 h2 h3 with ⟨ha, hb, e⟩ | ⟨ha, hb, e⟩ | ⟨ha, hb, e⟩
 · rw [e, con_ring4, orR_mk, orR_mk, orR_mk, orR_mk]
   constructor
   · rintro ⟨k1, k2, k3, k4⟩
     have q1 := pos_of_mul (a := b' - b) (b := Y - x) (by grind) (by grind)
     have q2 := pos_of_mul (a := a' - a) (b := x - X) (by grind) (by grind)
     exact ⟨by grind, by grind, by grind, by grind⟩
   · rintro ⟨k1, k2, k3, k4⟩
     have q1 := Rat.mul_pos (show 0 < b' - b by grind) (show 0 < Y - x by grind)
     have q2 := Rat.mul_pos (show 0 < a' - a by grind) (show 0 < x - X by grind)
     exact ⟨by grind, by grind, by grind, by grind⟩
 · subst hb
   rw [e, con_ring3, orR_mk, orR_mk, orR_mk]
   constructor
   · rintro ⟨k1, k2, k3⟩
     have q1 := pos_of_mul (a := a' - a) (b := Y - x) (by grind) (by grind)
     have q2 := pos_of_mul (a := a' - a) (b := x - X) (by grind) (by grind)
     exact ⟨by grind, by grind, by grind, by grind⟩
   · rintro ⟨k1, k2, k3, k4⟩
     have q2 := Rat.mul_pos (show 0 < a' - a by grind) (show 0 < x - X by grind)
     exact ⟨by grind, by grind, by grind⟩
 · subst ha
   rw [e, con_ring3, orR_mk, orR_mk, orR_mk]
   constructor
   · rintro ⟨k1, k2, k3⟩
     have q1 := pos_of_mul (a := b' - b) (b := Y - x) (by grind) (by grind)
     have q2 := pos_of_mul (a := b' - b) (b := x - X) (by grind) (by grind)
     exact ⟨by grind, by grind, by grind, by grind⟩
   · rintro ⟨k1, k2, k3, k4⟩
     have q2 := Rat.mul_pos (show 0 < b' - b by grind) (show 0 < Y - x by grind)
     exact ⟨by grind, by grind, by grind⟩
theorem mul_cancel_lt {a b c : Rat} (hc : 0 < c) : a * c < b * c ↔ a < b := by
 constructor
 · intro h
   have := pos_of_mul (a := c) (b := b - a) (by grind) (by grind)
   grind
 · intro h
   have := Rat.mul_pos (show 0 < b - a by grind) hc
   grind
theorem mul_cancel_eq {a b c : Rat} (hc : 0 < c) (h : a * c = b * c) : a = b := by
 have h3 : (a - b) * c = 0 := by grind
 rcases Rat.mul_eq_zero.1 h3 with h4 | h4 <;> grind
theorem conB_in {s : Sl} (hs : s.is) (hy : s.lo.y < s.hi.y) {x : Cel} (hk : x.k < 4) (hx : (x.r : Int) < cntK s x.k x.c) (p : V) : conB x.k (crnL s x) p = true ↔ inC s x p := by
 obtain ⟨k, c, r⟩ := x
 obtain ⟨px, py⟩ := p
 have hk' : k = 0 ∨ k = 1 ∨ k = 2 ∨ k = 3 := by have : k < 4 := hk; omega
 rcases hk' with rfl | rfl | rfl | rfl
 · obtain ⟨l, X, h1, h2, h3⟩ := lineN_inv (show (r : Int) < lineN s 0 c from hx)
   obtain ⟨y, hy'⟩ : ∃ y, l.xs[r]? = some y := ⟨_, List.getElem?_eq_getElem (by omega)⟩
   rw [show crnL s ⟨0, c, r⟩ = [⟨X, y⟩] by simp only [crnL]; rw [getD_of' h2, getD_of' (show (s.L.xs.map (·.xs))[c]? = some l.xs by rw [List.getElem?_map, h1]; rfl), getD_of' hy']]
   have e : conB 0 [(⟨X, y⟩ : V)] ⟨px, py⟩ = (true && decide (cmpV ⟨X, y⟩ ⟨px, py⟩ = 0)) := rfl
   show conB 0 _ _ = true ↔ _
   rw [e, Bool.true_and, decide_eq_true_eq, cmpV_zero]
   constructor
   · intro h
     obtain ⟨rfl, rfl⟩ := V.mk.inj h
     exact ⟨h2, l.xs, by show (s.L.xs[c]?).map (·.xs) = _; rw [h1]; rfl, hy'⟩
   · rintro ⟨a1, H, a2, a3⟩
     have a1 : s.X.xs[c]? = some px := a1
     have a2 : (s.L.xs[c]?).map (·.xs) = some H := a2
     have a3 : H[r]? = some py := a3
     rw [h1] at a2; cases a2
     rw [h2] at a1; cases a1
     simp only at a3
     rw [hy'] at a3; cases a3
     rfl
 · obtain ⟨l, X, h1, h2, h3⟩ := lineN_inv (show (r : Int) < lineN s 1 c from hx)
   obtain ⟨y, hy'⟩ : ∃ y, l.xs[r]? = some y := ⟨_, List.getElem?_eq_getElem (by omega)⟩
   obtain ⟨y', hy''⟩ : ∃ y, l.xs[r + 1]? = some y := ⟨_, List.getElem?_eq_getElem (by omega)⟩
   have hlt : y < y' := asc_get (ys_ranges hs (Rat.le_of_lt hy) h2 h1).asc hy' hy'' (by omega)
   rw [show crnL s ⟨1, c, r⟩ = [⟨X, y⟩, ⟨X, y'⟩] by simp only [crnL]; rw [getD_of' h2, getD_of' (show (s.L.xs.map (·.xs))[c]? = some l.xs by rw [List.getElem?_map, h1]; rfl), getD_of' hy', getD_of' hy'']]
   have e : conB 1 [(⟨X, y⟩ : V), ⟨X, y'⟩] ⟨px, py⟩ = (true && (betwB ⟨X, y⟩ ⟨X, y'⟩ ⟨px, py⟩ && (decide (cmpV ⟨X, y⟩ ⟨px, py⟩ ≠ 0) && decide (cmpV ⟨X, y'⟩ ⟨px, py⟩ ≠ 0)))) := rfl
   show conB 1 _ _ = true ↔ _
   rw [e, Bool.true_and, Bool.and_eq_true, Bool.and_eq_true, decide_eq_true_eq, decide_eq_true_eq, betw_iff (fun h => by have := congrArg V.y h; simp only at this; grind), onS_vert hlt]
   constructor
   · rintro ⟨⟨rfl, b1, b2⟩, b3, b4⟩
     have c1 : y ≠ py := fun h => b3 (cmpV_zero.2 (by rw [h]))
     have c2 : y' ≠ py := fun h => b4 (cmpV_zero.2 (by rw [h]))
     exact ⟨h2, l.xs, by show (s.L.xs[c]?).map (·.xs) = _; rw [h1]; rfl, y, y', hy', hy'', by grind, by grind⟩
   · rintro ⟨a1, H, a2, a3⟩
     have a1 : s.X.xs[c]? = some px := a1
     have a2 : (s.L.xs[c]?).map (·.xs) = some H := a2
     have a3 : ∃ a b, H[r]? = some a ∧ H[r + 1]? = some b ∧ a < py ∧ py < b := a3
     rw [h1] at a2; cases a2
     rw [h2] at a1; cases a1
     obtain ⟨a, b, k1, k2, k3, k4⟩ := a3
     simp only at k1 k2
     rw [hy'] at k1; cases k1
     rw [hy''] at k2; cases k2
     refine ⟨⟨rfl, by grind, by grind⟩, fun h => ?_, fun h => ?_⟩
     · have := congrArg V.y (cmpV_zero.1 h); simp only at this; grind
     · have := congrArg V.y (cmpV_zero.1 h); simp only at this; grind
 · obtain ⟨t, X, Y, h1, h2, h3, h4, h5⟩ := stripN_inv (show (r : Int) < stripN s 2 c from hx)
   have hN : Nx s c X Y := ⟨h2, h3⟩
   have hXY := hN.lt hs
   obtain ⟨a, b, g1, g2, _, _, g5⟩ := hgts_row hs hy hN h1 (r := r) (by omega)
   rw [show crnL s ⟨2, c, r⟩ = [⟨X, a⟩, ⟨Y, b⟩] by simp only [crnL, onP]; rw [getD_of' h2, getD_of' h3, getD_of' h1, getD_of' g1, getD_of' g2]]
   have e : conB 2 [(⟨X, a⟩ : V), ⟨Y, b⟩] ⟨px, py⟩ = (true && (betwB ⟨X, a⟩ ⟨Y, b⟩ ⟨px, py⟩ && (decide (cmpV ⟨X, a⟩ ⟨px, py⟩ ≠ 0) && decide (cmpV ⟨Y, b⟩ ⟨px, py⟩ ≠ 0)))) := rfl
   show conB 2 _ _ = true ↔ _
   rw [e, Bool.true_and, Bool.and_eq_true, Bool.and_eq_true, decide_eq_true_eq, decide_eq_true_eq, betw_iff (fun h => by have := congrArg V.x h; simp only at this; grind), onS_seg hXY]
   constructor
   · rintro ⟨⟨b1, b2, b5⟩, b3, b4⟩
     have c1 : X ≠ px := fun h => b3 (cmpV_zero.2 (by
       subst h
       rw [mul_cancel_eq (show 0 < Y - X by grind) (show py * (Y - X) = a * (Y - X) by grind)]))
     have c2 : Y ≠ px := fun h => b4 (cmpV_zero.2 (by
       subst h
       rw [mul_cancel_eq (show 0 < Y - X by grind) (show py * (Y - X) = b * (Y - X) by grind)]))
     obtain ⟨h, q1, q2⟩ := g5 px b1 b2
     rw [← b5] at q2
     rw [mul_cancel_eq (by grind) q2] at q1
     exact ⟨⟨X, Y, h2, h3, by grind, by grind⟩, hgtsL s t px, by show (s.S.xs[c]?).map (fun t => hgtsL s t px) = _; rw [h1]; rfl, by
       show rowIn (hgtsL s t px) (decide ((2 : Nat) % 2 = 0)) r py
       rw [show decide ((2 : Nat) % 2 = 0) = true by decide]
       exact q1⟩
   · rintro ⟨⟨X', Y', k1, k2, k3, k4⟩, H, a2, a3⟩
     have k1 : s.X.xs[c]? = some X' := k1
     have k2 : s.X.xs[c + 1]? = some Y' := k2
     have k3 : X' < px := k3
     have k4 : px < Y' := k4
     rw [h2] at k1; cases k1
     rw [h3] at k2; cases k2
     have a2 : (s.S.xs[c]?).map (fun t => hgtsL s t px) = some H := a2
     rw [h1] at a2; cases a2
     have a3 : rowIn (hgtsL s t px) true r py := by
       have h : rowIn (hgtsL s t px) (decide ((2 : Nat) % 2 = 0)) r py := a3
       rwa [show decide ((2 : Nat) % 2 = 0) = true by decide] at h
     have a3 : (hgtsL s t px)[r]? = some py := a3
     obtain ⟨h, q1, q2⟩ := g5 px (by grind) (by grind)
     rw [a3] at q1; cases q1
     refine ⟨⟨by grind, by grind, q2⟩, fun h => ?_, fun h => ?_⟩
     · have := congrArg V.x (cmpV_zero.1 h); simp only at this; grind
     · have := congrArg V.x (cmpV_zero.1 h); simp only at this; grind
 · obtain ⟨t, X, Y, h1, h2, h3, h4, h5⟩ := stripN_inv (show (r : Int) < stripN s 1 c from hx)
   have hN : Nx s c X Y := ⟨h2, h3⟩
   have hXY := hN.lt hs
   obtain ⟨a, b, g1, g2, _, _, g5⟩ := hgts_row hs hy hN h1 (r := r) (by omega)
   obtain ⟨a', b', g1', g2', _, _, g5'⟩ := hgts_row hs hy hN h1 (r := r + 1) (by omega)
   obtain ⟨m1, m2, m3⟩ := hgts_two hs hy hN h1 (show r < r + 1 by omega) g1 g2 g1' g2'
   rw [show crnL s ⟨3, c, r⟩ = unw (ddp [⟨X, a⟩, ⟨Y, b⟩, ⟨Y, b'⟩, ⟨X, a'⟩]) by simp only [crnL, crn3, onP]; rw [getD_of' h2, getD_of' h3, getD_of' h1, getD_of' g1, getD_of' g2, getD_of' g1', getD_of' g2']]
   show conB 3 _ _ = true ↔ _
   rw [con3 hXY m1 m2 m3]
   constructor
   · rintro ⟨b1, b2, b3, b4⟩
     obtain ⟨h, q1, q2⟩ := g5 px (by grind) (by grind)
     obtain ⟨h', q1', q2'⟩ := g5' px (by grind) (by grind)
     rw [← q2, mul_cancel_lt (by grind)] at b3
     rw [← q2', mul_cancel_lt (by grind)] at b4
     refine ⟨⟨X, Y, h2, h3, b1, b2⟩, hgtsL s t px, by show (s.S.xs[c]?).map (fun t => hgtsL s t px) = _; rw [h1]; rfl, ?_⟩
     show rowIn (hgtsL s t px) (decide ((3 : Nat) % 2 = 0)) r py
     rw [show decide ((3 : Nat) % 2 = 0) = false by decide]
     exact ⟨h, h', q1, q1', b3, b4⟩
   · rintro ⟨⟨X', Y', k1, k2, k3, k4⟩, H, a2, a3⟩
     have k1 : s.X.xs[c]? = some X' := k1
     have k2 : s.X.xs[c + 1]? = some Y' := k2
     have k3 : X' < px := k3
     have k4 : px < Y' := k4
     rw [h2] at k1; cases k1
     rw [h3] at k2; cases k2
     have a2 : (s.S.xs[c]?).map (fun t => hgtsL s t px) = some H := a2
     rw [h1] at a2; cases a2
     have a3 : rowIn (hgtsL s t px) false r py := by
       have h : rowIn (hgtsL s t px) (decide ((3 : Nat) % 2 = 0)) r py := a3
       rwa [show decide ((3 : Nat) % 2 = 0) = false by decide] at h
     obtain ⟨h, h', q1, q1', b3, b4⟩ := (show ∃ a b, (hgtsL s t px)[r]? = some a ∧ (hgtsL s t px)[r + 1]? = some b ∧ a < py ∧ py < b from a3)
     obtain ⟨z, w1, w2⟩ := g5 px (by grind) (by grind)
     obtain ⟨z', w1', w2'⟩ := g5' px (by grind) (by grind)
     rw [q1] at w1; cases w1
     rw [q1'] at w1'; cases w1'
     refine ⟨k3, k4, ?_, ?_⟩
     · rw [← w2, mul_cancel_lt (by grind)]; exact b3
     · rw [← w2', mul_cancel_lt (by grind)]; exact b4
instance (lo hi p : V) : Decidable (inX lo hi p) := inferInstanceAs (Decidable (_ ∧ _))
end Go.Sx
end
section
set_option maxRecDepth 10000
set_option maxHeartbeats 1000000
namespace Go.Sx
theorem row_idx {H : List Rat} (h : Asc H) {g : Bool} {r i : Nat} {y z : Rat} (h1 : rowIn H g r y) (hz : H[i]? = some z) : (z < y ↔ i < r ∨ (i = r ∧ g = false)) ∧ (z = y ↔ i = r ∧ g = true) := by
 have lt : ∀ {i j : Nat} {a b : Rat}, H[i]? = some a → H[j]? = some b → (a < b ↔ i < j) := fun {i j a b} hi hj => by
   constructor
   · intro hab
     refine Nat.not_le.1 fun hji => ?_
     rcases Nat.lt_or_eq_of_le hji with hji | hji
     · have := asc_get h hj hi hji; grind
     · subst hji; rw [hi] at hj; cases hj; grind
   · exact fun hij => asc_get h hi hj hij
 unfold rowIn at h1
 cases g <;> simp only [if_true, if_false, Bool.false_eq_true] at h1
 · obtain ⟨a, b, a1, b1, c1, d1⟩ := h1
   by_cases hir : i ≤ r
   · have : z ≤ a := by
       rcases Nat.lt_or_eq_of_le hir with h2 | h2
       · exact Rat.le_of_lt ((lt hz a1).2 h2)
       · subst h2; rw [hz] at a1; cases a1; exact Rat.le_refl
     exact ⟨⟨fun _ => by simp; omega, fun _ => by grind⟩, ⟨fun e => by grind, fun e => by simp at e⟩⟩
   · have : b ≤ z := by
       rcases Nat.lt_or_eq_of_le (show r + 1 ≤ i by omega) with h2 | h2
       · exact Rat.le_of_lt ((lt b1 hz).2 h2)
       · subst h2; rw [hz] at b1; cases b1; exact Rat.le_refl
     exact ⟨⟨fun _ => by grind, fun e => by simp at e; omega⟩, ⟨fun e => by grind, fun e => by simp at e⟩⟩
 · refine ⟨⟨fun hh => .inl ((lt hz h1).1 hh), fun hh => ?_⟩, ⟨fun hh => ?_, fun hh => ?_⟩⟩
   · simp at hh; exact (lt hz h1).2 hh
   · subst hh
     rcases Nat.lt_trichotomy i r with h2 | h2 | h2
     · have := (lt hz h1).2 h2; grind
     · exact ⟨h2, rfl⟩
     · have := (lt h1 hz).2 h2; grind
   · obtain ⟨rfl, _⟩ := hh
     rw [hz] at h1; exact Option.some.inj h1
theorem row_sim {H G : List Rat} {f : Bool} {r : Nat} {u v : Rat} (h1 : rowIn H f r u) (hlen : ∀ (i : Nat) (x : Rat), H[i]? = some x → ∃ y, G[i]? = some y ∧ (x < u ↔ y < v) ∧ (x = u ↔ y = v)) : rowIn G f r v := by
 unfold rowIn at h1 ⊢
 cases f <;> simp only [if_true, if_false, Bool.false_eq_true] at h1 ⊢
 · obtain ⟨a, b, a1, b1, c1, d1⟩ := h1
   obtain ⟨a', e1, e2, e3⟩ := hlen _ _ a1
   obtain ⟨b', f1, f2, f3⟩ := hlen _ _ b1
   refine ⟨a', b', e1, f1, e2.1 c1, ?_⟩
   have n1 : ¬ b' < v := fun h => by have := f2.2 h; grind
   have n2 : ¬ b' = v := fun h => by have := f3.2 h; grind
   grind
 · obtain ⟨a', e1, e2, e3⟩ := hlen _ _ h1
   rw [e1, e3.1 rfl]
theorem fstG_cover {m : Rat} {k : Nat} : ∀ {p : Rat} {L : List (Rat × Nat)}, (m, k) ∈ L → m = p ∨ ∃ k', k' ∈ fstG p L ∧ (m, k') ∈ L
 | p, (y, i) :: r, h => by
   simp only [fstG]
   rcases List.mem_cons.1 h with h | h
   · cases h
     by_cases e : p = m
     · exact .inl e.symm
     · exact .inr ⟨k, by rw [if_neg e]; exact List.mem_cons_self .., List.mem_cons_self ..⟩
   · rcases fstG_cover (p := y) h with h2 | ⟨k', h2, h3⟩
     · subst h2
       by_cases e : p = m
       · exact .inl e.symm
       · exact .inr ⟨i, by rw [if_neg e]; exact List.mem_cons_self .., List.mem_cons_self ..⟩
     · refine .inr ⟨k', ?_, List.mem_cons_of_mem _ h3⟩
       split
       · exact h2
       · exact List.mem_cons_of_mem _ h2
 | p, [], h => by cases h
theorem fstL_cover {m : Rat} {k : Nat} {L : List (Rat × Nat)} (h : (m, k) ∈ L) : ∃ k', k' ∈ fstL L ∧ (m, k') ∈ L := by
 cases L with
 | nil => cases h
 | cons e r =>
   obtain ⟨y, i⟩ := e
   rcases List.mem_cons.1 h with h | h
   · cases h; exact ⟨k, List.mem_cons_self .., List.mem_cons_self ..⟩
   · rcases fstG_cover (p := y) h with h2 | ⟨k', h2, h3⟩
     · subst h2; exact ⟨i, List.mem_cons_self .., List.mem_cons_self ..⟩
     · exact ⟨k', List.mem_cons_of_mem _ h2, List.mem_cons_of_mem _ h3⟩
theorem edge_in {s : Sl} (hs : s.is) (hy : s.lo.y < s.hi.y) {c : Nat} {X Y : Rat} (hN : Nx s c X Y) {t : Ln Nat} (ht : s.S.xs[c]? = some t) {k : Nat} {p : Pc} (hp : Ed s X Y k p) : ∃ k' ∈ t.xs, ∀ x, X ≤ x → x ≤ Y → hgtS s x k' = hgtS s x k := by
 have hXY := hN.lt hs
 have ht' := Sl.is_strip_at hs hN.x hN.y ht
 have oA := hp.on X (by grind) (by grind)
 have oB := hp.on Y (by grind) (by grind)
 have hA : hgtO p X = some (hgtS s X k) := by unfold hgtO; rw [hgtE_on hp.nv oA]; rfl
 have hB : hgtO p Y = some (hgtS s Y k) := by unfold hgtO; rw [hgtE_on hp.nv oB]; rfl
 have hc : ((hgtS s X k + hgtS s Y k) / 2, k) ∈ crsL s.lo s.hi (pcsL s.lo s.hi s.sg.xs) X Y := by
   refine List.mem_filterMap.2 ⟨p, hp.mem, ?_⟩
   unfold crsO
   rw [hA, hB]
   simp only
   rw [if_neg hp.no, hp.i]
 obtain ⟨k', h1, h2⟩ := fstL_cover ((sortC_perm _).mem_iff.2 hc)
 refine ⟨k', by rw [ht']; exact h1, ?_⟩
 have hk' : k' ∈ strpL s.lo s.hi (pcsL s.lo s.hi s.sg.xs) X Y := h1
 obtain ⟨q, hq⟩ := ed_of hXY hk'
 have hm := (crs_mid ((sortC_perm _).mem_iff.1 h2)).1
 simp only at hm
 rw [mid_lin hq hXY] at hm
 have n1 : ¬ hgtS s X k < hgtS s X k' := fun h => no_cross hs hN hq hp h (by grind)
 have n2 : ¬ hgtS s X k' < hgtS s X k := fun h => no_cross hs hN hp hq h (by grind)
 have e1 : hgtS s X k' = hgtS s X k := by grind
 have e2 : hgtS s Y k' = hgtS s Y k := by grind
 intro x h3 h4
 have l1 := hq.lin hXY h3 h4
 have l2 := hp.lin hXY h3 h4
 rw [e1, e2, ← l2] at l1
 exact mul_cancel_eq (by grind) l1
structure Finer (s t : Sl) : Prop where
 lo : t.lo = s.lo
 hi : t.hi = s.hi
 ex : ∃ x, t.sg.xs = s.sg.xs ++ [x]
theorem Finer.pcs {s t : Sl} (h : Finer s t) {p : Pc} (hp : p ∈ pcsL s.lo s.hi s.sg.xs) : p ∈ pcsL t.lo t.hi t.sg.xs := by
 obtain ⟨x, hx⟩ := h.ex
 rw [h.lo, h.hi, hx, pcsL, pcsF_append]
 exact List.mem_append_left _ hp
theorem Finer.xs {s t : Sl} (h : Finer s t) (hs : s.is) (ht : t.is) {x : Rat} (hx : x ∈ s.X.xs) : x ∈ t.X.xs := by
 rw [hs.1, xs_mem] at hx
 rw [ht.1, xs_mem]
 rcases hx with hx | hx | ⟨p, hp, hx⟩ | ⟨p, hp, q, hq, hx⟩
 · exact .inl (by rw [h.lo]; exact hx)
 · exact .inr (.inl (by rw [h.hi]; exact hx))
 · exact .inr (.inr (.inl ⟨p, h.pcs hp, hx⟩))
 · exact .inr (.inr (.inr ⟨p, h.pcs hp, q, h.pcs hq, hx⟩))
theorem Finer.ys {s t : Sl} (h : Finer s t) {X y : Rat} (hy : y ∈ ysL s.lo s.hi (pcsL s.lo s.hi s.sg.xs) X) : y ∈ ysL t.lo t.hi (pcsL t.lo t.hi t.sg.xs) X := by
 rw [ysL, ascL_mem, List.mem_cons, List.mem_cons, List.mem_flatMap] at hy ⊢
 rcases hy with hy | hy | ⟨p, hp, hy⟩
 · exact .inl (by rw [h.lo]; exact hy)
 · exact .inr (.inl (by rw [h.hi]; exact hy))
 · exact .inr (.inr ⟨p, h.pcs hp, hy⟩)
theorem Finer.hgt {s t : Sl} (h : Finer s t) {k : Nat} (hk : k < s.sg.xs.length) (x : Rat) : hgtS t x k = hgtS s x k := by
 obtain ⟨e, he⟩ := h.ex
 unfold hgtS
 rw [he, List.getElem?_append_left hk]
theorem Ed.lt {s : Sl} {X Y : Rat} {k : Nat} {p : Pc} (h : Ed s X Y k p) : k < s.sg.xs.length := by
 obtain ⟨e, he⟩ := pcs_of h.mem
 have := (List.getElem?_eq_some_iff.1 he.at').1
 rw [h.i] at this; exact this
theorem ys_of_ed {s : Sl} {X Y x : Rat} {k : Nat} {p : Pc} (h : Ed s X Y k p) (h1 : X ≤ x) (h2 : x ≤ Y) : hgtS s x k ∈ ysL s.lo s.hi (pcsL s.lo s.hi s.sg.xs) x := by
 rw [ysL, ascL_mem, List.mem_cons, List.mem_cons, List.mem_flatMap]
 refine .inr (.inr ⟨p, h.mem, List.mem_append_right _ ?_⟩)
 unfold hgtO
 rw [hgtE_on h.nv (h.on x h1 h2)]
 exact List.mem_cons_self ..
theorem Finer.ed {s t : Sl} (h : Finer s t) (hs : s.is) (hy : s.lo.y < s.hi.y) {c : Nat} {X Y : Rat} (hN : Nx s c X Y) {l : Ln Nat} (hl : s.S.xs[c]? = some l) {X' Y' : Rat} (h1 : X ≤ X') (h2 : X' < Y') (h3 : Y' ≤ Y) {k : Nat} {p : Pc} (hk : k ∈ l.xs) (hp : Ed s X Y k p) : Ed t X' Y' k p := by
 have e : ∀ x, hgtS t x k = hgtS s x k := h.hgt hp.lt
 obtain ⟨e', he⟩ := pcs_of hp.mem
 have iA := (inX_on he.ia he.ib (hp.on X' h1 (by grind))).2
 have iB := (inX_on he.ia he.ib (hp.on Y' (by grind) h3)).2
 refine ⟨h.pcs hp.mem, hp.i, hp.nv, fun x k1 k2 => by rw [e]; exact hp.on x (by grind) (by grind), by rw [e, e, h.lo]; exact ⟨iA.1, iB.1⟩, by rw [e, e, h.hi]; exact ⟨iA.2, iB.2⟩, ?_⟩
 rw [e, e, h.lo, h.hi]
 rintro ⟨k1, k2⟩
 have hm : X < (X' + Y') / 2 ∧ (X' + Y') / 2 < Y := ⟨by grind, by grind⟩
 have ha := hgts_asc_in hs hy hN hl hm.1 hm.2
 unfold hgtsL at ha
 obtain ⟨a1, a2⟩ := List.pairwise_cons.1 ha
 have b1 : s.lo.y < hgtS s ((X' + Y') / 2) k := a1 _ (List.mem_append_left _ (List.mem_map.2 ⟨k, hk, rfl⟩))
 have b2 : hgtS s ((X' + Y') / 2) k < s.hi.y := (List.pairwise_append.1 a2).2.2 _ (List.mem_map.2 ⟨k, hk, rfl⟩) _ (List.mem_singleton.2 rfl)
 have c1 := onS_col (hp.on X' h1 (by grind)) (hp.on Y' (by grind) h3) (hp.on ((X' + Y') / 2) (by grind) (by grind))
 have c2 : hgtS s ((X' + Y') / 2) k = hgtS s X' k := by
   rw [k1] at c1
   have : (hgtS s ((X' + Y') / 2) k - hgtS s Y' k) * (Y' - X') = 0 := by grind
   rcases Rat.mul_eq_zero.1 this with h4 | h4 <;> grind
 rcases k2 with k2 | k2 <;> grind
theorem refine_cell {s t : Sl} (h : Finer s t) (hs : s.is) (ht : t.is) (hx : s.lo.x ≤ s.hi.x) (hy : s.lo.y < s.hi.y) {c d : Cel} {p q : V} (hp : inC t c p) (hq : inC t c q) (hd : inC s d p) : inC s d q := by
 have hy' : t.lo.y < t.hi.y := by rw [h.lo, h.hi]; exact hy
 obtain ⟨p1, Hp, p2, p3⟩ := hp
 obtain ⟨q1, Hq, q2, q3⟩ := hq
 obtain ⟨d1, G, d2, d3⟩ := hd
 have dq : rowIn s.X.xs (decide (d.k < 2)) d.c q.x := row_sim d1 (fun i x hix => by
   obtain ⟨j, hj⟩ := List.getElem?_of_mem (h.xs hs ht (List.mem_of_getElem? hix))
   have a := row_idx (Sl.is_asc ht) p1 hj
   have b := row_idx (Sl.is_asc ht) q1 hj
   exact ⟨x, hix, a.1.trans b.1.symm, a.2.trans b.2.symm⟩)
 refine ⟨dq, ?_⟩
 obtain ⟨G', d4⟩ := colH_some hs dq
 refine ⟨G', d4, ?_⟩
 have rp := colH_ranges ht hy' p1 p2
 have rq := colH_ranges ht hy' q1 q2
 suffices key : ∀ i x, G[i]? = some x → ∃ y j, G'[i]? = some y ∧ Hp[j]? = some x ∧ Hq[j]? = some y by
   refine row_sim d3 (fun i x hix => ?_)
   obtain ⟨y, j, k1, k2, k3⟩ := key i x hix
   have a := row_idx rp.asc p3 k2
   have b := row_idx rq.asc q3 k3
   exact ⟨y, k1, a.1.trans b.1.symm, a.2.trans b.2.symm⟩
 intro i x hix
 cases hf : decide (c.k < 2) with
 | true =>
   rw [hf] at p1 p2 q1 q2
   have p1 : t.X.xs[c.c]? = some p.x := p1
   have q1 : t.X.xs[c.c]? = some q.x := q1
   rw [p1] at q1
   have epq : p.x = q.x := Option.some.inj q1
   rw [← epq, p2] at q2
   cases q2
   rw [← epq, d2] at d4
   cases d4
   cases hl : t.L.xs[c.c]? with
   | none => have p2 : (t.L.xs[c.c]?).map (·.xs) = some Hp := p2; rw [hl] at p2; cases p2
   | some l =>
     have p2 : (t.L.xs[c.c]?).map (·.xs) = some Hp := p2
     rw [hl] at p2; cases p2
     suffices hm : x ∈ l.xs by
       obtain ⟨j, hj⟩ := List.getElem?_of_mem hm
       exact ⟨x, j, hix, hj, hj⟩
     rw [line_at ht p1 hl]
     unfold colH at d2
     split at d2
     · rename_i hfl
       rw [hfl] at d1
       have d1 : s.X.xs[d.c]? = some p.x := d1
       cases hl2 : s.L.xs[d.c]? with
       | none => rw [hl2] at d2; cases d2
       | some l2 =>
         rw [hl2] at d2; cases d2
         have := List.mem_of_getElem? hix
         simp only at this
         rw [line_at hs d1 hl2] at this
         exact h.ys this
     · rename_i hfl
       have hff : decide (d.k < 2) = false := by simpa using hfl
       rw [hff] at d1
       obtain ⟨X, Y, e1, e2, e3, e4⟩ := (show ∃ a b, s.X.xs[d.c]? = some a ∧ s.X.xs[d.c + 1]? = some b ∧ a < p.x ∧ p.x < b from d1)
       cases hs2 : s.S.xs[d.c]? with
       | none => rw [hs2] at d2; cases d2
       | some l2 =>
         rw [hs2] at d2; cases d2
         have hm := List.mem_of_getElem? hix
         simp only [hgtsL] at hm
         have hN : Nx s d.c X Y := ⟨e1, e2⟩
         rcases List.mem_cons.1 hm with rfl | hm
         · rw [ysL, ascL_mem, h.lo]; exact List.mem_cons_self ..
         rcases List.mem_append.1 hm with hm | hm
         · obtain ⟨k, hk, rfl⟩ := List.mem_map.1 hm
           obtain ⟨pc, hpc⟩ := (strip_bel hs hy hN hs2).2 k hk
           exact h.ys (ys_of_ed hpc (by grind) (by grind))
         · rw [List.mem_singleton.1 hm, ysL, ascL_mem, h.hi]; exact List.mem_cons_of_mem _ (List.mem_cons_self ..)
 | false =>
   rw [hf] at p1 p2 q1 q2
   obtain ⟨X', Y', e1, e2, e3, e4⟩ := (show ∃ a b, t.X.xs[c.c]? = some a ∧ t.X.xs[c.c + 1]? = some b ∧ a < p.x ∧ p.x < b from p1)
   obtain ⟨X2, Y2, e1', e2', e5, e6⟩ := (show ∃ a b, t.X.xs[c.c]? = some a ∧ t.X.xs[c.c + 1]? = some b ∧ a < q.x ∧ q.x < b from q1)
   rw [e1] at e1'; cases e1'
   rw [e2] at e2'; cases e2'
   have hN' : Nx t c.c X' Y' := ⟨e1, e2⟩
   have hXY' := hN'.lt ht
   cases hl : t.S.xs[c.c]? with
   | none => have p2 : (t.S.xs[c.c]?).map (fun l => hgtsL t l p.x) = some Hp := p2; rw [hl] at p2; cases p2
   | some l =>
     have p2 : (t.S.xs[c.c]?).map (fun l => hgtsL t l p.x) = some Hp := p2
     have q2 : (t.S.xs[c.c]?).map (fun l => hgtsL t l q.x) = some Hq := q2
     rw [hl] at p2 q2
     cases p2; cases q2
     cases hg : decide (d.k < 2) with
     | true =>
       rw [hg] at d1
       have d1 : s.X.xs[d.c]? = some p.x := d1
       exact (hN'.none ht (h.xs hs ht (List.mem_of_getElem? d1)) ⟨e3, e4⟩).elim
     | false =>
       rw [hg] at d1 d2 d4
       obtain ⟨X, Y, f1, f2, f3, f4⟩ := (show ∃ a b, s.X.xs[d.c]? = some a ∧ s.X.xs[d.c + 1]? = some b ∧ a < p.x ∧ p.x < b from d1)
       have hN : Nx s d.c X Y := ⟨f1, f2⟩
       have hXX : X ≤ X' := Rat.not_lt.1 fun hh => hN'.none ht (h.xs hs ht (List.mem_of_getElem? f1)) ⟨hh, by grind⟩
       have hYY : Y' ≤ Y := Rat.not_lt.1 fun hh => hN'.none ht (h.xs hs ht (List.mem_of_getElem? f2)) ⟨by grind, hh⟩
       cases hs2 : s.S.xs[d.c]? with
       | none => have d2 : (s.S.xs[d.c]?).map (fun l => hgtsL s l p.x) = some G := d2; rw [hs2] at d2; cases d2
       | some l2 =>
         have d2 : (s.S.xs[d.c]?).map (fun l => hgtsL s l p.x) = some G := d2
         have d4 : (s.S.xs[d.c]?).map (fun l => hgtsL s l q.x) = some G' := d4
         rw [hs2] at d2 d4
         cases d2; cases d4
         have hix : (hgtsL s l2 p.x)[i]? = some x := hix
         match i, hix with
         | 0, hix =>
           have : x = s.lo.y := (Option.some.inj hix).symm
           exact ⟨s.lo.y, 0, rfl, by show some t.lo.y = some x; rw [this, h.lo], by show some t.lo.y = _; rw [h.lo]⟩
         | i + 1, hix =>
           by_cases hi : i < l2.xs.length
           · obtain ⟨k, hk⟩ : ∃ k, l2.xs[i]? = some k := ⟨_, List.getElem?_eq_getElem hi⟩
             have g : ∀ x, (hgtsL s l2 x)[i + 1]? = some (hgtS s x k) := fun x => by
               rw [hgtsL, List.getElem?_cons_succ, List.getElem?_append_left (by rw [List.length_map]; exact hi), List.getElem?_map, hk]; rfl
             have hkm := List.mem_of_getElem? hk
             obtain ⟨pc, hpc⟩ := (strip_bel hs hy hN hs2).2 k hkm
             obtain ⟨k', hk', he⟩ := edge_in ht hy' hN' hl (h.ed hs hy hN hs2 hXX hXY' hYY hkm hpc)
             obtain ⟨j, hj⟩ := List.getElem?_of_mem hk'
             have hjl := (List.getElem?_eq_some_iff.1 hj).1
             have g' : ∀ x, X' ≤ x → x ≤ Y' → (hgtsL t l x)[j + 1]? = some (hgtS s x k) := fun x k1 k2 => by
               rw [hgtsL, List.getElem?_cons_succ, List.getElem?_append_left (by rw [List.length_map]; exact hjl), List.getElem?_map, hj]
               show some (hgtS t x k') = _
               rw [he x k1 k2, h.hgt hpc.lt]
             rw [g p.x] at hix
             cases hix
             exact ⟨hgtS s q.x k, j + 1, g q.x, g' p.x (by grind) (by grind), g' q.x (by grind) (by grind)⟩
           · have hl2 : (hgtsL s l2 p.x).length = l2.xs.length + 2 := by simp [hgtsL]
             have := (List.getElem?_eq_some_iff.1 hix).1
             have hi2 : i = l2.xs.length := by omega
             have g : ∀ (u : Sl) (m : Ln Nat) x, (hgtsL u m x)[m.xs.length + 1]? = some u.hi.y := fun u m x => by
               rw [hgtsL, List.getElem?_cons_succ, List.getElem?_append_right (by simp)]; simp
             subst hi2
             rw [g] at hix
             cases hix
             exact ⟨s.hi.y, l.xs.length + 1, g s l2 q.x, by rw [g, h.hi], by rw [g, h.hi]⟩
theorem at_half (a b : V) : a.at b (1 / 2) = ⟨(a.x + b.x) / 2, (a.y + b.y) / 2⟩ := by
 show (⟨a.x + (b.x - a.x) * (1 / 2), a.y + (b.y - a.y) * (1 / 2)⟩ : V) = _
 congr 1 <;> grind
theorem center_in {s : Sl} (hs : s.is) (hy : s.lo.y < s.hi.y) {x : Cel} (hk : x.k < 4) (hx : (x.r : Int) < cntK s x.k x.c) : inC s x (cenP s x) ∧ ∀ q ∈ crnL s x, inC s x (q.at (cenP s x) (1 / 2)) := by
 rw [← conB_in hs hy hk hx]
 suffices h : conB x.k (crnL s x) (cenP s x) = true ∧ ∀ q ∈ crnL s x, conB x.k (crnL s x) (q.at (cenP s x) (1 / 2)) = true from ⟨h.1, fun q hq => (conB_in hs hy hk hx _).1 (h.2 q hq)⟩
 obtain ⟨k, c, r⟩ := x
 have hk' : k = 0 ∨ k = 1 ∨ k = 2 ∨ k = 3 := by have : k < 4 := hk; omega
 rcases hk' with rfl | rfl | rfl | rfl
 · obtain ⟨l, X, h1, h2, h3⟩ := lineN_inv (show (r : Int) < lineN s 0 c from hx)
   obtain ⟨y, hy'⟩ : ∃ y, l.xs[r]? = some y := ⟨_, List.getElem?_eq_getElem (by omega)⟩
   have e0 : cenP s ⟨0, c, r⟩ = ⟨X, y⟩ := by simp only [cenP]; rw [getD_of' h2, getD_of' (show (s.L.xs.map (·.xs))[c]? = some l.xs by rw [List.getElem?_map, h1]; rfl), getD_of' hy']
   rw [e0, show crnL s ⟨0, c, r⟩ = [⟨X, y⟩] by simp only [crnL]; rw [getD_of' h2, getD_of' (show (s.L.xs.map (·.xs))[c]? = some l.xs by rw [List.getElem?_map, h1]; rfl), getD_of' hy']]
   have e : ∀ p, conB 0 [(⟨X, y⟩ : V)] p = (true && decide (cmpV ⟨X, y⟩ p = 0)) := fun p => rfl
   have hc : conB 0 [(⟨X, y⟩ : V)] ⟨X, y⟩ = true := by rw [e, Bool.true_and, decide_eq_true_eq, cmpV_zero]
   refine ⟨hc, fun q hq => ?_⟩
   rw [List.mem_singleton.1 hq, at_half, show (X + X) / 2 = X by grind, show (y + y) / 2 = y by grind]
   exact hc
 · obtain ⟨l, X, h1, h2, h3⟩ := lineN_inv (show (r : Int) < lineN s 1 c from hx)
   obtain ⟨y, hy'⟩ : ∃ y, l.xs[r]? = some y := ⟨_, List.getElem?_eq_getElem (by omega)⟩
   obtain ⟨y', hy''⟩ : ∃ y, l.xs[r + 1]? = some y := ⟨_, List.getElem?_eq_getElem (by omega)⟩
   have hlt : y < y' := asc_get (ys_ranges hs (Rat.le_of_lt hy) h2 h1).asc hy' hy'' (by omega)
   have e0 : cenP s ⟨1, c, r⟩ = ⟨X, (y + y') / 2⟩ := by
     simp only [cenP, midV]; rw [getD_of' h2, getD_of' (show (s.L.xs.map (·.xs))[c]? = some l.xs by rw [List.getElem?_map, h1]; rfl), getD_of' hy', getD_of' hy'']
     congr 1; grind
   rw [e0, show crnL s ⟨1, c, r⟩ = [⟨X, y⟩, ⟨X, y'⟩] by simp only [crnL]; rw [getD_of' h2, getD_of' (show (s.L.xs.map (·.xs))[c]? = some l.xs by rw [List.getElem?_map, h1]; rfl), getD_of' hy', getD_of' hy'']]
   have e : ∀ p, conB 1 [(⟨X, y⟩ : V), ⟨X, y'⟩] p = (true && (betwB ⟨X, y⟩ ⟨X, y'⟩ p && (decide (cmpV ⟨X, y⟩ p ≠ 0) && decide (cmpV ⟨X, y'⟩ p ≠ 0)))) := fun p => rfl
   have hc : ∀ h, y < h → h < y' → conB 1 [(⟨X, y⟩ : V), ⟨X, y'⟩] ⟨X, h⟩ = true := fun h k1 k2 => by
     rw [e, Bool.true_and, Bool.and_eq_true, Bool.and_eq_true, decide_eq_true_eq, decide_eq_true_eq, betw_iff (fun h => by have := congrArg V.y h; simp only at this; grind), onS_vert hlt]
     refine ⟨⟨rfl, by grind, by grind⟩, fun h => ?_, fun h => ?_⟩
     · have := congrArg V.y (cmpV_zero.1 h); simp only at this; grind
     · have := congrArg V.y (cmpV_zero.1 h); simp only at this; grind
   refine ⟨hc _ (by grind) (by grind), fun q hq => ?_⟩
   simp only [List.mem_cons, List.not_mem_nil, or_false] at hq
   rcases hq with rfl | rfl
   · rw [at_half, show (X + X) / 2 = X by grind]; exact hc _ (by grind) (by grind)
   · rw [at_half, show (X + X) / 2 = X by grind]; exact hc _ (by grind) (by grind)
 · obtain ⟨t, X, Y, h1, h2, h3, h4, h5⟩ := stripN_inv (show (r : Int) < stripN s 2 c from hx)
   have hN : Nx s c X Y := ⟨h2, h3⟩
   have hXY := hN.lt hs
   obtain ⟨a, b, g1, g2, _, _, g5⟩ := hgts_row hs hy hN h1 (r := r) (by omega)
   obtain ⟨m, gm, gl⟩ := g5 ((X + Y) / 2) (by grind) (by grind)
   have em : m = (a + b) / 2 := mul_cancel_eq (show 0 < Y - X by grind) (by grind)
   have e0 : cenP s ⟨2, c, r⟩ = ⟨(X + Y) / 2, (a + b) / 2⟩ := by simp only [cenP, onP]; rw [getD_of' h2, getD_of' h3, getD_of' h1, getD_of' gm, em]
   rw [e0, show crnL s ⟨2, c, r⟩ = [⟨X, a⟩, ⟨Y, b⟩] by simp only [crnL, onP]; rw [getD_of' h2, getD_of' h3, getD_of' h1, getD_of' g1, getD_of' g2]]
   have e : ∀ p, conB 2 [(⟨X, a⟩ : V), ⟨Y, b⟩] p = (true && (betwB ⟨X, a⟩ ⟨Y, b⟩ p && (decide (cmpV ⟨X, a⟩ p ≠ 0) && decide (cmpV ⟨Y, b⟩ p ≠ 0)))) := fun p => rfl
   have hc : ∀ x h, X < x → x < Y → h * (Y - X) = a * (Y - x) + b * (x - X) → conB 2 [(⟨X, a⟩ : V), ⟨Y, b⟩] ⟨x, h⟩ = true := fun x h k1 k2 k3 => by
     rw [e, Bool.true_and, Bool.and_eq_true, Bool.and_eq_true, decide_eq_true_eq, decide_eq_true_eq, betw_iff (fun h => by have := congrArg V.x h; simp only at this; grind), onS_seg hXY]
     refine ⟨⟨by grind, by grind, k3⟩, fun h => ?_, fun h => ?_⟩
     · have := congrArg V.x (cmpV_zero.1 h); simp only at this; grind
     · have := congrArg V.x (cmpV_zero.1 h); simp only at this; grind
   refine ⟨hc _ _ (by grind) (by grind) (by grind), fun q hq => ?_⟩
   simp only [List.mem_cons, List.not_mem_nil, or_false] at hq
   rcases hq with rfl | rfl
   · rw [at_half]; exact hc _ _ (by grind) (by grind) (by grind)
   · rw [at_half]; exact hc _ _ (by grind) (by grind) (by grind)
 · obtain ⟨t, X, Y, h1, h2, h3, h4, h5⟩ := stripN_inv (show (r : Int) < stripN s 1 c from hx)
   have hN : Nx s c X Y := ⟨h2, h3⟩
   have hXY := hN.lt hs
   obtain ⟨a, b, g1, g2, _, _, g5⟩ := hgts_row hs hy hN h1 (r := r) (by omega)
   obtain ⟨a', b', g1', g2', _, _, g5'⟩ := hgts_row hs hy hN h1 (r := r + 1) (by omega)
   obtain ⟨m1, m2, m3⟩ := hgts_two hs hy hN h1 (show r < r + 1 by omega) g1 g2 g1' g2'
   obtain ⟨m, gm, gl⟩ := g5 ((X + Y) / 2) (by grind) (by grind)
   obtain ⟨m', gm', gl'⟩ := g5' ((X + Y) / 2) (by grind) (by grind)
   have em : m = (a + b) / 2 := mul_cancel_eq (show 0 < Y - X by grind) (by grind)
   have em' : m' = (a' + b') / 2 := mul_cancel_eq (show 0 < Y - X by grind) (by grind)
   have e0 : cenP s ⟨3, c, r⟩ = ⟨(X + Y) / 2, (a + b + a' + b') / 4⟩ := by
     simp only [cenP, onP, midV]; rw [getD_of' h2, getD_of' h3, getD_of' h1, getD_of' gm, getD_of' gm', em, em']
     congr 1 <;> grind
   rw [e0, show crnL s ⟨3, c, r⟩ = unw (ddp [⟨X, a⟩, ⟨Y, b⟩, ⟨Y, b'⟩, ⟨X, a'⟩]) by simp only [crnL, crn3, onP]; rw [getD_of' h2, getD_of' h3, getD_of' h1, getD_of' g1, getD_of' g2, getD_of' g1', getD_of' g2']]
   have hW := Rat.mul_pos (show 0 < Y - X by grind) (show 0 < a' + b' - a - b by grind)
   have hW1 := Rat.mul_nonneg (show 0 ≤ Y - X by grind) (show 0 ≤ a' - a by grind)
   have hW2 := Rat.mul_nonneg (show 0 ≤ Y - X by grind) (show 0 ≤ b' - b by grind)
   refine ⟨(con3 hXY m1 m2 m3).2 ⟨by grind, by grind, by grind, by grind⟩, fun q hq => ?_⟩
   have hq' : q ∈ [⟨X, a⟩, ⟨Y, b⟩, ⟨Y, b'⟩, (⟨X, a'⟩ : V)] := by
     refine ddp_mem.1 ?_
     unfold unw at hq
     split at hq
     · exact List.mem_of_mem_take hq
     · exact hq
   simp only [List.mem_cons, List.not_mem_nil, or_false] at hq'
   rcases hq' with rfl | rfl | rfl | rfl
   · rw [at_half]; exact (con3 hXY m1 m2 m3).2 ⟨by grind, by grind, by grind, by grind⟩
   · rw [at_half]; exact (con3 hXY m1 m2 m3).2 ⟨by grind, by grind, by grind, by grind⟩
   · rw [at_half]; exact (con3 hXY m1 m2 m3).2 ⟨by grind, by grind, by grind, by grind⟩
   · rw [at_half]; exact (con3 hXY m1 m2 m3).2 ⟨by grind, by grind, by grind, by grind⟩
end Go.Sx
end
section
/- The law of the partition. -/
set_option maxRecDepth 10000
set_option maxHeartbeats 2000000
namespace Go.Sx
open Go Go.Proofs
theorem crnL_len {s : Sl} {x : Cel} : (crnL s x).length ≤ 4 := by
 obtain ⟨k, c, r⟩ := x
 match k with
 | 0 => exact Nat.le_of_ble_eq_true rfl
 | 1 => exact Nat.le_of_ble_eq_true rfl
 | 2 => exact Nat.le_of_ble_eq_true rfl
 | k + 3 => exact Nat.le_trans (unw_len _) (ddp_len _)
end Go.Sx
end
section
/- The law of one more segment. -/
set_option maxRecDepth 10000
set_option maxHeartbeats 4000000
namespace Go.Sx
open Go Go.Proofs
theorem hgtE_sz' {A B : V} {x : Rat} {k : Nat} (hA : SzV K0 A) (hB : SzV K0 B) (hx : Sz k x) : Sz (k + 1000) (hgtE A B x).1 := by
 have z0 : Sz (k + 1000) (0 : Rat) := (show Sz 1 (0 : Rat) from ⟨by decide, by decide⟩).le (by omega)
 unfold hgtE
 split
 · exact z0
 · split
   · exact (hA.2.add (((hx.sub hA.1).div (hB.sub hA).1).mul (hB.sub hA).2)).le (by simp only [K0]; omega)
   · exact z0
theorem onP_sz' {s : Sl} (hz : s.sz) {l : Ln Nat} {row : Nat} {x : Rat} {k : Nat} (hx : Sz k x) : SzV (k + 1000) (onP s l row x) := by
 refine ⟨hx.le (by omega), ?_⟩
 have z0 : Sz (k + 1000) (0 : Rat) := (show Sz 1 (0 : Rat) from ⟨by decide, by decide⟩).le (by omega)
 have hall : ∀ y ∈ hgtsL s l x, Sz (k + 1000) y := fun y hy => by
   rcases List.mem_cons.1 hy with rfl | hy
   · exact hz.lo.2.le (by simp only [K0]; omega)
   rcases List.mem_append.1 hy with hy | hy
   · obtain ⟨k, _, rfl⟩ := List.mem_map.1 hy
     unfold hgtS
     split
     · rename_i e he; have := hz.sg e (List.mem_of_getElem? he); exact hgtE_sz' this.1.1 this.1.2 hx
     · exact z0
   · rw [List.mem_singleton.1 hy]; exact hz.hi.2.le (by simp only [K0]; omega)
 show Sz (k + 1000) ((hgtsL s l x).getD row 0)
 rw [List.getD_eq_getElem?_getD]
 cases h : (hgtsL s l x)[row]? with
 | none => exact z0
 | some y => exact hall y (List.mem_of_getElem? h)
theorem half_sz {x y : Rat} {k m : Nat} (hx : Sz k x) (hy : Sz m y) : Sz (k + m + 4) ((x + y) / 2) := ((hx.add hy).div (show Sz 2 (2 : Rat) from ⟨by decide, by decide⟩)).le (by omega)
theorem cells_sz {s : Sl} (hz : s.sz) (hzx : s.szX) {x : Cel} (hk : x.k < 4) (hx2 : (x.r : Int) < cntK s x.k x.c) : (∀ v ∈ crnL s x, SzV 200000 v) ∧ SzV 450000 (cenP s x) := by
 obtain ⟨k, c, r⟩ := x
 have hk' : k = 0 ∨ k = 1 ∨ k = 2 ∨ k = 3 := by have : k < 4 := hk; omega
 have sx : ∀ {c X}, s.X.xs[c]? = some X → Sz 100000 X := fun h => hzx.X _ (List.mem_of_getElem? h)
 have sl : ∀ {c r : Nat} {l : Ln Rat} {y : Rat}, s.L.xs[c]? = some l → l.xs[r]? = some y → Sz 200000 y := fun h h' => hzx.L _ (List.mem_of_getElem? h) _ (List.mem_of_getElem? h')
 have so : ∀ {c : Nat} {X : Rat} (t r), s.X.xs[c]? = some X → SzV 200000 (onP s t r X) := fun {c X} t r h => (onP_sz' hz (sx h)).le (by decide)
 rcases hk' with rfl | rfl | rfl | rfl
 · obtain ⟨l, X, h1, h2, h3⟩ := lineN_inv (show (r : Int) < lineN s 0 c from hx2)
   obtain ⟨y, hy'⟩ : ∃ y, l.xs[r]? = some y := ⟨_, List.getElem?_eq_getElem (by omega)⟩
   rw [show crnL s ⟨0, c, r⟩ = [⟨X, y⟩] by simp only [crnL]; rw [getD_of' h2, getD_of' (show (s.L.xs.map (·.xs))[c]? = some l.xs by rw [List.getElem?_map, h1]; rfl), getD_of' hy'],
     show cenP s ⟨0, c, r⟩ = ⟨X, y⟩ by simp only [cenP]; rw [getD_of' h2, getD_of' (show (s.L.xs.map (·.xs))[c]? = some l.xs by rw [List.getElem?_map, h1]; rfl), getD_of' hy']]
   refine ⟨fun v hv => ?_, (sx h2).le (by decide), (sl h1 hy').le (by decide)⟩
   rw [List.mem_singleton.1 hv]; exact ⟨(sx h2).le (by decide), sl h1 hy'⟩
 · obtain ⟨l, X, h1, h2, h3⟩ := lineN_inv (show (r : Int) < lineN s 1 c from hx2)
   obtain ⟨y, hy'⟩ : ∃ y, l.xs[r]? = some y := ⟨_, List.getElem?_eq_getElem (by omega)⟩
   obtain ⟨y', hy''⟩ : ∃ y, l.xs[r + 1]? = some y := ⟨_, List.getElem?_eq_getElem (by omega)⟩
   rw [show crnL s ⟨1, c, r⟩ = [⟨X, y⟩, ⟨X, y'⟩] by simp only [crnL]; rw [getD_of' h2, getD_of' (show (s.L.xs.map (·.xs))[c]? = some l.xs by rw [List.getElem?_map, h1]; rfl), getD_of' hy', getD_of' hy''],
     show cenP s ⟨1, c, r⟩ = midV ⟨X, y⟩ ⟨X, y'⟩ by simp only [cenP]; rw [getD_of' h2, getD_of' (show (s.L.xs.map (·.xs))[c]? = some l.xs by rw [List.getElem?_map, h1]; rfl), getD_of' hy', getD_of' hy'']]
   refine ⟨fun v hv => ?_, (half_sz (sx h2) (sx h2)).le (by decide), (half_sz (sl h1 hy') (sl h1 hy'')).le (by decide)⟩
   simp only [List.mem_cons, List.not_mem_nil, or_false] at hv
   rcases hv with rfl | rfl
   · exact ⟨(sx h2).le (by decide), sl h1 hy'⟩
   · exact ⟨(sx h2).le (by decide), sl h1 hy''⟩
 · obtain ⟨t, X, Y, h1, h2, h3, h4, h5⟩ := stripN_inv (show (r : Int) < stripN s 2 c from hx2)
   rw [show crnL s ⟨2, c, r⟩ = [onP s t r X, onP s t r Y] by simp only [crnL]; rw [getD_of' h2, getD_of' h3, getD_of' h1],
     show cenP s ⟨2, c, r⟩ = onP s t r ((X + Y) / 2) by simp only [cenP]; rw [getD_of' h2, getD_of' h3, getD_of' h1]]
   refine ⟨fun v hv => ?_, (onP_sz' hz (half_sz (sx h2) (sx h3))).le (by decide)⟩
   simp only [List.mem_cons, List.not_mem_nil, or_false] at hv
   rcases hv with rfl | rfl
   · exact so t r h2
   · exact so t r h3
 · obtain ⟨t, X, Y, h1, h2, h3, h4, h5⟩ := stripN_inv (show (r : Int) < stripN s 1 c from hx2)
   rw [show crnL s ⟨3, c, r⟩ = crn3 s t r X Y by simp only [crnL]; rw [getD_of' h2, getD_of' h3, getD_of' h1],
     show cenP s ⟨3, c, r⟩ = midV (onP s t r ((X + Y) / 2)) (onP s t (r + 1) ((X + Y) / 2)) by simp only [cenP]; rw [getD_of' h2, getD_of' h3, getD_of' h1]]
   have zm := half_sz (sx h2) (sx h3)
   have o1 := onP_sz' (row := r) (l := t) hz zm
   have o2 := onP_sz' (row := r + 1) (l := t) hz zm
   refine ⟨fun v hv => ?_, (half_sz o1.1 o2.1).le (by decide), (half_sz o1.2 o2.2).le (by decide)⟩
   have : v ∈ [onP s t r X, onP s t r Y, onP s t (r + 1) Y, onP s t (r + 1) X] := by
     unfold crn3 unw at hv
     refine ddp_mem.1 ?_
     split at hv
     · exact List.mem_of_mem_take hv
     · exact hv
   simp only [List.mem_cons, List.not_mem_nil, or_false] at this
   rcases this with rfl | rfl | rfl | rfl
   · exact so t r h2
   · exact so t r h3
   · exact so t (r + 1) h3
   · exact so t (r + 1) h2
theorem w_SlabRefines (b : Bx) (A : Option Addr) (c : Nat) (l : List (Pt × Pt)) (hlc : l.length ≤ c) (hz : l.length * 160 ≤ 140737488351232) (x : Sg) (u : Fin 65536) :
   FnM PP f_narrowslaw16_SlabRefines [bxV b, .slice A l.length c, sV x, .int .u16 ((u.val : Nat) : Int)] (facts [SlRes A (rowV sgC l)]) (retsV (.bool true)) := by
 refine FnM.ofS TBgood mixed h_narrowslaw16_SlabRefines rfl rfl (Nat.le_of_ble_eq_true rfl) (by simp [SlRes.ok]) (fun w l st E w' hp hm => postV_ok hp hm) ?_
 intro w hw
 have hb1 := c_lbuild b A c l
 have hcl := c_CloneG A c l hz
 have hn1 : (l ++ [(x.A, x.B)]).length = l.length + 1 := by rw [List.length_append]; rfl
 refine WPS.peel TBgood mixed ?_
 conv => whnf
 refine WPS.peel TBgood mixed ?_
 conv => whnf
 refine CallVC.e hb1.enters (CallV.facts hb1 rfl (fun R h => h)) (fun i => i.s.F'_ok') (fun d1 _ => ?_)
 conv => whnf
 refine WPS.seq ?_
 obtain ⟨re, hre⟩ : ∃ re, re = d1.s.F' ++ [SlRes A (rowV sgC l)] := ⟨_, rfl⟩
 have hA1 : SlRes A (rowV sgC l) ∈ re := by rw [hre]; exact List.mem_append_right _ (List.mem_cons_self ..)
 refine WPS.drawT TBgood mixed [(11, 11, [9])] (11 + 4294967296 * (6 + 65536 * 7)) (.q 1 (.q 3 (.q 2 (.q 4 (.fork
     (.alt 5 (.q 0 (.fork (.alt 6 (.walk [7, 8, 9, 10, 11, 12]) (.alt 10 (.walk [6, 7, 8, 9, 11, 12]) .nil))))
     (.alt 0 (.fork (.alt 5 (.fork (.alt 6 (.walk [7, 8, 9, 10, 11, 12]) (.alt 10 (.walk [6, 7, 8, 9, 11, 12]) .nil))) (.alt 10 (.walk [5, 6, 7, 8, 9, 11, 12]) .nil)))
     (.alt 10 (.fork (.alt 0 (.walk [5, 6, 7, 8, 9, 11, 12]) (.alt 5 (.q 0 (.walk [6, 7, 8, 9, 11, 12])) .nil))) .nil))))))))
   (K := fun st => ∃ (A' : Option Addr) (c' : Nat) (d2 : BR b (l ++ [(x.A, x.B)]) A' c'), SLe ⟨w, [], b_narrowslaw16_SlabRefines.ntmps⟩ st ⟨[(3, .o (.v (.int .u16 ((u.val : Nat) : Int)))), (8, .o (.v (.bool false))), (9, .o (.p 9 0)), (10, .o (.v (.bool d1.ok))), (11, .o (.p 11 0)), (12, .o (.v (.bool d2.ok)))],
     [(9, slM d1.s), (11, slM d2.s)], d2.s.F' ++ SlRes A' (rowV sgC (l ++ [(x.A, x.B)])) :: re⟩) (by kernel_rfl) ?_ ?_
 · have hrow : app (rowV sgC l) (sgC (x.A, x.B)) = rowV sgC (l ++ [(x.A, x.B)]) := by rw [app_eq, rowV_append]; simp [rowV]
   have hsz : l.length + 1 ≤ 9223372036854775807 ∧ (l.length + 1) * 160 ≤ 140737488355328 := by omega
   conv => whnf
   refine CallVCd.o hcl.enters (CallV.facts hcl rfl (fun R hR => by rw [List.mem_singleton.1 hR]; exact List.mem_append_right _ (List.mem_cons_self ..))) ?_
   conv => whnf
   repeat' (first
     | exact True.intro
     | (refine And.intro ?_ ?_ <;> (conv => whnf))
     | (refine ⟨hsz, ?_⟩; conv => whnf)
     | (refine CallVC.fzW 37 rfl (fun A' cp hcp => ?_)
        have hb2 := c_lbuild b A' cp (l ++ [(x.A, x.B)])
        rw [hn1] at hb2
        refine CallVC.e hb2.enters (CallV.facts hb2 rfl (fun R h => by rw [List.mem_singleton.1 h, ← hrow]; exact List.mem_cons_self ..)) (fun i => i.s.F'_ok') (fun d2 _ => ?_)
        conv => whnf
        exact ⟨A', cp, d2, SLe.id ⟨rfl, rfl, rfl, rfl, rfl, rfl, trivial⟩ ⟨⟨_, rfl, .refl _⟩, ⟨_, rfl, .refl _⟩, trivial⟩ (fun R hR => by rw [← hrow, hre] at hR; exact hR)⟩))
 rintro st ⟨A', c', d2, hst⟩
 refine WPS.le ?_ hst
 obtain ⟨s1, ok1, no1, yes1⟩ := d1
 obtain ⟨s2, ok2, no2, yes2⟩ := d2
 simp only at hre
 cases ok1 with
 | false =>
   refine WPS.of TBgood mixed ?_
   conv => whnf
   refine cf c_awake16 ?_
   conv => whnf
   exact postV_one rfl
 | true =>
 cases ok2 with
 | false =>
   refine WPS.of TBgood mixed ?_
   conv => whnf
   refine cf c_awake16 ?_
   conv => whnf
   exact postV_one rfl
 | true =>
 obtain ⟨lo, hi, E, hB, e1, e2, e3, his, _⟩ := yes1 rfl
 obtain ⟨lo', hi', F, hB', f1, f2, f3, his2, _⟩ := yes2 rfl
 obtain ⟨rfl, rfl, hg, hlen, hx, hy, hlo, hhi, hE⟩ := hB
 obtain ⟨hb', hl', hg', hlen', hx', hy', hlo', hhi', hE'⟩ := hB'
 obtain rfl : lo' = lo := (PQ_inj.1 (congrArg Bx.lo hb')).symm
 obtain rfl : hi' = hi := (PQ_inj.1 (congrArg Bx.hi hb')).symm
 have hF : ∃ e, F = E ++ [e] := by
   obtain ⟨F1, F2, rfl, h1, h2⟩ := List.append_eq_map_iff.1 hl'
   obtain ⟨e, F3, rfl, h3, h4⟩ := List.map_eq_cons_iff.1 h2
   have h5 : F3 = [] := List.map_eq_nil_iff.1 h4
   have h6 : F1 = E := by
     have inj : ∀ (X Y : List (V × V)), X.map (fun e => (PQ e.1, PQ e.2)) = Y.map (fun e => (PQ e.1, PQ e.2)) → X = Y := fun X => by
       induction X with
       | nil => intro Y h; exact (List.map_eq_nil_iff.1 h.symm).symm
       | cons a X ih =>
         intro Y h
         cases Y with
         | nil => cases h
         | cons b Y =>
           simp only [List.map_cons, List.cons.injEq, Prod.mk.injEq, PQ_inj] at h
           rw [ih Y h.2, Prod.ext h.1.1 h.1.2]
     exact inj _ _ h1
   exact ⟨e, by rw [h6, h5]⟩
 have hfin : Finer s1 s2 := ⟨by rw [f1, e1], by rw [f2, e2], by rw [f3, e3]; exact hF⟩
 obtain ⟨hsm, hcl1⟩ := Sl.is_small his (by rw [e3]; exact hlen)
 obtain ⟨hsm2, hcl2⟩ := Sl.is_small his2 (by rw [f3]; exact hlen')
 have hdz : s1.sz := ⟨fun e he => hE e (by rw [e3] at he; exact he), by rw [e1]; exact hlo, by rw [e2]; exact hhi⟩
 have hdz2 : s2.sz := ⟨fun e he => hE' e (by rw [f3] at he; exact he), by rw [f1]; exact hlo, by rw [f2]; exact hhi⟩
 have hdx := Sl.is_szX his hdz
 have hdx2 := Sl.is_szX his2 hdz2
 have hlx : s1.lo.x ≤ s1.hi.x := by rw [e1, e2]; exact Rat.le_of_lt hx
 have hly : s1.lo.y < s1.hi.y := by rw [e1, e2]; exact hy
 have hlx2 : s2.lo.x ≤ s2.hi.x := by rw [f1, f2]; exact Rat.le_of_lt hx
 have hly2 : s2.lo.y < s2.hi.y := by rw [f1, f2]; exact hy
 have hrw : rowV sgC (E.map (fun e => (PQ e.1, PQ e.2)) ++ [(x.A, x.B)]) = rowV sgq F := by rw [hl']; exact rowV_map ..
 obtain ⟨re2, hre2⟩ : ∃ re2, re2 = s2.F' ++ SlRes A' (rowV sgq F) :: re := ⟨_, rfl⟩
 have hF1 : ∀ R ∈ s1.F, R ∈ re2 := fun R hR => by
   rw [hre2, hre]
   rcases Sl.F_F' hR with h | h
   · exact List.mem_append_right _ (List.mem_cons_of_mem _ (List.mem_append_left _ h))
   · rw [h, show Ln.R sgq s1.sg = SlRes A (rowV sgq E) by rw [e3]; rfl, ← (show rowV sgC (E.map fun e => (PQ e.1, PQ e.2)) = rowV sgq E from rowV_map ..)]
     exact List.mem_append_right _ (List.mem_cons_of_mem _ (List.mem_append_right _ (List.mem_cons_self ..)))
 have hF2 : ∀ R ∈ s2.F, R ∈ re2 := fun R hR => by
   rw [hre2]
   rcases Sl.F_F' hR with h | h
   · exact List.mem_append_left _ h
   · rw [h, show Ln.R sgq s2.sg = SlRes A' (rowV sgq F) by rw [f3]; rfl]
     exact List.mem_append_right _ (List.mem_cons_self ..)
 refine WPS.le (st' := ⟨[(3, .o (.v (.int .u16 ((u.val : Nat) : Int)))), (8, .o (.v (.bool false))), (9, .o (.p 9 0)), (10, .o (.v (.bool true))), (11, .o (.p 11 0)), (12, .o (.v (.bool true)))],
     [(9, slM s1), (11, slM s2)], re2⟩) ?_ (SLe.id ⟨rfl, rfl, rfl, rfl, rfl, rfl, trivial⟩ ⟨⟨_, rfl, .refl _⟩, ⟨_, rfl, .refl _⟩, trivial⟩ (fun R hR => by rw [hre2, ← hrw] at hR; exact hR))
 clear hre2 hst
 have hce := c_slCells s1 hsm hcl1
 have hce2 := c_slCells s2 hsm2 hcl2
 obtain ⟨cs1, hcs1⟩ : ∃ cs, cs = cellsL s1 := ⟨_, rfl⟩
 obtain ⟨cs2, hcs2⟩ : ∃ cs, cs = cellsL s2 := ⟨_, rfl⟩
 have hpos : 0 < cs2.length := by
   obtain ⟨x, h4, h5⟩ := inC_exists his2 hlx2 hly2 (p := s2.lo) ⟨⟨Rat.le_refl, hlx2⟩, Rat.le_refl, Rat.le_of_lt hly2⟩
   have := inC_mem his2 h4 h5
   rw [← hcs2] at this
   exact List.length_pos_of_mem this
 rw [← hcs1] at hce hcl1
 rw [← hcs2] at hce2 hcl2
 obtain ⟨n1, hn1'⟩ : ∃ n, n = cs1.length := ⟨_, rfl⟩
 obtain ⟨n2, hn2'⟩ : ∃ n, n = cs2.length := ⟨_, rfl⟩
 obtain ⟨k, hk⟩ : ∃ k, k = u.val % n2 := ⟨_, rfl⟩
 have hkn : k < n2 := by rw [hk]; exact Nat.mod_lt _ (by omega)
 obtain ⟨z, hz'⟩ : ∃ z, cs2[k]? = some z := ⟨_, List.getElem?_eq_getElem (by omega)⟩
 have hzm : z ∈ cellsL s2 := by rw [← hcs2]; exact List.mem_of_getElem? hz'
 obtain ⟨z1, z2, z3⟩ := cellsL_mem hzm
 obtain ⟨hcen, hcrn⟩ := center_in his2 hly2 z2 z3
 have hct := c_slCenter s2 z hsm2 hdz2 hdx2 z2 z3
 have hco2 := c_slCorners s2 z hsm2 hdz2 hdx2 z2 z3
 obtain ⟨zsc, zcen⟩ := cells_sz hdz2 hdx2 z2 z3
 have hlL : (crnL s2 z).length ≤ 4 := crnL_len
 obtain ⟨L, hL⟩ : ∃ L, L = crnL s2 z := ⟨_, rfl⟩
 obtain ⟨p, hp⟩ : ∃ p, p = cenP s2 z := ⟨_, rfl⟩
 rw [← hL] at hco2 hcrn zsc hlL
 rw [← hp] at hct hcen hcrn zcen
 refine WPS.of TBgood mixed ?_
 conv => whnf
 refine CallVC.o 49 hce2.enters (CallV.facts hce2 rfl (fun R h => hF2 R h)) rfl rfl ?_
 conv => whnf
 refine br_false (show ((cs2.length : Int) == 0) = false by rw [beq_eq_false_iff_ne]; omega) ?_
 have ek : (IntKind.i64.wrap (u.val : Int)).tmod (cs2.length : Int) = (k : Int) := by
   have := u.isLt
   rw [wrap_i64 (by omega) (by omega), hk, hn2']; exact (Int.ofNat_tmod u.val cs2.length).symm
 conv => whnf
 refine ⟨by omega, ?_⟩
 conv => whnf
 refine ⟨by rw [ek]; omega, ?_⟩
 conv => whnf
 refine RowVC.elem Cel.C Cel.C_len (k := k) (by show ((IntKind.i64.wrap (u.val : Int)).tmod (cs2.length : Int)).toNat * 3 = k * 3; rw [ek, Int.toNat_natCast]) (by omega) (by decide) (fun h => by cases h) ?_
 intro z' hz2
 obtain rfl : z' = z := by rw [hz'] at hz2; exact (Option.some.inj hz2).symm
 conv => whnf
 refine cfs hct ?_ rfl (fun R h => hF2 R h)
 conv => whnf
 refine CallVC.t 70 hco2.enters (CallV.facts hco2 rfl (fun R h => hF2 R h)) rfl rfl ?_
 conv => whnf
 refine CallVC.o 80 hce.enters (CallV.facts hce rfl (fun R h => hF1 R h)) rfl rfl ?_
 conv => whnf
 refine sexec_loop (ι := Nat) (fun i => ⟨[(9, .o (.p 9 0)), (15, .o (.p 15 0)), (17, .o (.w 70)), (80, .o (.w 80)), (81, .o (.v (.int .i64 n1))), (82, .o (.v (.int .i64 i)))],
     [(9, slM s1), (15, .box ((ptC (PQ p)).map AV.v) t_api_Point), (70, .own t_api_Point 6 L.length (rowV ptQ L)), (80, .own t_api_Cell 3 n1 (rowV Cel.C cs1))], re2⟩)
   (fun i => i ≤ n1 ∧ ∀ j y, j < i → cs1[j]? = some y → conB y.k (crnL s1 y) p = false) (fun i => n1 - i) 0 ⟨Nat.zero_le _, fun j y h => absurd h (Nat.not_lt_zero _)⟩
   (SLe.id ⟨rfl, rfl, rfl, rfl, by rw [hn1']; rfl, rfl, trivial⟩ ⟨⟨_, rfl, .refl _⟩, ⟨_, rfl, .refl _⟩, ⟨_, rfl, .refl _⟩, ⟨_, rfl, by rw [hn1']; exact .refl _⟩, trivial⟩ (fun R hR => hR)) ?_
 rintro i ⟨hi0, hi1⟩
 conv => whnf
 by_cases hi' : i < n1
 rotate_left
 · exfalso
   have hbx : inX s1.lo s1.hi p := by
     have := inC_box his2 hlx2 hly2 hcen
     rw [f1, f2] at this; rw [e1, e2]; exact this
   obtain ⟨y, y4, y5⟩ := inC_exists his hlx hly hbx
   have hym := inC_mem his y4 y5
   rw [← hcs1] at hym
   obtain ⟨j, hj⟩ := List.getElem?_of_mem hym
   have := hi1 j y (by have := (List.getElem?_eq_some_iff.1 hj).1; omega) hj
   rw [hcs1] at hym
   obtain ⟨_, k2, k3⟩ := cellsL_mem hym
   rw [(conB_in his hly k2 k3 p).2 y5] at this
   cases this
 refine br_true (decide_eq_true (show (i : Int) < (n1 : Int) by omega)) ?_
 obtain ⟨y, hy'⟩ : ∃ y, cs1[i]? = some y := ⟨_, List.getElem?_eq_getElem (by omega)⟩
 have hym : y ∈ cellsL s1 := by rw [← hcs1]; exact List.mem_of_getElem? hy'
 obtain ⟨y1, y2, y3⟩ := cellsL_mem hym
 have hco := c_slCorners s1 y hsm hdz hdx y2 y3
 obtain ⟨zM, _⟩ := cells_sz hdz hdx y2 y3
 have hMl : (crnL s1 y).length ≤ 4 := crnL_len
 have hcon := fun q => conB_in his hly y2 y3 q
 obtain ⟨M, hM⟩ : ∃ M, M = crnL s1 y := ⟨_, rfl⟩
 rw [← hM] at hco zM hMl hcon
 conv => whnf
 refine ⟨by show (0 : Int) ≤ (i : Int) ∧ (i : Int) < n1; omega, ?_⟩
 conv => whnf
 refine RowVC.elem Cel.C Cel.C_len (k := i) (by show (i : Int).toNat * 3 = i * 3; rw [Int.toNat_natCast]) (by omega) (by decide) (fun h => by cases h) ?_
 intro x' hx2
 obtain rfl : x' = y := by rw [hy'] at hx2; exact (Option.some.inj hx2).symm
 have hcn : ∀ q : V, SzV 1000000 q → ∀ A c, M.length ≤ c → FnM PP f_narrowslaw16_contains [x'.V, .slice A M.length c, pV (PQ q)] (facts [SlRes A (rowV ptQ M)]) (retsV (.bool (conB x'.k M q))) := fun q hq A c _ => by
   have := c_contains A c x' M (PQ q) (fun v hv => (zM v hv).le (by decide)) hq.q (by omega) y2
   rwa [PQ_v] at this
 have hc0 := hcn p (zcen.le (by decide))
 conv => whnf
 refine CallVC.t 89 hco.enters (CallV.facts hco rfl (fun R h => hF1 R h)) rfl rfl ?_
 conv => whnf
 refine CallVC.v (hc0 none _ (Nat.le_refl _)).enters (CallV.sl1 (x := .o (.w 89)) (fun z => [x'.V, z, pV (PQ p)]) (RdA.own rfl) (List.mem_cons_of_mem _ (List.mem_cons_self ..)) (fun _ => rfl) hc0) ?_
 cases hcv : conB x'.k M p with
 | false =>
   conv => whnf
   refine ⟨i + 1, ⟨by omega, fun j w hj hw => ?_⟩, by show n1 - (i + 1) < n1 - i; omega, SLe.id ⟨rfl, rfl, rfl, rfl, rfl, some_wrap hi' (by omega), trivial⟩ ⟨⟨_, rfl, .refl _⟩, ⟨_, rfl, .refl _⟩, ⟨_, rfl, .refl _⟩, ⟨_, rfl, .refl _⟩, trivial⟩ (fun R hR => hR)⟩
   by_cases hji : j = i
   · subst hji
     rw [hy'] at hw; cases hw
     rw [← hM]; exact hcv
   · exact hi1 j w (by omega) hw
 | true =>
 have hin : inC s1 x' p := (hcon p).1 hcv
 have hall : ∀ q ∈ L, conB x'.k M (q.at p (1 / 2)) = true := fun q hq => (hcon _).2 (refine_cell hfin his his2 hlx hly hcen (hcrn q hq) hin)
 obtain ⟨nl, hnl⟩ : ∃ nl, nl = L.length := ⟨_, rfl⟩
 conv => whnf
 refine sexec_loop (ι := Nat) (fun m => ⟨[(15, .o (.p 15 0)), (20, .o (.p 20 0)), (21, .o (.w 89)), (99, .o (.w 70)), (100, .o (.v (.int .i64 nl))), (101, .o (.v (.int .i64 m)))],
     [(15, .box ((ptC (PQ p)).map AV.v) t_api_Point), (20, .box (x'.C.map AV.v) t_api_Cell), (70, .own t_api_Point 6 nl (rowV ptQ L)), (89, .own t_api_Point 6 M.length (rowV ptQ M))], re2⟩)
   (fun m => m ≤ nl) (fun m => nl - m) 0 (Nat.zero_le _)
   (SLe.id ⟨rfl, rfl, rfl, rfl, by rw [hnl]; rfl, rfl, trivial⟩ ⟨⟨_, rfl, .refl _⟩, ⟨_, rfl, .refl _⟩, ⟨_, rfl, by rw [hnl]; exact .refl _⟩, ⟨_, rfl, .refl _⟩, trivial⟩ (fun R hR => hR)) ?_
 intro m hm0
 have hm0 : m ≤ nl := hm0
 conv => whnf
 by_cases hm : m < nl
 rotate_left
 · refine br_false (decide_eq_false (show ¬ (m : Int) < (nl : Int) by omega)) ?_
   conv => whnf
   refine cf c_awake16 ?_
   conv => whnf
   exact postV_one rfl
 refine br_true (decide_eq_true (show (m : Int) < (nl : Int) by omega)) ?_
 obtain ⟨q, hq⟩ : ∃ q, L[m]? = some q := ⟨_, List.getElem?_eq_getElem (by omega)⟩
 have hqm := List.mem_of_getElem? hq
 have zq := zsc q hqm
 have hat := c_vAt (PQ q) (PQ p) (Q (1 / 2)) (zq.q.le (by decide)) (zcen.q.le (by decide)) (((show Sz 1 (1 : Rat) from ⟨by decide, by decide⟩).div (show Sz 2 (2 : Rat) from ⟨by decide, by decide⟩)).q.le (by decide))
 rw [PQ_v, PQ_v, Q_v] at hat
 have zat : SzV 1000000 (q.at p (1 / 2)) := by
   rw [at_half]
   exact ⟨(half_sz zq.1 zcen.1).le (by decide), (half_sz zq.2 zcen.2).le (by decide)⟩
 have hc1 := hcn _ zat
 rw [hall q hqm] at hc1
 conv => whnf
 refine ⟨by show (0 : Int) ≤ (m : Int) ∧ (m : Int) < nl; omega, ?_⟩
 conv => whnf
 refine RowVC.elem ptQ ptQ_len (k := m) (by show (m : Int).toNat * 6 = m * 6; rw [Int.toNat_natCast]) (by omega) (by decide) (fun h => by cases h) ?_
 intro q' hq2
 obtain rfl : q' = q := by rw [hq] at hq2; exact (Option.some.inj hq2).symm
 conv => whnf
 refine DrawVC.quiet (by kernel_rfl) ?_
 conv => whnf
 refine cd c_half ?_
 conv => whnf
 refine cd hat ?_
 conv => whnf
 refine CallVCd.v (hc1 none _ (Nat.le_refl _)).enters (CallV.sl1 (x := .o (.w 89)) (fun z => [x'.V, z, pV (PQ (q'.at p (1 / 2)))]) (RdA.own rfl) (List.mem_cons_of_mem _ (List.mem_cons_self ..)) (fun _ => rfl) hc1) ?_
 conv => whnf
 exact ⟨m + 1, by show m + 1 ≤ nl; omega, by show nl - (m + 1) < nl - m; omega, SLe.id ⟨rfl, rfl, rfl, rfl, rfl, some_wrap hm (by omega), trivial⟩ ⟨⟨_, rfl, .refl _⟩, ⟨_, rfl, .refl _⟩, ⟨_, rfl, .refl _⟩, ⟨_, rfl, .refl _⟩, trivial⟩ (fun R hR => hR)⟩
end Go.Sx
end
section
set_option maxRecDepth 10000
namespace Go.Sx
open Go Go.Proofs Go.ChangeShapes Go.WideShapes Go.RowKit Go.Deep
variable {H : Type} {enc : TypeId × Value → H} {w : World} {base : Nat} {spare : Nat → Bool} {held : Bool}
theorem slice_len {t e : TypeId} (ht : PP.underlying t = some (.slice e)) {A : Option Addr} {n c : Nat} {d : DataW H} {ps : List MemPlace} (h : DataW.Trod enc PP w base spare held t (.slice A n c) d ps) : n = 0 ∨ ∃ elems sp, d = .slice elems sp ∧ elems.length = n := by
 obtain ⟨fuel, hf⟩ := h
 rcases open_slice ht hf with ⟨h1, _⟩ | ⟨a, len, cap, m, k, D, Pl, hcs, hb, hl, hm, hmm, hx, hall⟩
 · left
   have := List.head_eq_of_cons_eq h1
   injection this
 · right
   have h2 := List.head_eq_of_cons_eq hcs
   injection h2 with _ h3 _
   have h4 : d = _ := congrArg Prod.fst hx
   exact ⟨_, _, h4, by rw [List.length_map, List.length_range, h3]⟩
theorem sz_slice {t e : TypeId} (ht : PP.underlying t = some (.slice e)) {b : Nat} (hb : PP.bytesOf e = b) {ts : List TypeId} {ds : List (DataW H)} (hsz : (DataW.weightsEach PP ts ds).all (· ≤ reachBytes) = true) {j : Nat} {A : Option Addr} {n c : Nat} {d : DataW H} {ps : List MemPlace}
   (h1 : ts[j]? = some t) (h2 : ds[j]? = some d) (h : DataW.Trod enc PP w base spare held t (.slice A n c) d ps) : n * b ≤ 140737488351232 := by
 rcases slice_len ht h with rfl | ⟨elems, sp, rfl, hl⟩
 · rw [Nat.zero_mul]; exact Nat.zero_le _
 · have := sized_slice hsz h1 h2 ht
   rw [hb] at this
   have h3 : n * b ≤ (elems.length + sp.length) * b := Nat.mul_le_mul_right _ (by omega)
   exact Nat.le_trans h3 this
theorem bytes_Segment : PP.bytesOf t_api_Segment = 160 := by kernel_rfl
theorem open_u16 {r : Reach} {b : Nat} {v : Value} {d : DataW H} {ps : List MemPlace} (hv : Value.okWide PP w r b t_uint16 v) (h : DataW.Trod enc PP w base spare held t_uint16 v d ps) : ∃ u : Fin 65536, v = .int .u16 ((u.val : Nat) : Int) := by
 obtain ⟨n0, rfl⟩ := okWide_int (TBgood t_uint16 _ rfl).1.und hv
 obtain ⟨fuel, hf⟩ := h
 obtain ⟨n, hn, _, hwf⟩ := DataW.trod_int (TBgood t_uint16 _ rfl).1.und hf
 have hb : 0 ≤ n ∧ n ≤ 65535 := by
   simp [Lit.wf] at hwf
   exact ⟨hwf.1, hwf.2⟩
 refine ⟨⟨n.toNat, by omega⟩, ?_⟩
 show Value.int .u16 n0 = Value.int .u16 ((n.toNat : Nat) : Int)
 rw [Int.toNat_of_nonneg hb.1]
 exact List.head_eq_of_cons_eq hn
end Go.Sx
end
