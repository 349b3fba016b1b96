/- A part of the proof of a law: the symbolic executor, contracts of functions of the program, plain laws. No conditions. -/
import Derived.Test.YtcmekchbdbakgaaGreatM8
import Derived.Test.YtcmekchbdbakgaaGreatM7
import Derived.Test.YtcmekchbdbakgaaGreatM6
set_option linter.unusedVariables false
set_option linter.unusedSimpArgs false
set_option linter.unusedSectionVars false
section
set_option maxRecDepth 10000
set_option maxHeartbeats 1000000
namespace Go.Sx
theorem onS_col {A B : V} {X a Y b x h : Rat} (h1 : onS A B ⟨X, a⟩) (h2 : onS A B ⟨Y, b⟩) (h3 : onS A B ⟨x, h⟩) : (h - a) * (Y - X) = (b - a) * (x - X) := by
 obtain ⟨r, _, e1⟩ := h1
 obtain ⟨s, _, e2⟩ := h2
 obtain ⟨t, _, e3⟩ := h3
 have x1 : X = A.x + (B.x - A.x) * r := congrArg V.x e1
 have y1 : a = A.y + (B.y - A.y) * r := congrArg V.y e1
 have x2 : Y = A.x + (B.x - A.x) * s := congrArg V.x e2
 have y2 : b = A.y + (B.y - A.y) * s := congrArg V.y e2
 have x3 : x = A.x + (B.x - A.x) * t := congrArg V.x e3
 have y3 : h = A.y + (B.y - A.y) * t := congrArg V.y e3
 rw [x1, y1, x2, y2, x3, y3]; grind
theorem ratio_ex {d g : Rat} (hd : 0 ≤ d) (hg : 0 ≤ g) (h : 0 < d + g) : ∃ u : Rat, u * (d + g) = d ∧ 0 ≤ u ∧ u ≤ 1 ∧ (0 < d → 0 < u) ∧ (0 < g → u < 1) := by
 have e : (d / (d + g)) * (d + g) = d := Rat.div_mul_cancel (by grind)
 generalize d / (d + g) = u at e
 refine ⟨u, e, ?_, ?_, fun h1 => ?_, fun h1 => ?_⟩
 · refine Rat.not_lt.1 fun hh => ?_
   have := Rat.mul_pos (show 0 < -u by grind) h
   grind
 · refine Rat.not_lt.1 fun hh => ?_
   have := Rat.mul_pos (show 0 < u - 1 by grind) h
   grind
 · refine Rat.not_le.1 fun hh => ?_
   have := Rat.mul_nonneg (show 0 ≤ -u by grind) (show 0 ≤ d + g by grind)
   grind
 · refine Rat.not_le.1 fun hh => ?_
   have := Rat.mul_nonneg (show 0 ≤ u - 1 by grind) (show 0 ≤ d + g by grind)
   grind
theorem onS_lin {A B : V} {X a Y b x h : Rat} (h1 : onS A B ⟨X, a⟩) (h2 : onS A B ⟨Y, b⟩) (hxy : X < Y) (hx : X ≤ x) (hy : x ≤ Y) (hc : (h - a) * (Y - X) = (b - a) * (x - X)) : onS A B ⟨x, h⟩ := by
 obtain ⟨u, hd, u0, u1, _⟩ := ratio_ex (d := x - X) (g := Y - x) (by grind) (by grind) (by grind)
 refine onS_trans h1 h2 ⟨u, ⟨u0, u1⟩, ?_⟩
 · have hd : u * (Y - X) = x - X := by grind
   have e1 : x = X + (Y - X) * u := by grind
   have e2 : h = a + (b - a) * u := by
     have h3 : (h - a - (b - a) * u) * (Y - X) = 0 := by grind
     rcases Rat.mul_eq_zero.1 h3 with h4 | h4
     · grind
     · grind
   show (⟨x, h⟩ : V) = ⟨X + (Y - X) * u, a + (b - a) * u⟩
   rw [← e1, ← e2]
theorem fstG_mem {k : Nat} : ∀ {p : Rat} {l : List (Rat × Nat)}, k ∈ fstG p l → ∃ y, (y, k) ∈ l
 | p, (y, i) :: r, h => by
   simp only [fstG] at h
   split at h
   · obtain ⟨z, hz⟩ := fstG_mem h; exact ⟨z, List.mem_cons_of_mem _ hz⟩
   · rcases List.mem_cons.1 h with rfl | h
     · exact ⟨y, List.mem_cons_self ..⟩
     · obtain ⟨z, hz⟩ := fstG_mem h; exact ⟨z, List.mem_cons_of_mem _ hz⟩
 | p, [], h => by cases h
theorem fstL_mem {k : Nat} {l : List (Rat × Nat)} (h : k ∈ fstL l) : ∃ y, (y, k) ∈ l := by
 cases l with
 | nil => cases h
 | cons e r =>
   obtain ⟨y, i⟩ := e
   rcases List.mem_cons.1 h with rfl | h
   · exact ⟨y, List.mem_cons_self ..⟩
   · obtain ⟨z, hz⟩ := fstG_mem h; exact ⟨z, List.mem_cons_of_mem _ hz⟩
structure Ed (s : Sl) (X Y : Rat) (k : Nat) (p : Pc) : Prop where
 mem : p ∈ pcsL s.lo s.hi s.sg.xs
 i : p.i = k
 nv : (p.b - p.a).x ≠ 0
 on : ∀ x, X ≤ x → x ≤ Y → onS p.a p.b ⟨x, hgtS s x k⟩
 lo : s.lo.y ≤ hgtS s X k ∧ s.lo.y ≤ hgtS s Y k
 hi : hgtS s X k ≤ s.hi.y ∧ hgtS s Y k ≤ s.hi.y
 no : ¬ (hgtS s X k = hgtS s Y k ∧ (hgtS s X k = s.lo.y ∨ hgtS s X k = s.hi.y))
theorem hgtS_on {s : Sl} {p : Pc} {e : V × V} (h : PcOf s.lo s.hi s.sg.xs p e) (hnv : (p.b - p.a).x ≠ 0) {x y : Rat} (hp : onS p.a p.b ⟨x, y⟩) : hgtS s x p.i = y := by
 have hne2 : (e.2 - e.1).x ≠ 0 := fun h0 => hnv (by
   obtain ⟨u, _, eu⟩ := h.a
   obtain ⟨v, _, ev⟩ := h.b
   have h0' : e.2.x - e.1.x = 0 := h0
   rw [eu, ev]
   show (e.1.x + (e.2.x - e.1.x) * v) - (e.1.x + (e.2.x - e.1.x) * u) = 0
   rw [h0']; grind)
 unfold hgtS
 rw [h.at']
 exact congrArg Prod.fst (hgtE_on hne2 (onS_trans h.a h.b hp))
theorem ed_of {s : Sl} {X Y : Rat} (hXY : X < Y) {k : Nat} (hk : k ∈ strpL s.lo s.hi (pcsL s.lo s.hi s.sg.xs) X Y) : ∃ p, Ed s X Y k p := by
 obtain ⟨m, hm⟩ := fstL_mem hk
 have hm := (sortC_perm _).mem_iff.1 hm
 obtain ⟨p, hp, h⟩ := List.mem_filterMap.1 hm
 obtain ⟨e, he⟩ := pcs_of hp
 unfold crsO at h
 cases hA : hgtO p X with
 | none => rw [hA] at h; cases h
 | some a =>
   cases hB : hgtO p Y with
   | none => rw [hA, hB] at h; cases h
   | some b =>
     rw [hA, hB] at h
     simp only at h
     split at h
     · cases h
     · rename_i hno
       cases h
       obtain ⟨hx0, oA⟩ := hgtO_on hA
       obtain ⟨_, oB⟩ := hgtO_on hB
       have eA := hgtS_on he hx0 oA
       have eB := hgtS_on he hx0 oB
       have iA := (inX_on he.ia he.ib oA).2
       have iB := (inX_on he.ia he.ib oB).2
       refine ⟨p, hp, rfl, hx0, fun x h1 h2 => ?_, by rw [eA, eB]; exact ⟨iA.1, iB.1⟩, by rw [eA, eB]; exact ⟨iA.2, iB.2⟩, by rw [eA, eB]; exact hno⟩
       obtain ⟨y, hy⟩ : ∃ y, (y - a) * (Y - X) = (b - a) * (x - X) := ⟨a + (b - a) * (x - X) / (Y - X), by
         have := Rat.div_mul_cancel (a := (b - a) * (x - X)) (b := Y - X) (by grind)
         grind⟩
       have o := onS_lin oA oB hXY h1 h2 hy
       rw [hgtS_on he hx0 o]; exact o
theorem Ed.lin {s : Sl} {X Y : Rat} {k : Nat} {p : Pc} (h : Ed s X Y k p) (hXY : X < Y) {x : Rat} (h1 : X ≤ x) (h2 : x ≤ Y) : hgtS s x k * (Y - X) = hgtS s X k * (Y - x) + hgtS s Y k * (x - X) := by
 have := onS_col (h.on X (by grind) (by grind)) (h.on Y (by grind) (by grind)) (h.on x h1 h2)
 grind
structure Nx (s : Sl) (c : Nat) (X Y : Rat) : Prop where
 x : s.X.xs[c]? = some X
 y : s.X.xs[c + 1]? = some Y
theorem Nx.lt {s : Sl} {c : Nat} {X Y : Rat} (h : Nx s c X Y) (hs : s.is) : X < Y := asc_get (Sl.is_asc hs) h.x h.y (by omega)
theorem Nx.none {s : Sl} {c : Nat} {X Y : Rat} (h : Nx s c X Y) (hs : s.is) {x : Rat} (hx : x ∈ s.X.xs) : ¬ (X < x ∧ x < Y) := fun ⟨h1, h2⟩ => by
 obtain ⟨j, hj⟩ := List.getElem?_of_mem hx
 have ha := Sl.is_asc hs
 rcases Nat.lt_trichotomy j c with hjc | hjc | hjc
 · have := asc_get ha hj h.x hjc; grind
 · subst hjc; rw [h.x] at hj; cases hj; grind
 · by_cases h3 : j = c + 1
   · subst h3; rw [h.y] at hj; cases hj; grind
   · have := asc_get ha h.y hj (by omega); grind
theorem no_cross {s : Sl} (hs : s.is) {c : Nat} {X Y : Rat} (hN : Nx s c X Y) {k l : Nat} {p q : Pc} (hp : Ed s X Y k p) (hq : Ed s X Y l q) (h1 : hgtS s X l < hgtS s X k) (h2 : hgtS s Y k < hgtS s Y l) : False := by
 have hXY := hN.lt hs
 obtain ⟨d, hd⟩ : ∃ d, d = hgtS s X k - hgtS s X l := ⟨_, rfl⟩
 obtain ⟨g, hg⟩ : ∃ g, g = hgtS s Y l - hgtS s Y k := ⟨_, rfl⟩
 have d0 : 0 < d := by grind
 have g0 : 0 < g := by grind
 obtain ⟨u, hdg, _, _, u0, u1⟩ := ratio_ex (Rat.le_of_lt d0) (Rat.le_of_lt g0) (by grind)
 replace u0 := u0 d0
 replace u1 := u1 g0
 have k1 := Rat.mul_pos (show 0 < Y - X by grind) u0
 have k2 := Rat.mul_pos (show 0 < Y - X by grind) (show 0 < 1 - u by grind)
 obtain ⟨x, hx⟩ : ∃ x, x = X + (Y - X) * u := ⟨_, rfl⟩
 have hx1 : X < x := by grind
 have hx2 : x < Y := by grind
 have lk := hp.lin hXY (x := x) (by grind) (by grind)
 have ll := hq.lin hXY (x := x) (by grind) (by grind)
 have same : hgtS s x k = hgtS s x l := by
   have h3 : (hgtS s x k - hgtS s x l) * (Y - X) = 0 := by
     have e : (hgtS s x k - hgtS s x l) * (Y - X) = d * (Y - x) - g * (x - X) := by grind
     rw [e, hx]; grind
   rcases Rat.mul_eq_zero.1 h3 with h4 | h4 <;> grind
 have ok := hp.on x (by grind) (by grind)
 have ol := hq.on x (by grind) (by grind)
 rw [← same] at ol
 obtain ⟨e1, he1⟩ := pcs_of hp.mem
 obtain ⟨e2, he2⟩ := pcs_of hq.mem
 obtain ⟨m1, m2⟩ := meet_pts he1.ne he2.ne
 cases hm : meetV p.a p.b q.a q.b with
 | none => exact m2 hm _ ok ol
 | some mn =>
   obtain ⟨m, n⟩ := mn
   obtain ⟨o1, o2, _, _, hle, hall⟩ := m1 _ hm
   have hxm : m.x = x := by
     have c1 := onS_col (hp.on X (by grind) (by grind)) (hp.on Y (by grind) (by grind)) (show onS p.a p.b ⟨m.x, m.y⟩ from o1)
     have c2 := onS_col (hq.on X (by grind) (by grind)) (hq.on Y (by grind) (by grind)) (show onS q.a q.b ⟨m.x, m.y⟩ from o2)
     have e : d * (Y - m.x) = g * (m.x - X) := by grind
     have e2 : d * (Y - x) = g * (x - X) := by rw [hx]; grind
     have h3 : (d + g) * (m.x - x) = 0 := by grind
     rcases Rat.mul_eq_zero.1 h3 with h4 | h4 <;> grind
   refine hN.none hs (x := x) ?_ ⟨hx1, hx2⟩
   rw [hs.1, xs_mem]
   refine .inr (.inr (.inr ⟨p, hp.mem, q, hq.mem, ?_⟩))
   unfold meetX
   rw [hm]
   exact List.mem_cons.2 (.inl hxm.symm)
theorem mid_lin {s : Sl} {X Y : Rat} {k : Nat} {p : Pc} (h : Ed s X Y k p) (hXY : X < Y) : hgtS s ((X + Y) / 2) k = (hgtS s X k + hgtS s Y k) / 2 := by
 have := h.lin hXY (x := (X + Y) / 2) (by grind) (by grind)
 have h3 : (hgtS s ((X + Y) / 2) k - (hgtS s X k + hgtS s Y k) / 2) * (Y - X) = 0 := by grind
 rcases Rat.mul_eq_zero.1 h3 with h4 | h4 <;> grind
def BelE (s : Sl) (X Y : Rat) (k l : Nat) : Prop := hgtS s X k ≤ hgtS s X l ∧ hgtS s Y k ≤ hgtS s Y l ∧ (hgtS s X k < hgtS s X l ∨ hgtS s Y k < hgtS s Y l)
theorem strip_bel {s : Sl} (hs : s.is) (hy : s.lo.y < s.hi.y) {c : Nat} {X Y : Rat} (hN : Nx s c X Y) {t : Ln Nat} (ht : s.S.xs[c]? = some t) : t.xs.Pairwise (BelE s X Y) ∧ ∀ k ∈ t.xs, ∃ p, Ed s X Y k p := by
 have hXY := hN.lt hs
 have ht' := Sl.is_strip_at hs hN.x hN.y ht
 have hall : ∀ k ∈ t.xs, ∃ p, Ed s X Y k p := fun k hk => ed_of hXY (by rw [← ht']; exact hk)
 refine ⟨?_, hall⟩
 have ha := hgts_asc hy ht'
 unfold hgtsL at ha
 have h1 := (List.pairwise_append.1 (List.pairwise_cons.1 ha).2).1
 rw [List.pairwise_map] at h1
 refine List.Pairwise.imp_of_mem (fun {k l} hk hl hkl => ?_) h1
 obtain ⟨p, hp⟩ := hall k hk
 obtain ⟨q, hq⟩ := hall l hl
 rw [mid_lin hp hXY, mid_lin hq hXY] at hkl
 have n1 : ¬ hgtS s X l < hgtS s X k := fun h => no_cross hs hN hp hq h (by grind)
 have n2 : ¬ hgtS s Y l < hgtS s Y k := fun h => no_cross hs hN hq hp (by grind) h
 refine ⟨Rat.not_lt.1 n1, Rat.not_lt.1 n2, ?_⟩
 by_cases h3 : hgtS s X k < hgtS s X l
 · exact .inl h3
 · exact .inr (by grind)
theorem hgts_asc_in {s : Sl} (hs : s.is) (hy : s.lo.y < s.hi.y) {c : Nat} {X Y : Rat} (hN : Nx s c X Y) {t : Ln Nat} (ht : s.S.xs[c]? = some t) {x : Rat} (h1 : X < x) (h2 : x < Y) : Asc (hgtsL s t x) := by
 have hXY := hN.lt hs
 obtain ⟨hb, hall⟩ := strip_bel hs hy hN ht
 unfold hgtsL
 have low : ∀ k ∈ t.xs, s.lo.y < hgtS s x k ∧ hgtS s x k < s.hi.y := fun k hk => by
   obtain ⟨p, hp⟩ := hall k hk
   have hl := hp.lin hXY (x := x) (by grind) (by grind)
   have a1 := hp.lo
   have a2 := hp.hi
   have a3 := hp.no
   have e1 : (hgtS s x k - s.lo.y) * (Y - X) = (hgtS s X k - s.lo.y) * (Y - x) + (hgtS s Y k - s.lo.y) * (x - X) := by grind
   have e2 : (s.hi.y - hgtS s x k) * (Y - X) = (s.hi.y - hgtS s X k) * (Y - x) + (s.hi.y - hgtS s Y k) * (x - X) := by grind
   constructor
   · refine Rat.not_le.1 fun h => ?_
     have k0 := Rat.mul_nonneg (show 0 ≤ s.lo.y - hgtS s x k by grind) (show 0 ≤ Y - X by grind)
     have k1 := Rat.mul_nonneg (show 0 ≤ hgtS s X k - s.lo.y by grind) (show 0 ≤ Y - x by grind)
     have k2 := Rat.mul_nonneg (show 0 ≤ hgtS s Y k - s.lo.y by grind) (show 0 ≤ x - X by grind)
     have z1 : (hgtS s X k - s.lo.y) * (Y - x) = 0 := by grind
     have z2 : (hgtS s Y k - s.lo.y) * (x - X) = 0 := by grind
     have w1 : hgtS s X k = s.lo.y := by rcases Rat.mul_eq_zero.1 z1 with h | h <;> grind
     have w2 : hgtS s Y k = s.lo.y := by rcases Rat.mul_eq_zero.1 z2 with h | h <;> grind
     exact a3 ⟨by rw [w1, w2], .inl w1⟩
   · refine Rat.not_le.1 fun h => ?_
     have k0 := Rat.mul_nonneg (show 0 ≤ hgtS s x k - s.hi.y by grind) (show 0 ≤ Y - X by grind)
     have k1 := Rat.mul_nonneg (show 0 ≤ s.hi.y - hgtS s X k by grind) (show 0 ≤ Y - x by grind)
     have k2 := Rat.mul_nonneg (show 0 ≤ s.hi.y - hgtS s Y k by grind) (show 0 ≤ x - X by grind)
     have z1 : (s.hi.y - hgtS s X k) * (Y - x) = 0 := by grind
     have z2 : (s.hi.y - hgtS s Y k) * (x - X) = 0 := by grind
     have w1 : hgtS s X k = s.hi.y := by rcases Rat.mul_eq_zero.1 z1 with h | h <;> grind
     have w2 : hgtS s Y k = s.hi.y := by rcases Rat.mul_eq_zero.1 z2 with h | h <;> grind
     exact a3 ⟨by rw [w1, w2], .inr w1⟩
 refine List.pairwise_cons.2 ⟨fun z hz => ?_, List.pairwise_append.2 ⟨?_, List.pairwise_singleton .., fun a ha b hb => ?_⟩⟩
 · rcases List.mem_append.1 hz with hz | hz
   · obtain ⟨k, hk, rfl⟩ := List.mem_map.1 hz; exact (low k hk).1
   · rw [List.mem_singleton.1 hz]; exact hy
 · rw [List.pairwise_map]
   refine List.Pairwise.imp_of_mem (fun {k l} hk hl hkl => ?_) hb
   obtain ⟨p, hp⟩ := hall k hk
   obtain ⟨q, hq⟩ := hall l hl
   have l1 := hp.lin hXY (x := x) (by grind) (by grind)
   have l2 := hq.lin hXY (x := x) (by grind) (by grind)
   obtain ⟨b1, b2, b3⟩ := hkl
   have e1 : (hgtS s x l - hgtS s x k) * (Y - X) = (hgtS s X l - hgtS s X k) * (Y - x) + (hgtS s Y l - hgtS s Y k) * (x - X) := by grind
   refine Rat.not_le.1 fun h => ?_
   have k0 := Rat.mul_nonneg (show 0 ≤ hgtS s x k - hgtS s x l by grind) (show 0 ≤ Y - X by grind)
   have k1 := Rat.mul_nonneg (show 0 ≤ hgtS s X l - hgtS s X k by grind) (show 0 ≤ Y - x by grind)
   have k2 := Rat.mul_nonneg (show 0 ≤ hgtS s Y l - hgtS s Y k by grind) (show 0 ≤ x - X by grind)
   have z1 : (hgtS s X l - hgtS s X k) * (Y - x) = 0 := by grind
   have z2 : (hgtS s Y l - hgtS s Y k) * (x - X) = 0 := by grind
   have w1 : hgtS s X l = hgtS s X k := by rcases Rat.mul_eq_zero.1 z1 with h | h <;> grind
   have w2 : hgtS s Y l = hgtS s Y k := by rcases Rat.mul_eq_zero.1 z2 with h | h <;> grind
   grind
 · obtain ⟨k, hk, rfl⟩ := List.mem_map.1 ha
   rw [List.mem_singleton.1 hb]; exact (low k hk).2
theorem hgts_row {s : Sl} (hs : s.is) (hy : s.lo.y < s.hi.y) {c : Nat} {X Y : Rat} (hN : Nx s c X Y) {t : Ln Nat} (ht : s.S.xs[c]? = some t) {r : Nat} (hr : r < t.xs.length + 2) : ∃ a b, (hgtsL s t X)[r]? = some a ∧ (hgtsL s t Y)[r]? = some b ∧ (s.lo.y ≤ a ∧ a ≤ s.hi.y) ∧ (s.lo.y ≤ b ∧ b ≤ s.hi.y) ∧
   ∀ x, X ≤ x → x ≤ Y → ∃ h, (hgtsL s t x)[r]? = some h ∧ h * (Y - X) = a * (Y - x) + b * (x - X) := by
 have hXY := hN.lt hs
 obtain ⟨hb, hall⟩ := strip_bel hs hy hN ht
 match r, hr with
 | 0, _ => exact ⟨s.lo.y, s.lo.y, rfl, rfl, ⟨Rat.le_refl, Rat.le_of_lt hy⟩, ⟨Rat.le_refl, Rat.le_of_lt hy⟩, fun x _ _ => ⟨s.lo.y, rfl, by grind⟩⟩
 | r + 1, hr =>
   by_cases h : r < t.xs.length
   · obtain ⟨k, hk⟩ : ∃ k, t.xs[r]? = some k := ⟨_, List.getElem?_eq_getElem h⟩
     obtain ⟨p, hp⟩ := hall k (List.mem_of_getElem? hk)
     have g : ∀ x, (hgtsL s t x)[r + 1]? = some (hgtS s x k) := fun x => by
       rw [hgtsL, List.getElem?_cons_succ, List.getElem?_append_left (by rw [List.length_map]; exact h), List.getElem?_map, hk]; rfl
     exact ⟨_, _, g X, g Y, ⟨hp.lo.1, hp.hi.1⟩, ⟨hp.lo.2, hp.hi.2⟩, fun x h1 h2 => ⟨_, g x, hp.lin hXY h1 h2⟩⟩
   · have g : ∀ x, (hgtsL s t x)[r + 1]? = some s.hi.y := fun x => by
       rw [hgtsL, List.getElem?_cons_succ, List.getElem?_append_right (by rw [List.length_map]; omega), List.length_map, show r - t.xs.length = 0 by omega]; rfl
     exact ⟨_, _, g X, g Y, ⟨Rat.le_of_lt hy, Rat.le_refl⟩, ⟨Rat.le_of_lt hy, Rat.le_refl⟩, fun x _ _ => ⟨_, g x, by grind⟩⟩
theorem hgts_two {s : Sl} (hs : s.is) (hy : s.lo.y < s.hi.y) {c : Nat} {X Y : Rat} (hN : Nx s c X Y) {t : Ln Nat} (ht : s.S.xs[c]? = some t) {r q : Nat} (hrq : r < q) {a b a' b' : Rat}
   (ha : (hgtsL s t X)[r]? = some a) (hb : (hgtsL s t Y)[r]? = some b) (ha' : (hgtsL s t X)[q]? = some a') (hb' : (hgtsL s t Y)[q]? = some b') : a ≤ a' ∧ b ≤ b' ∧ (a < a' ∨ b < b') := by
 have hXY := hN.lt hs
 have hq : q < t.xs.length + 2 := by have := (List.getElem?_eq_some_iff.1 ha').1; simp [hgtsL] at this; omega
 have lim : ∀ x, X < x → x < Y → ∃ h h', h < h' ∧ h * (Y - X) = a * (Y - x) + b * (x - X) ∧ h' * (Y - X) = a' * (Y - x) + b' * (x - X) := fun x h1 h2 => by
   obtain ⟨_, _, e1, e2, _, _, e3⟩ := hgts_row hs hy hN ht (r := r) (by omega)
   obtain ⟨_, _, f1, f2, _, _, f3⟩ := hgts_row hs hy hN ht (r := q) hq
   rw [ha] at e1; cases e1
   rw [hb] at e2; cases e2
   rw [ha'] at f1; cases f1
   rw [hb'] at f2; cases f2
   obtain ⟨h, g1, g2⟩ := e3 x (by grind) (by grind)
   obtain ⟨h', g3, g4⟩ := f3 x (by grind) (by grind)
   exact ⟨h, h', asc_get (hgts_asc_in hs hy hN ht h1 h2) g1 g3 hrq, g2, g4⟩
 have key : ∀ x, X < x → x < Y → 0 < (a' - a) * (Y - x) + (b' - b) * (x - X) := fun x h1 h2 => by
   obtain ⟨h, h', k1, k2, k3⟩ := lim x h1 h2
   have := Rat.mul_pos (show 0 < h' - h by grind) (show 0 < Y - X by grind)
   grind
 have n1 : ¬ a' < a := fun h => by
   have hd : 0 < a - a' := by grind
   by_cases hbb : b' ≤ b
   · have k := key ((X + Y) / 2) (by grind) (by grind)
     have k1 := Rat.mul_pos hd (show 0 < Y - (X + Y) / 2 by grind)
     have k2 := Rat.mul_nonneg (show 0 ≤ b - b' by grind) (show 0 ≤ (X + Y) / 2 - X by grind)
     grind
   · obtain ⟨g, hg⟩ : ∃ g, g = b' - b := ⟨_, rfl⟩
     obtain ⟨d, hdd⟩ : ∃ d, d = a - a' := ⟨_, rfl⟩
     obtain ⟨u, hdg, _, _, u0, u1⟩ := ratio_ex (d := d) (g := g) (by grind) (by grind) (by grind)
     replace u0 := u0 (by grind)
     replace u1 := u1 (by grind)
     have k1 := Rat.mul_pos (show 0 < Y - X by grind) u0
     have k2 := Rat.mul_pos (show 0 < Y - X by grind) (show 0 < 1 - u by grind)
     have k := key (X + (Y - X) * u) (by grind) (by grind)
     have e : (a' - a) * (Y - (X + (Y - X) * u)) + (b' - b) * (X + (Y - X) * u - X) = 0 := by
       rw [show a' - a = -d by grind, show b' - b = g by grind]; grind
     grind
 have n2 : ¬ b' < b := fun h => by
   have hd : 0 < b - b' := by grind
   by_cases hbb : a' ≤ a
   · have k := key ((X + Y) / 2) (by grind) (by grind)
     have k1 := Rat.mul_nonneg (show 0 ≤ a - a' by grind) (show 0 ≤ Y - (X + Y) / 2 by grind)
     have k2 := Rat.mul_pos hd (show 0 < (X + Y) / 2 - X by grind)
     grind
   · obtain ⟨d, hg⟩ : ∃ g, g = a' - a := ⟨_, rfl⟩
     obtain ⟨g, hdd⟩ : ∃ d, d = b - b' := ⟨_, rfl⟩
     obtain ⟨u, hdg, _, _, u0, u1⟩ := ratio_ex (d := d) (g := g) (by grind) (by grind) (by grind)
     replace u0 := u0 (by grind)
     replace u1 := u1 (by grind)
     have k1 := Rat.mul_pos (show 0 < Y - X by grind) u0
     have k2 := Rat.mul_pos (show 0 < Y - X by grind) (show 0 < 1 - u by grind)
     have k := key (X + (Y - X) * u) (by grind) (by grind)
     have e : (a' - a) * (Y - (X + (Y - X) * u)) + (b' - b) * (X + (Y - X) * u - X) = 0 := by
       rw [show a' - a = d by grind, show b' - b = -g by grind]; grind
     grind
 refine ⟨Rat.not_lt.1 n1, Rat.not_lt.1 n2, ?_⟩
 by_cases h3 : a < a'
 · exact .inl h3
 · right
   refine Rat.not_le.1 fun h4 => ?_
   have k := key ((X + Y) / 2) (by grind) (by grind)
   have z1 : a' - a = 0 := by grind
   have z2 : b' - b = 0 := by grind
   rw [z1, z2] at k; grind
end Go.Sx
end
section
set_option maxRecDepth 10000
set_option maxHeartbeats 4000000
namespace Go.Sx
open Go Go.Proofs
def orB (a b p : V) : Bool := decide (cmpQ ((b - a).cross (p - a)) 0 ≤ 0)
def ringG (L : List V) (p : V) (i : Nat) : Bool := orB (L.getD i ⟨0, 0⟩) (L.getD ((i + 1) % L.length) ⟨0, 0⟩) p
def conB (k : Nat) (L : List V) (p : V) : Bool :=
 if k = 0 then decide (L.length = 1) && decide (cmpV (L.getD 0 ⟨0, 0⟩) p = 0)
 else if L.length = 2 then decide (k ≠ 3) && (betwB (L.getD 0 ⟨0, 0⟩) (L.getD 1 ⟨0, 0⟩) p && (decide (cmpV (L.getD 0 ⟨0, 0⟩) p ≠ 0) && decide (cmpV (L.getD 1 ⟨0, 0⟩) p ≠ 0)))
 else !((List.range L.length).any (ringG L p)) && (decide (k = 3) && decide (2 < L.length))
end Go.Sx
end
section
set_option maxRecDepth 10000
set_option maxHeartbeats 1000000
namespace Go.Sx
def rowIn (H : List Rat) (flat : Bool) (r : Nat) (y : Rat) : Prop := if flat then H[r]? = some y else ∃ a b, H[r]? = some a ∧ H[r + 1]? = some b ∧ a < y ∧ y < b
theorem row_exists {y z : Rat} : ∀ {l : List Rat} {a : Rat}, a ≤ y → (a :: l)[l.length]? = some z → y ≤ z → ∃ f r, rowIn (a :: l) f r y
 | [], a, h1, h2, h3 => by
   simp at h2
   refine ⟨true, 0, ?_⟩
   show some a = some y
   congr 1; grind
 | b :: l, a, h1, h2, h3 => by
   by_cases e : y = a
   · exact ⟨true, 0, by show some a = some y; rw [e]⟩
   by_cases e2 : y < b
   · exact ⟨false, 0, a, b, rfl, rfl, by grind, e2⟩
   · obtain ⟨f, r, h⟩ := row_exists (l := l) (a := b) (by grind) (by simpa using h2) h3
     refine ⟨f, r + 1, ?_⟩
     unfold rowIn at h ⊢
     cases f
     · obtain ⟨u, v, k1, k2, k3⟩ := h
       exact ⟨u, v, by simpa using k1, by simpa using k2, k3⟩
     · simpa using h
theorem asc_first {l : List Rat} (h : Asc l) {m : Rat} (hm : m ∈ l) (hle : ∀ z ∈ l, m ≤ z) : l[0]? = some m := by
 obtain ⟨j, hj⟩ := List.getElem?_of_mem hm
 by_cases h0 : j = 0
 · rw [h0] at hj; exact hj
 · obtain ⟨x, hx⟩ : ∃ x, l[0]? = some x := ⟨_, List.getElem?_eq_getElem (by have := (List.getElem?_eq_some_iff.1 hj).1; omega)⟩
   have := asc_get h hx hj (by omega)
   have := hle x (List.mem_of_getElem? hx)
   grind
theorem asc_last {l : List Rat} (h : Asc l) {m : Rat} (hm : m ∈ l) (hle : ∀ z ∈ l, z ≤ m) : l[l.length - 1]? = some m := by
 obtain ⟨j, hj⟩ := List.getElem?_of_mem hm
 have hl := (List.getElem?_eq_some_iff.1 hj).1
 by_cases h0 : j = l.length - 1
 · rw [h0] at hj; exact hj
 · obtain ⟨x, hx⟩ : ∃ x, l[l.length - 1]? = some x := ⟨_, List.getElem?_eq_getElem (by omega)⟩
   have := asc_get h hj hx (by omega)
   have := hle x (List.mem_of_getElem? hx)
   grind
structure Ranges (H : List Rat) (lo hi : Rat) : Prop where
 asc : Asc H
 first : H[0]? = some lo
 last : H[H.length - 1]? = some hi
theorem Ranges.ex {H : List Rat} {lo hi : Rat} (h : Ranges H lo hi) {y : Rat} (h1 : lo ≤ y) (h2 : y ≤ hi) : ∃ f r, rowIn H f r y := by
 cases H with
 | nil => have := h.first; cases this
 | cons a l =>
   have e : a = lo := Option.some.inj h.first
   exact row_exists (z := hi) (by rw [e]; exact h1) (by simpa using h.last) h2
theorem Ranges.mem {H : List Rat} {lo hi : Rat} (h : Ranges H lo hi) {i : Nat} {x : Rat} (hx : H[i]? = some x) : lo ≤ x ∧ x ≤ hi := by
 have hl := (List.getElem?_eq_some_iff.1 hx).1
 constructor
 · by_cases h0 : i = 0
   · subst h0; rw [h.first] at hx; cases hx; exact Rat.le_refl
   · exact Rat.le_of_lt (asc_get h.asc h.first hx (by omega))
 · by_cases h0 : i = H.length - 1
   · subst h0; rw [h.last] at hx; cases hx; exact Rat.le_refl
   · exact Rat.le_of_lt (asc_get h.asc hx h.last (by omega))
theorem Ranges.bd {H : List Rat} {lo hi : Rat} (h : Ranges H lo hi) {f : Bool} {r : Nat} {y : Rat} (h1 : rowIn H f r y) : lo ≤ y ∧ y ≤ hi := by
 unfold rowIn at h1
 cases f <;> simp only [if_true, if_false, Bool.false_eq_true] at h1
 · obtain ⟨a, b, a1, b1, c1, d1⟩ := h1
   have := h.mem a1
   have := h.mem b1
   exact ⟨by grind, by grind⟩
 · exact h.mem h1
theorem xs_ranges {s : Sl} (hs : s.is) (hx : s.lo.x ≤ s.hi.x) : Ranges s.X.xs s.lo.x s.hi.x := ⟨Sl.is_asc hs, Sl.is_first hs hx, Sl.is_last hs hx⟩
theorem ys_in {s : Sl} (hy : s.lo.y ≤ s.hi.y) {X : Rat} : ∀ y ∈ ysL s.lo s.hi (pcsL s.lo s.hi s.sg.xs) X, s.lo.y ≤ y ∧ y ≤ s.hi.y := fun y hm => by
 rw [ysL, ascL_mem] at hm
 rcases List.mem_cons.1 hm with rfl | hm
 · exact ⟨Rat.le_refl, hy⟩
 rcases List.mem_cons.1 hm with rfl | hm
 · exact ⟨hy, Rat.le_refl⟩
 obtain ⟨p, hp, h⟩ := List.mem_flatMap.1 hm
 obtain ⟨e, he⟩ := pcs_of hp
 rcases List.mem_append.1 h with h | h
 · split at h
   · simp only [List.mem_cons, List.not_mem_nil, or_false] at h
     rcases h with rfl | rfl
     · exact he.ia.2
     · exact he.ib.2
   · cases h
 · cases hh : hgtO p X with
   | none => rw [hh] at h; cases h
   | some z =>
     rw [hh] at h
     rw [List.mem_singleton.1 (show y ∈ [z] from h)]
     exact (inX_on he.ia he.ib (hgtO_on hh).2).2
theorem line_at {s : Sl} (hs : s.is) {c : Nat} {X : Rat} {l : Ln Rat} (hx : s.X.xs[c]? = some X) (hl : s.L.xs[c]? = some l) : l.xs = ysL s.lo s.hi (pcsL s.lo s.hi s.sg.xs) X := by
 have h := congrArg (fun z : List (List Rat) => z[c]?) hs.2.1
 simp only [List.getElem?_map, hx, hl, Option.map_some] at h
 exact Option.some.inj h
theorem ys_ranges {s : Sl} (hs : s.is) (hy : s.lo.y ≤ s.hi.y) {c : Nat} {X : Rat} {l : Ln Rat} (hx : s.X.xs[c]? = some X) (hl : s.L.xs[c]? = some l) : Ranges l.xs s.lo.y s.hi.y := by
 rw [line_at hs hx hl]
 have ha : Asc (ysL s.lo s.hi (pcsL s.lo s.hi s.sg.xs) X) := ascL_asc _
 exact ⟨ha, asc_first ha (ascL_mem.2 (List.mem_cons_self ..)) (fun z hz => (ys_in hy z hz).1), asc_last ha (ascL_mem.2 (List.mem_cons_of_mem _ (List.mem_cons_self ..))) (fun z hz => (ys_in hy z hz).2)⟩
theorem hgts_ends (s : Sl) (t : Ln Nat) (x : Rat) : (hgtsL s t x)[0]? = some s.lo.y ∧ (hgtsL s t x)[(hgtsL s t x).length - 1]? = some s.hi.y := by
 refine ⟨rfl, ?_⟩
 have : (hgtsL s t x).length - 1 = t.xs.length + 1 := by simp [hgtsL]
 rw [this, hgtsL, List.getElem?_cons_succ, List.getElem?_append_right (by simp)]; simp
def colH (s : Sl) (line : Bool) (c : Nat) (x : Rat) : Option (List Rat) := if line then (s.L.xs[c]?).map (·.xs) else (s.S.xs[c]?).map fun t => hgtsL s t x
def inC (s : Sl) (x : Cel) (p : V) : Prop := rowIn s.X.xs (decide (x.k < 2)) x.c p.x ∧ ∃ H, colH s (decide (x.k < 2)) x.c p.x = some H ∧ rowIn H (decide (x.k % 2 = 0)) x.r p.y
theorem colH_ranges {s : Sl} (hs : s.is) (hy : s.lo.y < s.hi.y) {f : Bool} {c : Nat} {x : Rat} {H : List Rat} (h1 : rowIn s.X.xs f c x) (h2 : colH s f c x = some H) : Ranges H s.lo.y s.hi.y := by
 unfold rowIn at h1
 unfold colH at h2
 cases f <;> simp only [if_true, if_false, Bool.false_eq_true] at h1 h2
 · obtain ⟨X, Y, a1, b1, c1, d1⟩ := h1
   cases ht : s.S.xs[c]? with
   | none => rw [ht] at h2; cases h2
   | some t =>
     rw [ht] at h2; cases h2
     exact ⟨hgts_asc_in hs hy ⟨a1, b1⟩ ht c1 d1, (hgts_ends s t x).1, (hgts_ends s t x).2⟩
 · cases hl : s.L.xs[c]? with
   | none => rw [hl] at h2; cases h2
   | some l => rw [hl] at h2; cases h2; exact ys_ranges hs (Rat.le_of_lt hy) h1 hl
theorem inC_box {s : Sl} (hs : s.is) (hx : s.lo.x ≤ s.hi.x) (hy : s.lo.y < s.hi.y) {x : Cel} {p : V} (h : inC s x p) : inX s.lo s.hi p := by
 obtain ⟨a1, H, a2, a3⟩ := h
 exact ⟨(xs_ranges hs hx).bd a1, (colH_ranges hs hy a1 a2).bd a3⟩
theorem colF_mem' {s : Sl} {x : Cel} : ∀ {j : Nat}, j ≤ 4 → 4 - j ≤ x.k → x.k < 4 → (x.r : Int) < cntK s x.k x.c → x ∈ colF s x.c j
 | 0, _, h1, h2, _ => by omega
 | j + 1, hj, h1, h2, h3 => by
   rw [colF]
   by_cases h : x.k = 3 - j
   · refine List.mem_append_left _ (List.mem_map.2 ⟨x.r, List.mem_range.2 (by rw [← h]; omega), by rw [← h]⟩)
   · exact List.mem_append_right _ (colF_mem' (by omega) (by omega) h2 h3)
theorem colsL_mem' {s : Sl} {x : Cel} (h2 : x.k < 4) (h3 : (x.r : Int) < cntK s x.k x.c) : ∀ {n c : Nat}, c ≤ x.c → x.c < c + n → x ∈ colsL s c n
 | 0, c, h, h' => by omega
 | n + 1, c, h, h' => by
   rw [colsL]
   by_cases hc : x.c = c
   · rw [← hc]; exact List.mem_append_left _ (colF_mem' (Nat.le_refl 4) (by omega) h2 h3)
   · exact List.mem_append_right _ (colsL_mem' h2 h3 (by omega) (by omega))
theorem cellsL_mem' {s : Sl} {x : Cel} (h1 : x.c < s.X.xs.length) (h2 : x.k < 4) (h3 : (x.r : Int) < cntK s x.k x.c) : x ∈ cellsL s := colsL_mem' h2 h3 (Nat.zero_le _) (by omega)
end Go.Sx
end
section
set_option maxRecDepth 10000
set_option maxHeartbeats 1000000
namespace Go.Sx
theorem betw_iff {a b p : V} (hab : a ≠ b) : betwB a b p = true ↔ onS a b p := by
 refine ⟨betw_at hab, ?_⟩
 rintro ⟨t, ⟨t0, t1⟩, rfl⟩
 unfold betwB
 simp only [Bool.and_eq_true, decide_eq_true_eq, Bool.or_eq_true]
 refine ⟨cmpQ_eq.2 ?_, ?_, .inl (fun h => hab (cmpV_zero.1 h))⟩
 · show (b.x - a.x) * ((a.y + (b.y - a.y) * t) - a.y) - (b.y - a.y) * ((a.x + (b.x - a.x) * t) - a.x) = 0
   grind
 · by_cases h0 : t = 0
   · rw [h0, V.at_zero, cmpV_zero.2 rfl]; simp
   by_cases h1 : t = 1
   · rw [h1, V.at_one, cmpV_zero.2 (show b = b from rfl)]; simp
   rw [cmpV_step (by grind), cmpV_step' (by grind)]
   rcases cmpV_cases a b with h | h | h <;> rw [h] <;> decide
theorem onS_seg {X Y a b x h : Rat} (hXY : X < Y) : onS ⟨X, a⟩ ⟨Y, b⟩ ⟨x, h⟩ ↔ X ≤ x ∧ x ≤ Y ∧ h * (Y - X) = a * (Y - x) + b * (x - X) := by
 constructor
 · intro o
   have c := onS_col (onS_left (⟨X, a⟩ : V) ⟨Y, b⟩) (onS_right (⟨X, a⟩ : V) ⟨Y, b⟩) o
   obtain ⟨t, ⟨t0, t1⟩, e⟩ := o
   have ex : x = X + (Y - X) * t := congrArg V.x e
   have k1 := Rat.mul_nonneg (show 0 ≤ Y - X by grind) t0
   have k2 := Rat.mul_nonneg (show 0 ≤ Y - X by grind) (show 0 ≤ 1 - t by grind)
   exact ⟨by grind, by grind, by grind⟩
 · rintro ⟨h1, h2, h3⟩
   exact onS_lin (onS_left _ _) (onS_right _ _) hXY h1 h2 (by grind)
theorem onS_vert {X y y' x h : Rat} (hy : y < y') : onS ⟨X, y⟩ ⟨X, y'⟩ ⟨x, h⟩ ↔ x = X ∧ y ≤ h ∧ h ≤ y' := by
 constructor
 · rintro ⟨t, ⟨t0, t1⟩, e⟩
   have ex : x = X + (X - X) * t := congrArg V.x e
   have ey : h = y + (y' - y) * t := congrArg V.y e
   have k1 := Rat.mul_nonneg (show 0 ≤ y' - y by grind) t0
   have k2 := Rat.mul_nonneg (show 0 ≤ y' - y by grind) (show 0 ≤ 1 - t by grind)
   exact ⟨by grind, by grind, by grind⟩
 · rintro ⟨rfl, h1, h2⟩
   obtain ⟨u, hd, u0, u1, _⟩ := ratio_ex (d := h - y) (g := y' - h) (by grind) (by grind) (by grind)
   refine ⟨u, ⟨u0, u1⟩, ?_⟩
   show (⟨x, h⟩ : V) = ⟨x + (x - x) * u, y + (y' - y) * u⟩
   congr 1 <;> grind
def orR (a b p : V) : Prop := 0 < (b - a).cross (p - a)
theorem orB_iff {a b p : V} : orB a b p = false ↔ orR a b p := by
 unfold orB orR
 rw [decide_eq_false_iff_not, cmpQ_le]
 exact Rat.not_le
theorem con_ring3 (A B C p : V) : conB 3 [A, B, C] p = true ↔ orR A B p ∧ orR B C p ∧ orR C A p := by
 have e : conB 3 [A, B, C] p = (!(orB A B p || (orB B C p || (orB C A p || false))) && (true && true)) := by simp [conB, ringG, List.range_succ]
 rw [e, ← orB_iff, ← orB_iff, ← orB_iff]
 cases orB A B p <;> cases orB B C p <;> cases orB C A p <;> simp
theorem con_ring4 (A B C D p : V) : conB 3 [A, B, C, D] p = true ↔ orR A B p ∧ orR B C p ∧ orR C D p ∧ orR D A p := by
 have e : conB 3 [A, B, C, D] p = (!(orB A B p || (orB B C p || (orB C D p || (orB D A p || false)))) && (true && true)) := by simp [conB, ringG, List.range_succ]
 rw [e, ← orB_iff, ← orB_iff, ← orB_iff, ← orB_iff]
 cases orB A B p <;> cases orB B C p <;> cases orB C D p <;> cases orB D A p <;> simp
theorem orR_mk {x y u v a b : Rat} : orR ⟨x, y⟩ ⟨u, v⟩ ⟨a, b⟩ ↔ 0 < (u - x) * (b - y) - (v - y) * (a - x) := Iff.rfl
theorem pos_of_mulL {a b : Rat} (h : 0 < a * b) (ha : 0 ≤ a) : 0 < b := by
 refine Rat.not_le.1 fun hb => ?_
 have := Rat.mul_nonneg ha (show 0 ≤ -b by grind)
 grind
theorem crn3_cases {X Y a b a' b' : Rat} (hXY : X < Y) (h1 : a ≤ a') (h2 : b ≤ b') (h3 : a < a' ∨ b < b') :
   (a < a' ∧ b < b' ∧ unw (ddp [⟨X, a⟩, ⟨Y, b⟩, ⟨Y, b'⟩, (⟨X, a'⟩ : V)]) = [⟨X, a⟩, ⟨Y, b⟩, ⟨Y, b'⟩, ⟨X, a'⟩]) ∨ (a < a' ∧ b = b' ∧ unw (ddp [⟨X, a⟩, ⟨Y, b⟩, ⟨Y, b'⟩, (⟨X, a'⟩ : V)]) = [⟨X, a⟩, ⟨Y, b⟩, ⟨X, a'⟩]) ∨
   (a = a' ∧ b < b' ∧ unw (ddp [⟨X, a⟩, ⟨Y, b⟩, ⟨Y, b'⟩, (⟨X, a'⟩ : V)]) = [⟨X, a⟩, ⟨Y, b⟩, ⟨Y, b'⟩]) := by
 have n1 : ¬ (⟨Y, b⟩ : V) = ⟨X, a⟩ := fun h => by have := congrArg V.x h; simp only at this; grind
 have n2 : ¬ (⟨X, a'⟩ : V) = ⟨Y, b'⟩ := fun h => by have := congrArg V.x h; simp only at this; grind
 have d1 : ∀ l, ddpG (⟨X, a⟩ : V) (⟨Y, b⟩ :: l) = ⟨Y, b⟩ :: ddpG ⟨Y, b⟩ l := fun l => by rw [ddpG, if_neg n1]
 have d3 : ddpG (⟨Y, b'⟩ : V) [⟨X, a'⟩] = [⟨X, a'⟩] := by rw [ddpG, if_neg n2]; rfl
 have e0 : ddp [⟨X, a⟩, ⟨Y, b⟩, ⟨Y, b'⟩, (⟨X, a'⟩ : V)] = ⟨X, a⟩ :: ⟨Y, b⟩ :: ddpG ⟨Y, b⟩ [⟨Y, b'⟩, ⟨X, a'⟩] := by rw [ddp, d1]
 by_cases ha : a < a'
 · have n3 : ¬ (⟨X, a⟩ : V) = ⟨X, a'⟩ := fun h => by have := congrArg V.y h; simp only at this; grind
   by_cases hb : b < b'
   · left
     refine ⟨ha, hb, ?_⟩
     have n4 : ¬ (⟨Y, b'⟩ : V) = ⟨Y, b⟩ := fun h => by have := congrArg V.y h; simp only at this; grind
     rw [e0, ddpG, if_neg n4, d3]
     unfold unw
     rw [if_neg (fun h => n3 (Option.some.inj h.2))]
   · right; left
     have e : b = b' := by grind
     subst e
     refine ⟨ha, rfl, ?_⟩
     rw [e0, ddpG, if_pos rfl, d3]
     unfold unw
     rw [if_neg (fun h => n3 (Option.some.inj h.2))]
 · right; right
   have e : a = a' := by grind
   subst e
   have hb : b < b' := by grind
   refine ⟨rfl, hb, ?_⟩
   have n4 : ¬ (⟨Y, b'⟩ : V) = ⟨Y, b⟩ := fun h => by have := congrArg V.y h; simp only at this; grind
   rw [e0, ddpG, if_neg n4, d3]
   unfold unw
   rw [if_pos ⟨by simp, rfl⟩]; rfl
theorem con3 {X Y a b a' b' : Rat} (hXY : X < Y) (h1 : a ≤ a') (h2 : b ≤ b') (h3 : a < a' ∨ b < b') {x y : Rat} : conB 3 (unw (ddp [⟨X, a⟩, ⟨Y, b⟩, ⟨Y, b'⟩, (⟨X, a'⟩ : V)])) ⟨x, y⟩ = true ↔
   X < x ∧ x < Y ∧ a * (Y - x) + b * (x - X) < y * (Y - X) ∧ y * (Y - X) < a' * (Y - x) + b' * (x - X) := by
 rcases crn3_cases hXY h1 h2 h3 with ⟨ha, hb, e⟩ | ⟨ha, hb, e⟩ | ⟨ha, hb, e⟩
 · rw [e, con_ring4, orR_mk, orR_mk, orR_mk, orR_mk]
   constructor
   · rintro ⟨k1, k2, k3, k4⟩
     have q1 := pos_of_mulL (a := b' - b) (b := Y - x) (by grind) (by grind)
     have q2 := pos_of_mulL (a := a' - a) (b := x - X) (by grind) (by grind)
     exact ⟨by grind, by grind, by grind, by grind⟩
   · rintro ⟨k1, k2, k3, k4⟩
     have q1 := Rat.mul_pos (show 0 < b' - b by grind) (show 0 < Y - x by grind)
     have q2 := Rat.mul_pos (show 0 < a' - a by grind) (show 0 < x - X by grind)
     exact ⟨by grind, by grind, by grind, by grind⟩
 · subst hb
   rw [e, con_ring3, orR_mk, orR_mk, orR_mk]
   constructor
   · rintro ⟨k1, k2, k3⟩
     have q1 := pos_of_mulL (a := a' - a) (b := Y - x) (by grind) (by grind)
     have q2 := pos_of_mulL (a := a' - a) (b := x - X) (by grind) (by grind)
     exact ⟨by grind, by grind, by grind, by grind⟩
   · rintro ⟨k1, k2, k3, k4⟩
     have q2 := Rat.mul_pos (show 0 < a' - a by grind) (show 0 < x - X by grind)
     exact ⟨by grind, by grind, by grind⟩
 · subst ha
   rw [e, con_ring3, orR_mk, orR_mk, orR_mk]
   constructor
   · rintro ⟨k1, k2, k3⟩
     have q1 := pos_of_mulL (a := b' - b) (b := Y - x) (by grind) (by grind)
     have q2 := pos_of_mulL (a := b' - b) (b := x - X) (by grind) (by grind)
     exact ⟨by grind, by grind, by grind, by grind⟩
   · rintro ⟨k1, k2, k3, k4⟩
     have q2 := Rat.mul_pos (show 0 < b' - b by grind) (show 0 < Y - x by grind)
     exact ⟨by grind, by grind, by grind⟩
theorem mul_cancel_lt {a b c : Rat} (hc : 0 < c) : a * c < b * c ↔ a < b := by
 constructor
 · intro h
   have := pos_of_mulL (a := c) (b := b - a) (by grind) (by grind)
   grind
 · intro h
   have := Rat.mul_pos (show 0 < b - a by grind) hc
   grind
theorem mul_cancel_eq {a b c : Rat} (hc : 0 < c) (h : a * c = b * c) : a = b := by
 have h3 : (a - b) * c = 0 := by grind
 rcases Rat.mul_eq_zero.1 h3 with h4 | h4 <;> grind
theorem conB_in {s : Sl} (hs : s.is) (hy : s.lo.y < s.hi.y) {x : Cel} (hk : x.k < 4) (hx : (x.r : Int) < cntK s x.k x.c) (p : V) : conB x.k (crnL s x) p = true ↔ inC s x p := by
 obtain ⟨k, c, r⟩ := x
 obtain ⟨px, py⟩ := p
 have hk' : k = 0 ∨ k = 1 ∨ k = 2 ∨ k = 3 := by have : k < 4 := hk; omega
 rcases hk' with rfl | rfl | rfl | rfl
 · obtain ⟨l, X, h1, h2, h3⟩ := lineN_inv (show (r : Int) < lineN s 0 c from hx)
   obtain ⟨y, hy'⟩ : ∃ y, l.xs[r]? = some y := ⟨_, List.getElem?_eq_getElem (by omega)⟩
   rw [show crnL s ⟨0, c, r⟩ = [⟨X, y⟩] by simp only [crnL]; rw [getD_of' h2, getD_of' (show (s.L.xs.map (·.xs))[c]? = some l.xs by rw [List.getElem?_map, h1]; rfl), getD_of' hy']]
   have e : conB 0 [(⟨X, y⟩ : V)] ⟨px, py⟩ = (true && decide (cmpV ⟨X, y⟩ ⟨px, py⟩ = 0)) := rfl
   show conB 0 _ _ = true ↔ _
   rw [e, Bool.true_and, decide_eq_true_eq, cmpV_zero]
   constructor
   · intro h
     obtain ⟨rfl, rfl⟩ := V.mk.inj h
     exact ⟨h2, l.xs, by show (s.L.xs[c]?).map (·.xs) = _; rw [h1]; rfl, hy'⟩
   · rintro ⟨a1, H, a2, a3⟩
     have a1 : s.X.xs[c]? = some px := a1
     have a2 : (s.L.xs[c]?).map (·.xs) = some H := a2
     have a3 : H[r]? = some py := a3
     rw [h1] at a2; cases a2
     rw [h2] at a1; cases a1
     simp only at a3
     rw [hy'] at a3; cases a3
     rfl
 · obtain ⟨l, X, h1, h2, h3⟩ := lineN_inv (show (r : Int) < lineN s 1 c from hx)
   obtain ⟨y, hy'⟩ : ∃ y, l.xs[r]? = some y := ⟨_, List.getElem?_eq_getElem (by omega)⟩
   obtain ⟨y', hy''⟩ : ∃ y, l.xs[r + 1]? = some y := ⟨_, List.getElem?_eq_getElem (by omega)⟩
   have hlt : y < y' := asc_get (ys_ranges hs (Rat.le_of_lt hy) h2 h1).asc hy' hy'' (by omega)
   rw [show crnL s ⟨1, c, r⟩ = [⟨X, y⟩, ⟨X, y'⟩] by simp only [crnL]; rw [getD_of' h2, getD_of' (show (s.L.xs.map (·.xs))[c]? = some l.xs by rw [List.getElem?_map, h1]; rfl), getD_of' hy', getD_of' hy'']]
   have e : conB 1 [(⟨X, y⟩ : V), ⟨X, y'⟩] ⟨px, py⟩ = (true && (betwB ⟨X, y⟩ ⟨X, y'⟩ ⟨px, py⟩ && (decide (cmpV ⟨X, y⟩ ⟨px, py⟩ ≠ 0) && decide (cmpV ⟨X, y'⟩ ⟨px, py⟩ ≠ 0)))) := rfl
   show conB 1 _ _ = true ↔ _
   rw [e, Bool.true_and, Bool.and_eq_true, Bool.and_eq_true, decide_eq_true_eq, decide_eq_true_eq, betw_iff (fun h => by have := congrArg V.y h; simp only at this; grind), onS_vert hlt]
   constructor
   · rintro ⟨⟨rfl, b1, b2⟩, b3, b4⟩
     have c1 : y ≠ py := fun h => b3 (cmpV_zero.2 (by rw [h]))
     have c2 : y' ≠ py := fun h => b4 (cmpV_zero.2 (by rw [h]))
     exact ⟨h2, l.xs, by show (s.L.xs[c]?).map (·.xs) = _; rw [h1]; rfl, y, y', hy', hy'', by grind, by grind⟩
   · rintro ⟨a1, H, a2, a3⟩
     have a1 : s.X.xs[c]? = some px := a1
     have a2 : (s.L.xs[c]?).map (·.xs) = some H := a2
     have a3 : ∃ a b, H[r]? = some a ∧ H[r + 1]? = some b ∧ a < py ∧ py < b := a3
     rw [h1] at a2; cases a2
     rw [h2] at a1; cases a1
     obtain ⟨a, b, k1, k2, k3, k4⟩ := a3
     simp only at k1 k2
     rw [hy'] at k1; cases k1
     rw [hy''] at k2; cases k2
     refine ⟨⟨rfl, by grind, by grind⟩, fun h => ?_, fun h => ?_⟩
     · have := congrArg V.y (cmpV_zero.1 h); simp only at this; grind
     · have := congrArg V.y (cmpV_zero.1 h); simp only at this; grind
 · obtain ⟨t, X, Y, h1, h2, h3, h4, h5⟩ := stripN_inv (show (r : Int) < stripN s 2 c from hx)
   have hN : Nx s c X Y := ⟨h2, h3⟩
   have hXY := hN.lt hs
   obtain ⟨a, b, g1, g2, _, _, g5⟩ := hgts_row hs hy hN h1 (r := r) (by omega)
   rw [show crnL s ⟨2, c, r⟩ = [⟨X, a⟩, ⟨Y, b⟩] by simp only [crnL, onP]; rw [getD_of' h2, getD_of' h3, getD_of' h1, getD_of' g1, getD_of' g2]]
   have e : conB 2 [(⟨X, a⟩ : V), ⟨Y, b⟩] ⟨px, py⟩ = (true && (betwB ⟨X, a⟩ ⟨Y, b⟩ ⟨px, py⟩ && (decide (cmpV ⟨X, a⟩ ⟨px, py⟩ ≠ 0) && decide (cmpV ⟨Y, b⟩ ⟨px, py⟩ ≠ 0)))) := rfl
   show conB 2 _ _ = true ↔ _
   rw [e, Bool.true_and, Bool.and_eq_true, Bool.and_eq_true, decide_eq_true_eq, decide_eq_true_eq, betw_iff (fun h => by have := congrArg V.x h; simp only at this; grind), onS_seg hXY]
   constructor
   · rintro ⟨⟨b1, b2, b5⟩, b3, b4⟩
     have c1 : X ≠ px := fun h => b3 (cmpV_zero.2 (by
       subst h
       rw [mul_cancel_eq (show 0 < Y - X by grind) (show py * (Y - X) = a * (Y - X) by grind)]))
     have c2 : Y ≠ px := fun h => b4 (cmpV_zero.2 (by
       subst h
       rw [mul_cancel_eq (show 0 < Y - X by grind) (show py * (Y - X) = b * (Y - X) by grind)]))
     obtain ⟨h, q1, q2⟩ := g5 px b1 b2
     rw [← b5] at q2
     rw [mul_cancel_eq (by grind) q2] at q1
     exact ⟨⟨X, Y, h2, h3, by grind, by grind⟩, hgtsL s t px, by show (s.S.xs[c]?).map (fun t => hgtsL s t px) = _; rw [h1]; rfl, by
       show rowIn (hgtsL s t px) (decide ((2 : Nat) % 2 = 0)) r py
       rw [show decide ((2 : Nat) % 2 = 0) = true by decide]
       exact q1⟩
   · rintro ⟨⟨X', Y', k1, k2, k3, k4⟩, H, a2, a3⟩
     have k1 : s.X.xs[c]? = some X' := k1
     have k2 : s.X.xs[c + 1]? = some Y' := k2
     have k3 : X' < px := k3
     have k4 : px < Y' := k4
     rw [h2] at k1; cases k1
     rw [h3] at k2; cases k2
     have a2 : (s.S.xs[c]?).map (fun t => hgtsL s t px) = some H := a2
     rw [h1] at a2; cases a2
     have a3 : rowIn (hgtsL s t px) true r py := by
       have h : rowIn (hgtsL s t px) (decide ((2 : Nat) % 2 = 0)) r py := a3
       rwa [show decide ((2 : Nat) % 2 = 0) = true by decide] at h
     have a3 : (hgtsL s t px)[r]? = some py := a3
     obtain ⟨h, q1, q2⟩ := g5 px (by grind) (by grind)
     rw [a3] at q1; cases q1
     refine ⟨⟨by grind, by grind, q2⟩, fun h => ?_, fun h => ?_⟩
     · have := congrArg V.x (cmpV_zero.1 h); simp only at this; grind
     · have := congrArg V.x (cmpV_zero.1 h); simp only at this; grind
 · obtain ⟨t, X, Y, h1, h2, h3, h4, h5⟩ := stripN_inv (show (r : Int) < stripN s 1 c from hx)
   have hN : Nx s c X Y := ⟨h2, h3⟩
   have hXY := hN.lt hs
   obtain ⟨a, b, g1, g2, _, _, g5⟩ := hgts_row hs hy hN h1 (r := r) (by omega)
   obtain ⟨a', b', g1', g2', _, _, g5'⟩ := hgts_row hs hy hN h1 (r := r + 1) (by omega)
   obtain ⟨m1, m2, m3⟩ := hgts_two hs hy hN h1 (show r < r + 1 by omega) g1 g2 g1' g2'
   rw [show crnL s ⟨3, c, r⟩ = unw (ddp [⟨X, a⟩, ⟨Y, b⟩, ⟨Y, b'⟩, ⟨X, a'⟩]) by simp only [crnL, crn3, onP]; rw [getD_of' h2, getD_of' h3, getD_of' h1, getD_of' g1, getD_of' g2, getD_of' g1', getD_of' g2']]
   show conB 3 _ _ = true ↔ _
   rw [con3 hXY m1 m2 m3]
   constructor
   · rintro ⟨b1, b2, b3, b4⟩
     obtain ⟨h, q1, q2⟩ := g5 px (by grind) (by grind)
     obtain ⟨h', q1', q2'⟩ := g5' px (by grind) (by grind)
     rw [← q2, mul_cancel_lt (by grind)] at b3
     rw [← q2', mul_cancel_lt (by grind)] at b4
     refine ⟨⟨X, Y, h2, h3, b1, b2⟩, hgtsL s t px, by show (s.S.xs[c]?).map (fun t => hgtsL s t px) = _; rw [h1]; rfl, ?_⟩
     show rowIn (hgtsL s t px) (decide ((3 : Nat) % 2 = 0)) r py
     rw [show decide ((3 : Nat) % 2 = 0) = false by decide]
     exact ⟨h, h', q1, q1', b3, b4⟩
   · rintro ⟨⟨X', Y', k1, k2, k3, k4⟩, H, a2, a3⟩
     have k1 : s.X.xs[c]? = some X' := k1
     have k2 : s.X.xs[c + 1]? = some Y' := k2
     have k3 : X' < px := k3
     have k4 : px < Y' := k4
     rw [h2] at k1; cases k1
     rw [h3] at k2; cases k2
     have a2 : (s.S.xs[c]?).map (fun t => hgtsL s t px) = some H := a2
     rw [h1] at a2; cases a2
     have a3 : rowIn (hgtsL s t px) false r py := by
       have h : rowIn (hgtsL s t px) (decide ((3 : Nat) % 2 = 0)) r py := a3
       rwa [show decide ((3 : Nat) % 2 = 0) = false by decide] at h
     obtain ⟨h, h', q1, q1', b3, b4⟩ := (show ∃ a b, (hgtsL s t px)[r]? = some a ∧ (hgtsL s t px)[r + 1]? = some b ∧ a < py ∧ py < b from a3)
     obtain ⟨z, w1, w2⟩ := g5 px (by grind) (by grind)
     obtain ⟨z', w1', w2'⟩ := g5' px (by grind) (by grind)
     rw [q1] at w1; cases w1
     rw [q1'] at w1'; cases w1'
     refine ⟨k3, k4, ?_, ?_⟩
     · rw [← w2, mul_cancel_lt (by grind)]; exact b3
     · rw [← w2', mul_cancel_lt (by grind)]; exact b4
instance (lo hi p : V) : Decidable (inX lo hi p) := inferInstanceAs (Decidable (_ ∧ _))
end Go.Sx
end
section
set_option maxRecDepth 10000
set_option maxHeartbeats 1000000
namespace Go.Sx
theorem fstG_cover {m : Rat} {k : Nat} : ∀ {p : Rat} {L : List (Rat × Nat)}, (m, k) ∈ L → m = p ∨ ∃ k', k' ∈ fstG p L ∧ (m, k') ∈ L
 | p, (y, i) :: r, h => by
   simp only [fstG]
   rcases List.mem_cons.1 h with h | h
   · cases h
     by_cases e : p = m
     · exact .inl e.symm
     · exact .inr ⟨k, by rw [if_neg e]; exact List.mem_cons_self .., List.mem_cons_self ..⟩
   · rcases fstG_cover (p := y) h with h2 | ⟨k', h2, h3⟩
     · subst h2
       by_cases e : p = m
       · exact .inl e.symm
       · exact .inr ⟨i, by rw [if_neg e]; exact List.mem_cons_self .., List.mem_cons_self ..⟩
     · refine .inr ⟨k', ?_, List.mem_cons_of_mem _ h3⟩
       split
       · exact h2
       · exact List.mem_cons_of_mem _ h2
 | p, [], h => by cases h
theorem fstL_cover {m : Rat} {k : Nat} {L : List (Rat × Nat)} (h : (m, k) ∈ L) : ∃ k', k' ∈ fstL L ∧ (m, k') ∈ L := by
 cases L with
 | nil => cases h
 | cons e r =>
   obtain ⟨y, i⟩ := e
   rcases List.mem_cons.1 h with h | h
   · cases h; exact ⟨k, List.mem_cons_self .., List.mem_cons_self ..⟩
   · rcases fstG_cover (p := y) h with h2 | ⟨k', h2, h3⟩
     · subst h2; exact ⟨i, List.mem_cons_self .., List.mem_cons_self ..⟩
     · exact ⟨k', List.mem_cons_of_mem _ h2, List.mem_cons_of_mem _ h3⟩
theorem edge_in {s : Sl} (hs : s.is) (hy : s.lo.y < s.hi.y) {c : Nat} {X Y : Rat} (hN : Nx s c X Y) {t : Ln Nat} (ht : s.S.xs[c]? = some t) {k : Nat} {p : Pc} (hp : Ed s X Y k p) : ∃ k' ∈ t.xs, ∀ x, X ≤ x → x ≤ Y → hgtS s x k' = hgtS s x k := by
 have hXY := hN.lt hs
 have ht' := Sl.is_strip_at hs hN.x hN.y ht
 have oA := hp.on X (by grind) (by grind)
 have oB := hp.on Y (by grind) (by grind)
 have hA : hgtO p X = some (hgtS s X k) := by unfold hgtO; rw [hgtE_on hp.nv oA]; rfl
 have hB : hgtO p Y = some (hgtS s Y k) := by unfold hgtO; rw [hgtE_on hp.nv oB]; rfl
 have hc : ((hgtS s X k + hgtS s Y k) / 2, k) ∈ crsL s.lo s.hi (pcsL s.lo s.hi s.sg.xs) X Y := by
   refine List.mem_filterMap.2 ⟨p, hp.mem, ?_⟩
   unfold crsO
   rw [hA, hB]
   simp only
   rw [if_neg hp.no, hp.i]
 obtain ⟨k', h1, h2⟩ := fstL_cover ((sortC_perm _).mem_iff.2 hc)
 refine ⟨k', by rw [ht']; exact h1, ?_⟩
 have hk' : k' ∈ strpL s.lo s.hi (pcsL s.lo s.hi s.sg.xs) X Y := h1
 obtain ⟨q, hq⟩ := ed_of hXY hk'
 have hm := (crs_mid ((sortC_perm _).mem_iff.1 h2)).1
 simp only at hm
 rw [mid_lin hq hXY] at hm
 have n1 : ¬ hgtS s X k < hgtS s X k' := fun h => no_cross hs hN hq hp h (by grind)
 have n2 : ¬ hgtS s X k' < hgtS s X k := fun h => no_cross hs hN hp hq h (by grind)
 have e1 : hgtS s X k' = hgtS s X k := by grind
 have e2 : hgtS s Y k' = hgtS s Y k := by grind
 intro x h3 h4
 have l1 := hq.lin hXY h3 h4
 have l2 := hp.lin hXY h3 h4
 rw [e1, e2, ← l2] at l1
 exact mul_cancel_eq (by grind) l1
structure Finer (s t : Sl) : Prop where
 lo : t.lo = s.lo
 hi : t.hi = s.hi
 ex : ∃ x, t.sg.xs = s.sg.xs ++ [x]
theorem Finer.pcs {s t : Sl} (h : Finer s t) {p : Pc} (hp : p ∈ pcsL s.lo s.hi s.sg.xs) : p ∈ pcsL t.lo t.hi t.sg.xs := by
 obtain ⟨x, hx⟩ := h.ex
 rw [h.lo, h.hi, hx, pcsL, pcsF_append]
 exact List.mem_append_left _ hp
theorem Finer.xs {s t : Sl} (h : Finer s t) (hs : s.is) (ht : t.is) {x : Rat} (hx : x ∈ s.X.xs) : x ∈ t.X.xs := by
 rw [hs.1, xs_mem] at hx
 rw [ht.1, xs_mem]
 rcases hx with hx | hx | ⟨p, hp, hx⟩ | ⟨p, hp, q, hq, hx⟩
 · exact .inl (by rw [h.lo]; exact hx)
 · exact .inr (.inl (by rw [h.hi]; exact hx))
 · exact .inr (.inr (.inl ⟨p, h.pcs hp, hx⟩))
 · exact .inr (.inr (.inr ⟨p, h.pcs hp, q, h.pcs hq, hx⟩))
theorem Finer.ys {s t : Sl} (h : Finer s t) {X y : Rat} (hy : y ∈ ysL s.lo s.hi (pcsL s.lo s.hi s.sg.xs) X) : y ∈ ysL t.lo t.hi (pcsL t.lo t.hi t.sg.xs) X := by
 rw [ysL, ascL_mem, List.mem_cons, List.mem_cons, List.mem_flatMap] at hy ⊢
 rcases hy with hy | hy | ⟨p, hp, hy⟩
 · exact .inl (by rw [h.lo]; exact hy)
 · exact .inr (.inl (by rw [h.hi]; exact hy))
 · exact .inr (.inr ⟨p, h.pcs hp, hy⟩)
theorem Finer.hgt {s t : Sl} (h : Finer s t) {k : Nat} (hk : k < s.sg.xs.length) (x : Rat) : hgtS t x k = hgtS s x k := by
 obtain ⟨e, he⟩ := h.ex
 unfold hgtS
 rw [he, List.getElem?_append_left hk]
theorem Ed.lt {s : Sl} {X Y : Rat} {k : Nat} {p : Pc} (h : Ed s X Y k p) : k < s.sg.xs.length := by
 obtain ⟨e, he⟩ := pcs_of h.mem
 have := (List.getElem?_eq_some_iff.1 he.at').1
 rw [h.i] at this; exact this
theorem Finer.ed {s t : Sl} (h : Finer s t) (hs : s.is) (hy : s.lo.y < s.hi.y) {c : Nat} {X Y : Rat} (hN : Nx s c X Y) {l : Ln Nat} (hl : s.S.xs[c]? = some l) {X' Y' : Rat} (h1 : X ≤ X') (h2 : X' < Y') (h3 : Y' ≤ Y) {k : Nat} {p : Pc} (hk : k ∈ l.xs) (hp : Ed s X Y k p) : Ed t X' Y' k p := by
 have e : ∀ x, hgtS t x k = hgtS s x k := h.hgt hp.lt
 obtain ⟨e', he⟩ := pcs_of hp.mem
 have iA := (inX_on he.ia he.ib (hp.on X' h1 (by grind))).2
 have iB := (inX_on he.ia he.ib (hp.on Y' (by grind) h3)).2
 refine ⟨h.pcs hp.mem, hp.i, hp.nv, fun x k1 k2 => by rw [e]; exact hp.on x (by grind) (by grind), by rw [e, e, h.lo]; exact ⟨iA.1, iB.1⟩, by rw [e, e, h.hi]; exact ⟨iA.2, iB.2⟩, ?_⟩
 rw [e, e, h.lo, h.hi]
 rintro ⟨k1, k2⟩
 have hm : X < (X' + Y') / 2 ∧ (X' + Y') / 2 < Y := ⟨by grind, by grind⟩
 have ha := hgts_asc_in hs hy hN hl hm.1 hm.2
 unfold hgtsL at ha
 obtain ⟨a1, a2⟩ := List.pairwise_cons.1 ha
 have b1 : s.lo.y < hgtS s ((X' + Y') / 2) k := a1 _ (List.mem_append_left _ (List.mem_map.2 ⟨k, hk, rfl⟩))
 have b2 : hgtS s ((X' + Y') / 2) k < s.hi.y := (List.pairwise_append.1 a2).2.2 _ (List.mem_map.2 ⟨k, hk, rfl⟩) _ (List.mem_singleton.2 rfl)
 have c1 := onS_col (hp.on X' h1 (by grind)) (hp.on Y' (by grind) h3) (hp.on ((X' + Y') / 2) (by grind) (by grind))
 have c2 : hgtS s ((X' + Y') / 2) k = hgtS s X' k := by
   rw [k1] at c1
   have : (hgtS s ((X' + Y') / 2) k - hgtS s Y' k) * (Y' - X') = 0 := by grind
   rcases Rat.mul_eq_zero.1 this with h4 | h4 <;> grind
 rcases k2 with k2 | k2 <;> grind
theorem at_half (a b : V) : a.at b (1 / 2) = ⟨(a.x + b.x) / 2, (a.y + b.y) / 2⟩ := by
 show (⟨a.x + (b.x - a.x) * (1 / 2), a.y + (b.y - a.y) * (1 / 2)⟩ : V) = _
 congr 1 <;> grind
theorem center_in {s : Sl} (hs : s.is) (hy : s.lo.y < s.hi.y) {x : Cel} (hk : x.k < 4) (hx : (x.r : Int) < cntK s x.k x.c) : inC s x (cenP s x) ∧ ∀ q ∈ crnL s x, inC s x (q.at (cenP s x) (1 / 2)) := by
 rw [← conB_in hs hy hk hx]
 suffices h : conB x.k (crnL s x) (cenP s x) = true ∧ ∀ q ∈ crnL s x, conB x.k (crnL s x) (q.at (cenP s x) (1 / 2)) = true from ⟨h.1, fun q hq => (conB_in hs hy hk hx _).1 (h.2 q hq)⟩
 obtain ⟨k, c, r⟩ := x
 have hk' : k = 0 ∨ k = 1 ∨ k = 2 ∨ k = 3 := by have : k < 4 := hk; omega
 rcases hk' with rfl | rfl | rfl | rfl
 · obtain ⟨l, X, h1, h2, h3⟩ := lineN_inv (show (r : Int) < lineN s 0 c from hx)
   obtain ⟨y, hy'⟩ : ∃ y, l.xs[r]? = some y := ⟨_, List.getElem?_eq_getElem (by omega)⟩
   have e0 : cenP s ⟨0, c, r⟩ = ⟨X, y⟩ := by simp only [cenP]; rw [getD_of' h2, getD_of' (show (s.L.xs.map (·.xs))[c]? = some l.xs by rw [List.getElem?_map, h1]; rfl), getD_of' hy']
   rw [e0, show crnL s ⟨0, c, r⟩ = [⟨X, y⟩] by simp only [crnL]; rw [getD_of' h2, getD_of' (show (s.L.xs.map (·.xs))[c]? = some l.xs by rw [List.getElem?_map, h1]; rfl), getD_of' hy']]
   have e : ∀ p, conB 0 [(⟨X, y⟩ : V)] p = (true && decide (cmpV ⟨X, y⟩ p = 0)) := fun p => rfl
   have hc : conB 0 [(⟨X, y⟩ : V)] ⟨X, y⟩ = true := by rw [e, Bool.true_and, decide_eq_true_eq, cmpV_zero]
   refine ⟨hc, fun q hq => ?_⟩
   rw [List.mem_singleton.1 hq, at_half, show (X + X) / 2 = X by grind, show (y + y) / 2 = y by grind]
   exact hc
 · obtain ⟨l, X, h1, h2, h3⟩ := lineN_inv (show (r : Int) < lineN s 1 c from hx)
   obtain ⟨y, hy'⟩ : ∃ y, l.xs[r]? = some y := ⟨_, List.getElem?_eq_getElem (by omega)⟩
   obtain ⟨y', hy''⟩ : ∃ y, l.xs[r + 1]? = some y := ⟨_, List.getElem?_eq_getElem (by omega)⟩
   have hlt : y < y' := asc_get (ys_ranges hs (Rat.le_of_lt hy) h2 h1).asc hy' hy'' (by omega)
   have e0 : cenP s ⟨1, c, r⟩ = ⟨X, (y + y') / 2⟩ := by
     simp only [cenP, midV]; rw [getD_of' h2, getD_of' (show (s.L.xs.map (·.xs))[c]? = some l.xs by rw [List.getElem?_map, h1]; rfl), getD_of' hy', getD_of' hy'']
     congr 1; grind
   rw [e0, show crnL s ⟨1, c, r⟩ = [⟨X, y⟩, ⟨X, y'⟩] by simp only [crnL]; rw [getD_of' h2, getD_of' (show (s.L.xs.map (·.xs))[c]? = some l.xs by rw [List.getElem?_map, h1]; rfl), getD_of' hy', getD_of' hy'']]
   have e : ∀ p, conB 1 [(⟨X, y⟩ : V), ⟨X, y'⟩] p = (true && (betwB ⟨X, y⟩ ⟨X, y'⟩ p && (decide (cmpV ⟨X, y⟩ p ≠ 0) && decide (cmpV ⟨X, y'⟩ p ≠ 0)))) := fun p => rfl
   have hc : ∀ h, y < h → h < y' → conB 1 [(⟨X, y⟩ : V), ⟨X, y'⟩] ⟨X, h⟩ = true := fun h k1 k2 => by
     rw [e, Bool.true_and, Bool.and_eq_true, Bool.and_eq_true, decide_eq_true_eq, decide_eq_true_eq, betw_iff (fun h => by have := congrArg V.y h; simp only at this; grind), onS_vert hlt]
     refine ⟨⟨rfl, by grind, by grind⟩, fun h => ?_, fun h => ?_⟩
     · have := congrArg V.y (cmpV_zero.1 h); simp only at this; grind
     · have := congrArg V.y (cmpV_zero.1 h); simp only at this; grind
   refine ⟨hc _ (by grind) (by grind), fun q hq => ?_⟩
   simp only [List.mem_cons, List.not_mem_nil, or_false] at hq
   rcases hq with rfl | rfl
   · rw [at_half, show (X + X) / 2 = X by grind]; exact hc _ (by grind) (by grind)
   · rw [at_half, show (X + X) / 2 = X by grind]; exact hc _ (by grind) (by grind)
 · obtain ⟨t, X, Y, h1, h2, h3, h4, h5⟩ := stripN_inv (show (r : Int) < stripN s 2 c from hx)
   have hN : Nx s c X Y := ⟨h2, h3⟩
   have hXY := hN.lt hs
   obtain ⟨a, b, g1, g2, _, _, g5⟩ := hgts_row hs hy hN h1 (r := r) (by omega)
   obtain ⟨m, gm, gl⟩ := g5 ((X + Y) / 2) (by grind) (by grind)
   have em : m = (a + b) / 2 := mul_cancel_eq (show 0 < Y - X by grind) (by grind)
   have e0 : cenP s ⟨2, c, r⟩ = ⟨(X + Y) / 2, (a + b) / 2⟩ := by simp only [cenP, onP]; rw [getD_of' h2, getD_of' h3, getD_of' h1, getD_of' gm, em]
   rw [e0, show crnL s ⟨2, c, r⟩ = [⟨X, a⟩, ⟨Y, b⟩] by simp only [crnL, onP]; rw [getD_of' h2, getD_of' h3, getD_of' h1, getD_of' g1, getD_of' g2]]
   have e : ∀ p, conB 2 [(⟨X, a⟩ : V), ⟨Y, b⟩] p = (true && (betwB ⟨X, a⟩ ⟨Y, b⟩ p && (decide (cmpV ⟨X, a⟩ p ≠ 0) && decide (cmpV ⟨Y, b⟩ p ≠ 0)))) := fun p => rfl
   have hc : ∀ x h, X < x → x < Y → h * (Y - X) = a * (Y - x) + b * (x - X) → conB 2 [(⟨X, a⟩ : V), ⟨Y, b⟩] ⟨x, h⟩ = true := fun x h k1 k2 k3 => by
     rw [e, Bool.true_and, Bool.and_eq_true, Bool.and_eq_true, decide_eq_true_eq, decide_eq_true_eq, betw_iff (fun h => by have := congrArg V.x h; simp only at this; grind), onS_seg hXY]
     refine ⟨⟨by grind, by grind, k3⟩, fun h => ?_, fun h => ?_⟩
     · have := congrArg V.x (cmpV_zero.1 h); simp only at this; grind
     · have := congrArg V.x (cmpV_zero.1 h); simp only at this; grind
   refine ⟨hc _ _ (by grind) (by grind) (by grind), fun q hq => ?_⟩
   simp only [List.mem_cons, List.not_mem_nil, or_false] at hq
   rcases hq with rfl | rfl
   · rw [at_half]; exact hc _ _ (by grind) (by grind) (by grind)
   · rw [at_half]; exact hc _ _ (by grind) (by grind) (by grind)
 · obtain ⟨t, X, Y, h1, h2, h3, h4, h5⟩ := stripN_inv (show (r : Int) < stripN s 1 c from hx)
   have hN : Nx s c X Y := ⟨h2, h3⟩
   have hXY := hN.lt hs
   obtain ⟨a, b, g1, g2, _, _, g5⟩ := hgts_row hs hy hN h1 (r := r) (by omega)
   obtain ⟨a', b', g1', g2', _, _, g5'⟩ := hgts_row hs hy hN h1 (r := r + 1) (by omega)
   obtain ⟨m1, m2, m3⟩ := hgts_two hs hy hN h1 (show r < r + 1 by omega) g1 g2 g1' g2'
   obtain ⟨m, gm, gl⟩ := g5 ((X + Y) / 2) (by grind) (by grind)
   obtain ⟨m', gm', gl'⟩ := g5' ((X + Y) / 2) (by grind) (by grind)
   have em : m = (a + b) / 2 := mul_cancel_eq (show 0 < Y - X by grind) (by grind)
   have em' : m' = (a' + b') / 2 := mul_cancel_eq (show 0 < Y - X by grind) (by grind)
   have e0 : cenP s ⟨3, c, r⟩ = ⟨(X + Y) / 2, (a + b + a' + b') / 4⟩ := by
     simp only [cenP, onP, midV]; rw [getD_of' h2, getD_of' h3, getD_of' h1, getD_of' gm, getD_of' gm', em, em']
     congr 1 <;> grind
   rw [e0, show crnL s ⟨3, c, r⟩ = unw (ddp [⟨X, a⟩, ⟨Y, b⟩, ⟨Y, b'⟩, ⟨X, a'⟩]) by simp only [crnL, crn3, onP]; rw [getD_of' h2, getD_of' h3, getD_of' h1, getD_of' g1, getD_of' g2, getD_of' g1', getD_of' g2']]
   have hW := Rat.mul_pos (show 0 < Y - X by grind) (show 0 < a' + b' - a - b by grind)
   have hW1 := Rat.mul_nonneg (show 0 ≤ Y - X by grind) (show 0 ≤ a' - a by grind)
   have hW2 := Rat.mul_nonneg (show 0 ≤ Y - X by grind) (show 0 ≤ b' - b by grind)
   refine ⟨(con3 hXY m1 m2 m3).2 ⟨by grind, by grind, by grind, by grind⟩, fun q hq => ?_⟩
   have hq' : q ∈ [⟨X, a⟩, ⟨Y, b⟩, ⟨Y, b'⟩, (⟨X, a'⟩ : V)] := by
     refine ddp_mem.1 ?_
     unfold unw at hq
     split at hq
     · exact List.mem_of_mem_take hq
     · exact hq
   simp only [List.mem_cons, List.not_mem_nil, or_false] at hq'
   rcases hq' with rfl | rfl | rfl | rfl
   · rw [at_half]; exact (con3 hXY m1 m2 m3).2 ⟨by grind, by grind, by grind, by grind⟩
   · rw [at_half]; exact (con3 hXY m1 m2 m3).2 ⟨by grind, by grind, by grind, by grind⟩
   · rw [at_half]; exact (con3 hXY m1 m2 m3).2 ⟨by grind, by grind, by grind, by grind⟩
   · rw [at_half]; exact (con3 hXY m1 m2 m3).2 ⟨by grind, by grind, by grind, by grind⟩
end Go.Sx
end
section
set_option maxRecDepth 10000
set_option maxHeartbeats 1000000
namespace Go.Sx
open Go Go.Proofs
theorem on_at {A B : V} (h : A.x < B.x) {x : Rat} (h1 : A.x ≤ x) (h2 : x ≤ B.x) : ∃ y, onS A B ⟨x, y⟩ := by
 obtain ⟨u, hu, u0, u1, _⟩ := ratio_ex (d := x - A.x) (g := B.x - x) (by grind) (by grind) (by grind)
 refine ⟨A.y + (B.y - A.y) * u, u, ⟨u0, u1⟩, ?_⟩
 show (⟨x, _⟩ : V) = ⟨A.x + (B.x - A.x) * u, A.y + (B.y - A.y) * u⟩
 congr 1
 grind
theorem on_x {A B : V} (h : A.x ≤ B.x) {p : V} (ho : onS A B p) : A.x ≤ p.x ∧ p.x ≤ B.x := by
 obtain ⟨u, ⟨u0, u1⟩, e⟩ := ho
 have ex : p.x = A.x + (B.x - A.x) * u := congrArg V.x e
 have k1 := Rat.mul_nonneg (show 0 ≤ B.x - A.x by grind) u0
 have k2 := Rat.mul_nonneg (show 0 ≤ B.x - A.x by grind) (show 0 ≤ 1 - u by grind)
 constructor <;> grind
theorem hgts_0 (s : Sl) (t : Ln Nat) (x : Rat) : (hgtsL s t x)[0]? = some s.lo.y := rfl
theorem hgts_n (s : Sl) (t : Ln Nat) (x : Rat) : (hgtsL s t x)[t.xs.length + 1]? = some s.hi.y := by
 rw [hgtsL, List.getElem?_cons_succ, List.getElem?_append_right (by rw [List.length_map]; omega), List.length_map, Nat.sub_self]; rfl
theorem hgts_k {s : Sl} {t : Ln Nat} {j k : Nat} (h : t.xs[j]? = some k) (x : Rat) : (hgtsL s t x)[j + 1]? = some (hgtS s x k) := by
 rw [hgtsL, List.getElem?_cons_succ, List.getElem?_append_left (by rw [List.length_map]; exact (List.getElem?_eq_some_iff.1 h).1), List.getElem?_map, h]; rfl
theorem piece_row {s : Sl} (hs : s.is) (hy : s.lo.y < s.hi.y) {c : Nat} {X Y : Rat} (hN : Nx s c X Y) {t : Ln Nat} (ht : s.S.xs[c]? = some t) {p : Pc} (hp : p ∈ pcsL s.lo s.hi s.sg.xs) {x y : Rat} (h1 : X < x) (h2 : x < Y) (ho : onS p.a p.b ⟨x, y⟩) :
   ∃ r, r < t.xs.length + 2 ∧ (hgtsL s t x)[r]? = some y ∧ ∀ x', X ≤ x' → x' ≤ Y → ∃ h, (hgtsL s t x')[r]? = some h ∧ onS p.a p.b ⟨x', h⟩ := by
 have hXY := hN.lt hs
 obtain ⟨e, he⟩ := pcs_of hp
 have hle := pcs_le hp
 have ha := hN.none hs (x := p.a.x) (by rw [hs.1]; exact xs_mem.2 (.inr (.inr (.inl ⟨p, hp, .inl rfl⟩))))
 have hb := hN.none hs (x := p.b.x) (by rw [hs.1]; exact xs_mem.2 (.inr (.inr (.inl ⟨p, hp, .inr rfl⟩))))
 have hax : p.a.x ≤ p.b.x := by unfold leP2 ltP2 at hle; grind
 obtain ⟨a1, b1⟩ := on_x hax ho
 have a1 : p.a.x ≤ x := a1
 have b1 : x ≤ p.b.x := b1
 have a2 : p.a.x ≤ X := by grind
 have b2 : Y ≤ p.b.x := by grind
 have hlt : p.a.x < p.b.x := by grind
 have nv : (p.b - p.a).x ≠ 0 := fun h => by have : p.b.x - p.a.x = 0 := h; grind
 have hH : ∀ x', X ≤ x' → x' ≤ Y → onS p.a p.b ⟨x', hgtS s x' p.i⟩ := fun x' c1 c2 => by
   obtain ⟨h, hh⟩ := on_at hlt (x := x') (by grind) (by grind)
   rw [hgtS_on he nv hh]; exact hh
 have hy0 : hgtS s x p.i = y := hgtS_on he nv ho
 have oX := hH X (by grind) (by grind)
 have oY := hH Y (by grind) (by grind)
 have iX := (inX_on he.ia he.ib oX).2
 have iY := (inX_on he.ia he.ib oY).2
 by_cases hno : hgtS s X p.i = hgtS s Y p.i ∧ (hgtS s X p.i = s.lo.y ∨ hgtS s X p.i = s.hi.y)
 · have flat : ∀ x', X ≤ x' → x' ≤ Y → hgtS s x' p.i = hgtS s X p.i := fun x' c1 c2 => by
     have hc := onS_col oX oY (hH x' c1 c2)
     rw [← hno.1, Rat.sub_self, Rat.zero_mul] at hc
     rcases Rat.mul_eq_zero.1 hc with h | h <;> grind
   rcases hno.2 with e1 | e1
   · refine ⟨0, by omega, ?_, fun x' c1 c2 => ⟨s.lo.y, rfl, ?_⟩⟩
     · rw [hgts_0, ← hy0, flat x (by grind) (by grind), e1]
     · have := hH x' c1 c2; rw [flat x' c1 c2, e1] at this; exact this
   · refine ⟨t.xs.length + 1, by omega, ?_, fun x' c1 c2 => ⟨s.hi.y, hgts_n s t x', ?_⟩⟩
     · rw [hgts_n, ← hy0, flat x (by grind) (by grind), e1]
     · have := hH x' c1 c2; rw [flat x' c1 c2, e1] at this; exact this
 · have hE : Ed s X Y p.i p := ⟨hp, rfl, nv, hH, ⟨iX.1, iY.1⟩, ⟨iX.2, iY.2⟩, hno⟩
   obtain ⟨k', hk', hh⟩ := edge_in hs hy hN ht hE
   obtain ⟨j, hj⟩ := List.getElem?_of_mem hk'
   refine ⟨j + 1, by have := (List.getElem?_eq_some_iff.1 hj).1; omega, ?_, fun x' c1 c2 => ⟨_, hgts_k hj x', ?_⟩⟩
   · rw [hgts_k hj, hh x (by grind) (by grind), hy0]
   · rw [hh x' c1 c2]; exact hH x' c1 c2
theorem asc_inj {l : List Rat} (h : Asc l) {i j : Nat} {x : Rat} (hi : l[i]? = some x) (hj : l[j]? = some x) : i = j := by
 rcases Nat.lt_trichotomy i j with k | k | k
 · have := asc_get h hi hj k; grind
 · exact k
 · have := asc_get h hj hi k; grind
theorem onP_eq {s : Sl} {t : Ln Nat} {r : Nat} {x h : Rat} (hh : (hgtsL s t x)[r]? = some h) : onP s t r x = ⟨x, h⟩ := by rw [onP, getD_of' hh]
theorem seg_center {s : Sl} (hs : s.is) (hy : s.lo.y < s.hi.y) {x : Cel} (hk : x.k < 4) (hx : (x.r : Int) < cntK s x.k x.c) {p : Pc} (hp : p ∈ pcsL s.lo s.hi s.sg.xs) (ho : onS p.a p.b (cenP s x)) : x.k ≠ 3 ∧ ∀ q ∈ crnL s x, onS p.a p.b q := by
 obtain ⟨k, c, r⟩ := x
 have hk' : k = 0 ∨ k = 1 ∨ k = 2 ∨ k = 3 := by have : k < 4 := hk; omega
 rcases hk' with rfl | rfl | rfl | rfl
 · refine ⟨(show (0 : Nat) ≠ 3 by decide), fun q hq => ?_⟩
   obtain rfl : q = _ := List.mem_singleton.1 hq
   exact ho
 · refine ⟨(show (1 : Nat) ≠ 3 by decide), fun q hq => ?_⟩
   obtain ⟨l, X, hl, hX, hr⟩ := lineN_inv (show (r : Int) < lineN s 1 c from hx)
   obtain ⟨y0, hy0⟩ : ∃ y, l.xs[r]? = some y := ⟨_, List.getElem?_eq_getElem (by omega)⟩
   obtain ⟨y1, hy1⟩ : ∃ y, l.xs[r + 1]? = some y := ⟨_, List.getElem?_eq_getElem (by omega)⟩
   have hll : (s.L.xs.map (·.xs)).getD c [] = l.xs := getD_of' (by rw [List.getElem?_map, hl]; rfl)
   have hlX := line_at hs hX hl
   have hasc : Asc l.xs := by rw [hlX]; exact ascL_asc _
   have hlt := asc_get hasc hy0 hy1 (by omega)
   have ho : onS p.a p.b ⟨X, (y0 + y1) / 2⟩ := by
     have e : cenP s ⟨1, c, r⟩ = ⟨X, (y0 + y1) / 2⟩ := by
       show midV ⟨s.X.xs.getD c 0, ((s.L.xs.map (·.xs)).getD c []).getD r 0⟩ ⟨s.X.xs.getD c 0, ((s.L.xs.map (·.xs)).getD c []).getD (r + 1) 0⟩ = _
       rw [hll, getD_of' hX, getD_of' hy0, getD_of' hy1, midV]
       congr 1; grind
     rw [e] at ho; exact ho
   have hq : q = ⟨X, y0⟩ ∨ q = ⟨X, y1⟩ := by
     have e : crnL s ⟨1, c, r⟩ = [⟨X, y0⟩, ⟨X, y1⟩] := by
       show [(⟨s.X.xs.getD c 0, ((s.L.xs.map (·.xs)).getD c []).getD r 0⟩ : V), ⟨s.X.xs.getD c 0, ((s.L.xs.map (·.xs)).getD c []).getD (r + 1) 0⟩] = _
       rw [hll, getD_of' hX, getD_of' hy0, getD_of' hy1]
     rw [e] at hq
     simpa using hq
   have btw : ∀ y ∈ l.xs, y ≤ (y0 + y1) / 2 → y ≤ y0 := fun y hm h => by
     obtain ⟨j, hj⟩ := List.getElem?_of_mem hm
     by_cases hjr : j < r
     · exact Rat.le_of_lt (asc_get hasc hj hy0 hjr)
     · by_cases hjr : j = r
       · subst hjr; rw [hy0] at hj; cases hj; exact Rat.le_refl
       · by_cases hj2 : j = r + 1
         · subst hj2; rw [hy1] at hj; cases hj; grind
         · have := asc_get hasc hy1 hj (by omega); grind
   have btw2 : ∀ y ∈ l.xs, (y0 + y1) / 2 ≤ y → y1 ≤ y := fun y hm h => by
     obtain ⟨j, hj⟩ := List.getElem?_of_mem hm
     by_cases hjr : j < r
     · have := asc_get hasc hj hy0 hjr; grind
     · by_cases hjr : j = r
       · subst hjr; rw [hy0] at hj; cases hj; grind
       · by_cases hj2 : j = r + 1
         · subst hj2; rw [hy1] at hj; cases hj; exact Rat.le_refl
         · exact Rat.le_of_lt (asc_get hasc hy1 hj (by omega))
   by_cases hv : p.a.x = p.b.x
   · have hle := pcs_le hp
     obtain ⟨e, he⟩ := pcs_of hp
     have hyy : p.a.y < p.b.y := by
       unfold leP2 ltP2 at hle
       by_cases h3 : p.a.y = p.b.y
       · exact absurd (show p.a = p.b from by cases hpa : p.a; cases hpb : p.b; rw [hpa, hpb] at h3 hv; simp only at h3 hv; rw [h3, hv]) he.ne
       · grind
     have ev : ∀ {x h : Rat}, onS p.a p.b ⟨x, h⟩ ↔ x = p.a.x ∧ p.a.y ≤ h ∧ h ≤ p.b.y := fun {x h} => by
       have e1 : p.b = ⟨p.a.x, p.b.y⟩ := by rw [hv]
       have := onS_vert (X := p.a.x) (x := x) (h := h) hyy
       rw [e1]; exact this
     obtain ⟨ex, m1, m2⟩ := ev.1 ho
     have mem : ∀ y, (y = p.a.y ∨ y = p.b.y) → y ∈ l.xs := fun y h => by
       rw [hlX]
       refine ascL_mem.2 (List.mem_cons_of_mem _ (List.mem_cons_of_mem _ (List.mem_flatMap.2 ⟨p, hp, List.mem_append_left _ ?_⟩)))
       rw [if_pos ⟨hv, ex.symm⟩]
       simpa using h
     have l1 := btw p.a.y (mem _ (.inl rfl)) m1
     have l2 := btw2 p.b.y (mem _ (.inr rfl)) m2
     rcases hq with rfl | rfl
     · exact ev.2 ⟨ex, l1, by grind⟩
     · exact ev.2 ⟨ex, by grind, l2⟩
   · exfalso
     have nv : (p.b - p.a).x ≠ 0 := fun h => hv (by have : p.b.x - p.a.x = 0 := h; grind)
     have hO : hgtO p X = some ((y0 + y1) / 2) := by unfold hgtO; rw [hgtE_on nv ho]; rfl
     have hm : (y0 + y1) / 2 ∈ l.xs := by
       rw [hlX]
       refine ascL_mem.2 (List.mem_cons_of_mem _ (List.mem_cons_of_mem _ (List.mem_flatMap.2 ⟨p, hp, List.mem_append_right _ ?_⟩)))
       rw [hO]; exact List.mem_singleton.2 rfl
     have := btw _ hm Rat.le_refl
     grind
 · refine ⟨(show (2 : Nat) ≠ 3 by decide), fun q hq => ?_⟩
   obtain ⟨t, X, Y, ht, hX, hY, hr, _⟩ := stripN_inv (show (r : Int) < stripN s 2 c from hx)
   have hN : Nx s c X Y := ⟨hX, hY⟩
   have hXY := hN.lt hs
   have hm1 : X < (X + Y) / 2 := by grind
   have hm2 : (X + Y) / 2 < Y := by grind
   obtain ⟨a, b, ha, hb, _, _, hrow⟩ := hgts_row hs hy hN ht hr
   obtain ⟨h, hh, _⟩ := hrow ((X + Y) / 2) (by grind) (by grind)
   have ett : s.S.xs.getD c ⟨none, 0, []⟩ = t := getD_of' ht
   have eC : cenP s ⟨2, c, r⟩ = ⟨(X + Y) / 2, h⟩ := by
     show onP s (s.S.xs.getD c ⟨none, 0, []⟩) r ((s.X.xs.getD c 0 + s.X.xs.getD (c + 1) 0) / 2) = _
     rw [ett, getD_of' hX, getD_of' hY, onP_eq hh]
   rw [eC] at ho
   obtain ⟨r', hr', h1, h2⟩ := piece_row hs hy hN ht hp hm1 hm2 ho
   obtain rfl : r = r' := asc_inj (hgts_asc_in hs hy hN ht hm1 hm2) hh h1
   have hq : q = onP s t r X ∨ q = onP s t r Y := by
     have e : crnL s ⟨2, c, r⟩ = [onP s t r X, onP s t r Y] := by
       show [onP s (s.S.xs.getD c ⟨none, 0, []⟩) r (s.X.xs.getD c 0), onP s (s.S.xs.getD c ⟨none, 0, []⟩) r (s.X.xs.getD (c + 1) 0)] = _
       rw [ett, getD_of' hX, getD_of' hY]
     rw [e] at hq
     simpa using hq
   rcases hq with rfl | rfl
   · obtain ⟨h', e1, e2⟩ := h2 X (by grind) (by grind)
     rw [onP_eq e1]; exact e2
   · obtain ⟨h', e1, e2⟩ := h2 Y (by grind) (by grind)
     rw [onP_eq e1]; exact e2
 · exfalso
   obtain ⟨t, X, Y, ht, hX, hY, hr, _⟩ := stripN_inv (show (r : Int) < stripN s 1 c from hx)
   have hN : Nx s c X Y := ⟨hX, hY⟩
   have hXY := hN.lt hs
   have hm1 : X < (X + Y) / 2 := by grind
   have hm2 : (X + Y) / 2 < Y := by grind
   obtain ⟨_, _, _, _, _, _, hrow⟩ := hgts_row hs hy hN ht (r := r) (by omega)
   obtain ⟨h, hh, _⟩ := hrow ((X + Y) / 2) (by grind) (by grind)
   obtain ⟨_, _, _, _, _, _, hrow'⟩ := hgts_row hs hy hN ht (r := r + 1) (by omega)
   obtain ⟨h', hh', _⟩ := hrow' ((X + Y) / 2) (by grind) (by grind)
   have hasc := hgts_asc_in hs hy hN ht hm1 hm2
   have hlt := asc_get hasc hh hh' (by omega)
   have ett : s.S.xs.getD c ⟨none, 0, []⟩ = t := getD_of' ht
   have eC : cenP s ⟨3, c, r⟩ = ⟨(X + Y) / 2, (h + h') / 2⟩ := by
     show midV (onP s (s.S.xs.getD c ⟨none, 0, []⟩) r ((s.X.xs.getD c 0 + s.X.xs.getD (c + 1) 0) / 2)) (onP s (s.S.xs.getD c ⟨none, 0, []⟩) (r + 1) ((s.X.xs.getD c 0 + s.X.xs.getD (c + 1) 0) / 2)) = _
     rw [ett, getD_of' hX, getD_of' hY, onP_eq hh, onP_eq hh', midV]
     congr 1; grind
   rw [eC] at ho
   obtain ⟨r', hr', h1, h2⟩ := piece_row hs hy hN ht hp hm1 hm2 ho
   rcases Nat.lt_trichotomy r' r with k | k | k
   · have := asc_get hasc h1 hh k; grind
   · subst k
     have := Option.some.inj (hh.symm.trans h1)
     grind
   · by_cases k2 : r' = r + 1
     · subst k2
       have := Option.some.inj (hh'.symm.trans h1)
       grind
     · have := asc_get hasc hh' h1 (by omega); grind
theorem crn_center {s : Sl} (hs : s.is) (hy : s.lo.y < s.hi.y) {x : Cel} (hk : x.k < 3) (hx : (x.r : Int) < cntK s x.k x.c) {A B : V} (h : ∀ q ∈ crnL s x, onS A B q) : onS A B (cenP s x) := by
 obtain ⟨k, c, r⟩ := x
 have hk' : k = 0 ∨ k = 1 ∨ k = 2 := by have : k < 3 := hk; omega
 rcases hk' with rfl | rfl | rfl
 · exact h _ (List.mem_singleton.2 rfl)
 · have h1 := h _ (List.mem_cons_self ..)
   have h2 := h _ (List.mem_cons_of_mem _ (List.mem_singleton.2 rfl))
   exact onS_mid h1 h2
 · obtain ⟨t, X, Y, ht, hX, hY, hr, _⟩ := stripN_inv (show (r : Int) < stripN s 2 c from hx)
   have hN : Nx s c X Y := ⟨hX, hY⟩
   have hXY := hN.lt hs
   obtain ⟨a, b, ha, hb, _, _, hrow⟩ := hgts_row hs hy hN ht hr
   obtain ⟨z, hz, ez⟩ := hrow ((X + Y) / 2) (by grind) (by grind)
   have ett : s.S.xs.getD c ⟨none, 0, []⟩ = t := getD_of' ht
   have eC : cenP s ⟨2, c, r⟩ = ⟨(X + Y) / 2, z⟩ := by
     show onP s (s.S.xs.getD c ⟨none, 0, []⟩) r ((s.X.xs.getD c 0 + s.X.xs.getD (c + 1) 0) / 2) = _
     rw [ett, getD_of' hX, getD_of' hY, onP_eq hz]
   have e : crnL s ⟨2, c, r⟩ = [⟨X, a⟩, ⟨Y, b⟩] := by
     show [onP s (s.S.xs.getD c ⟨none, 0, []⟩) r (s.X.xs.getD c 0), onP s (s.S.xs.getD c ⟨none, 0, []⟩) r (s.X.xs.getD (c + 1) 0)] = _
     rw [ett, getD_of' hX, getD_of' hY, onP_eq ha, onP_eq hb]
   rw [e] at h
   have h1 := h _ (List.mem_cons_self ..)
   have h2 := h _ (List.mem_cons_of_mem _ (List.mem_singleton.2 rfl))
   have := onS_mid h1 h2
   have ez2 : z = (a + b) / 2 := by
     have : (z - (a + b) / 2) * (Y - X) = 0 := by grind
     rcases Rat.mul_eq_zero.1 this with k | k <;> grind
   rw [eC, ez2]; exact this
theorem covB_iff {s : Sl} {p : Pc} (hp : p ∈ pcsL s.lo s.hi s.sg.xs) (L : List V) : covB L p = true ↔ ∀ q ∈ L, onS p.a p.b q := by
 obtain ⟨e, he⟩ := pcs_of hp
 rw [covB, Bool.not_eq_true', List.any_eq_false]
 refine forall_congr' fun q => forall_congr' fun hq => ?_
 rw [← betw_iff he.ne]
 cases betwB p.a p.b q <;> simp
theorem cover_mem {s : Sl} {x : Cel} {i : Nat} : i ∈ coverL s x ↔ x.k ≠ 3 ∧ ∃ p ∈ pcsL s.lo s.hi s.sg.xs, p.i = i ∧ ∀ q ∈ crnL s x, onS p.a p.b q := by
 unfold coverL
 by_cases h : x.k = 3
 · rw [if_pos h]; exact ⟨fun k => (by cases k), fun k => absurd h k.1⟩
 rw [if_neg h, List.mem_map]
 constructor
 · rintro ⟨p, hp, rfl⟩
   obtain ⟨h1, h2⟩ := List.mem_filter.1 hp
   exact ⟨h, p, h1, rfl, (covB_iff h1 _).1 h2⟩
 · rintro ⟨_, p, h1, rfl, h2⟩
   exact ⟨p, List.mem_filter.2 ⟨h1, (covB_iff h1 _).2 h2⟩, rfl⟩
def onE (lo hi : V) (e : V × V) (v : V) : Bool := match clipV ⟨PQ lo, PQ hi⟩ e.1 e.2 with
 | none => false
 | some (c, d) => !decide (c = d) && betwB e.1 e.2 v
theorem clip_on {lo hi : V} {e : V × V} {c d v : V} (h : clipV ⟨PQ lo, PQ hi⟩ e.1 e.2 = some (c, d)) (hcd : c ≠ d) : onS c d v ↔ onS e.1 e.2 v ∧ inX lo hi v := by
 obtain ⟨l, u, hlu, l0, u1, rfl, rfl, hiff⟩ := clipV_some h
 have ic := (hiff l).1 ⟨Rat.le_refl, hlu⟩
 have iu := (hiff u).1 ⟨hlu, Rat.le_refl⟩
 constructor
 · intro ho
   exact ⟨onS_trans ⟨l, ic.1, rfl⟩ ⟨u, iu.1, rfl⟩ ho, inX_on ic.2 iu.2 ho⟩
 · rintro ⟨⟨t, ht, rfl⟩, hin⟩
   obtain ⟨h1, h2⟩ := (hiff t).2 ⟨ht, hin⟩
   have hne : l ≠ u := fun k => hcd (by rw [k])
   obtain ⟨z, hz, z0, z1, _⟩ := ratio_ex (d := t - l) (g := u - t) (by grind) (by grind) (by grind)
   refine ⟨z, ⟨z0, z1⟩, ?_⟩
   have e1 : t = l + (u - l) * z := by grind
   show (⟨e.1.x + (e.2.x - e.1.x) * t, e.1.y + (e.2.y - e.1.y) * t⟩ : V) = ⟨(e.1.x + (e.2.x - e.1.x) * l) + ((e.1.x + (e.2.x - e.1.x) * u) - (e.1.x + (e.2.x - e.1.x) * l)) * z, (e.1.y + (e.2.y - e.1.y) * l) + ((e.1.y + (e.2.y - e.1.y) * u) - (e.1.y + (e.2.y - e.1.y) * l)) * z⟩
   rw [e1]
   congr 1 <;> grind
theorem ord_on {c d v : V} : onS (ordV c d).1 (ordV c d).2 v ↔ onS c d v := by
 unfold ordV
 split
 · exact onS_swap
 · exact Iff.rfl
theorem mem_pcs' {lo hi : V} {E : List (V × V)} {i : Nat} {e : V × V} (he : E[i]? = some e) {p : Pc} (hp : p ∈ pcsL lo hi E) (hi' : p.i = i) : ∃ c d, clipV ⟨PQ lo, PQ hi⟩ e.1 e.2 = some (c, d) ∧ c ≠ d ∧ p.a = (ordV c d).1 ∧ p.b = (ordV c d).2 := by
 have key : ∀ (l : List (V × V)) (i : Nat), p ∈ pcsF lo hi i l → ∃ j e, l[j]? = some e ∧ pcsO lo hi e (i + j) = some p := fun l => by
   induction l with
   | nil => intro i h; cases h
   | cons e r ih =>
     intro i h
     rcases List.mem_append.1 h with h | h
     · refine ⟨0, e, rfl, ?_⟩
       cases ho : pcsO lo hi e i with
       | none => rw [ho] at h; cases h
       | some q => rw [ho] at h; rw [List.mem_singleton.1 h]
     · obtain ⟨j, e', h1, h2⟩ := ih (i + 1) h
       exact ⟨j + 1, e', by rw [List.getElem?_cons_succ]; exact h1, by rw [show i + (j + 1) = i + 1 + j by omega]; exact h2⟩
 obtain ⟨j, e', h1, h2⟩ := key E 0 hp
 rw [Nat.zero_add] at h2
 unfold pcsO at h2
 split at h2
 · cases h2
 · rename_i c d hc
   split at h2
   · cases h2
   · rename_i hcd
     cases h2
     have : j = i := hi'
     subst this
     rw [he] at h1
     cases h1
     exact ⟨c, d, hc, hcd, rfl, rfl⟩
theorem pcs_mem' {lo hi : V} {E : List (V × V)} {i : Nat} {e : V × V} (he : E[i]? = some e) {c d : V} (hc : clipV ⟨PQ lo, PQ hi⟩ e.1 e.2 = some (c, d)) (hcd : c ≠ d) : (⟨(ordV c d).1, (ordV c d).2, i⟩ : Pc) ∈ pcsL lo hi E := by
 have key : ∀ (l : List (V × V)) (k j : Nat), l[j]? = some e → k + j = i → (⟨(ordV c d).1, (ordV c d).2, i⟩ : Pc) ∈ pcsF lo hi k l := fun l => by
   induction l with
   | nil => intro k j h; simp at h
   | cons a r ih =>
     intro k j h hk
     cases j with
     | zero =>
       cases h
       refine List.mem_append_left _ ?_
       have : pcsO lo hi e k = some ⟨(ordV c d).1, (ordV c d).2, i⟩ := by
         unfold pcsO; rw [hc]; simp only; rw [if_neg hcd, show k = i by omega]
       rw [this]; exact List.mem_singleton.2 rfl
     | succ j => exact List.mem_append_right _ (ih (k + 1) j (by rw [List.getElem?_cons_succ] at h; exact h) (by omega))
 exact key E 0 i he (Nat.zero_add _)
theorem onE_pcs {lo hi : V} {E : List (V × V)} {i : Nat} {e : V × V} (he : E[i]? = some e) (hne : e.1 ≠ e.2) {v : V} (hv : inX lo hi v) : onE lo hi e v = true ↔ ∃ p ∈ pcsL lo hi E, p.i = i ∧ onS p.a p.b v := by
 unfold onE
 constructor
 · intro h
   split at h
   · cases h
   · rename_i c d hc
     rw [Bool.and_eq_true, Bool.not_eq_true', decide_eq_false_iff_not, betw_iff hne] at h
     exact ⟨_, pcs_mem' he hc h.1, rfl, ord_on.2 ((clip_on hc h.1).2 ⟨h.2, hv⟩)⟩
 · rintro ⟨p, hp, hi', ho⟩
   obtain ⟨c, d, hc, hcd, e1, e2⟩ := mem_pcs' he hp hi'
   rw [e1, e2, ord_on, clip_on hc hcd] at ho
   rw [hc]
   show (!decide (c = d) && betwB e.1 e.2 v) = true
   rw [Bool.and_eq_true, Bool.not_eq_true', decide_eq_false_iff_not, betw_iff hne]
   exact ⟨hcd, ho.1⟩
theorem cen_inX {s : Sl} (hs : s.is) (hx : s.lo.x ≤ s.hi.x) (hy : s.lo.y < s.hi.y) {x : Cel} (hk : x.k < 4) (hc : (x.r : Int) < cntK s x.k x.c) : inX s.lo s.hi (cenP s x) := inC_box hs hx hy (center_in hs hy hk hc).1
theorem cover_on {s : Sl} (hs : s.is) (hx : s.lo.x ≤ s.hi.x) (hy : s.lo.y < s.hi.y) {x : Cel} (hk : x.k < 4) (hc : (x.r : Int) < cntK s x.k x.c) {i : Nat} {e : V × V} (he : s.sg.xs[i]? = some e) (hne : e.1 ≠ e.2) : i ∈ coverL s x ↔ onE s.lo s.hi e (cenP s x) = true := by
 rw [cover_mem, onE_pcs he hne (cen_inX hs hx hy hk hc)]
 constructor
 · rintro ⟨h3, p, hp, hi, h⟩
   exact ⟨p, hp, hi, crn_center hs hy (by omega) hc h⟩
 · rintro ⟨p, hp, hi, h⟩
   obtain ⟨h1, h2⟩ := seg_center hs hy hk hc hp h
   exact ⟨h1, p, hp, hi, h2⟩
theorem on_corners {s : Sl} (hs : s.is) (hx : s.lo.x ≤ s.hi.x) (hy : s.lo.y < s.hi.y) {x : Cel} (hk : x.k < 4) (hc : (x.r : Int) < cntK s x.k x.c) {i : Nat} {e : V × V} (he : s.sg.xs[i]? = some e) (hne : e.1 ≠ e.2) (h : onE s.lo s.hi e (cenP s x) = true) : x.k ≠ 3 ∧ ∀ q ∈ crnL s x, betwB e.1 e.2 q = true := by
 obtain ⟨p, hp, hi, ho⟩ := (onE_pcs he hne (cen_inX hs hx hy hk hc)).1 h
 obtain ⟨h1, h2⟩ := seg_center hs hy hk hc hp ho
 refine ⟨h1, fun q hq => ?_⟩
 obtain ⟨c, d, hcl, hcd, e1, e2⟩ := mem_pcs' he hp hi
 have := h2 q hq
 rw [e1, e2, ord_on, clip_on hcl hcd] at this
 exact (betw_iff hne).2 this.1
theorem end_vertex {s : Sl} (hs : s.is) {i : Nat} {e : V × V} (he : s.sg.xs[i]? = some e) {c d v : V} (hc : clipV ⟨PQ s.lo, PQ s.hi⟩ e.1 e.2 = some (c, d)) (hcd : c ≠ d) (hv : v = c ∨ v = d) : ∃ x ∈ cellsL s, x.k = 0 ∧ cenP s x = v := by
 have hp := pcs_mem' he hc hcd
 obtain ⟨p, hpe⟩ : ∃ p : Pc, p = ⟨(ordV c d).1, (ordV c d).2, i⟩ := ⟨_, rfl⟩
 rw [← hpe] at hp
 have hv' : v = p.a ∨ v = p.b := by
   rw [hpe]
   show v = (ordV c d).1 ∨ v = (ordV c d).2
   unfold ordV
   split
   · exact hv.symm
   · exact hv
 obtain ⟨X, hX⟩ : ∃ X, X = v.x := ⟨_, rfl⟩
 have hxs : X ∈ s.X.xs := by
   rw [hs.1]
   refine xs_mem.2 (.inr (.inr (.inl ⟨p, hp, ?_⟩)))
   rcases hv' with h | h
   · left; rw [hX, h]
   · right; rw [hX, h]
 have hon : onS p.a p.b v := by
   rcases hv' with h | h
   · rw [h]; exact onS_left _ _
   · rw [h]; exact onS_swap.2 (onS_left _ _)
 obtain ⟨col, hcol⟩ := List.getElem?_of_mem hxs
 have hlen := Sl.is_len hs
 have hcl := (List.getElem?_eq_some_iff.1 hcol).1
 obtain ⟨l, hl⟩ : ∃ l, s.L.xs[col]? = some l := ⟨_, List.getElem?_eq_getElem (by omega)⟩
 have hlX := line_at hs hcol hl
 have hyl : v.y ∈ l.xs := by
   rw [hlX]
   refine ascL_mem.2 (List.mem_cons_of_mem _ (List.mem_cons_of_mem _ (List.mem_flatMap.2 ⟨p, hp, ?_⟩)))
   unfold ordP
   by_cases hvx : p.a.x = p.b.x
   · refine List.mem_append_left _ ?_
     have e1 : p.a.x = X := by
       rcases hv' with h | h
       · rw [hX, h]
       · rw [hX, h, hvx]
     rw [if_pos ⟨hvx, e1⟩]
     rcases hv' with h | h
     · rw [h]; exact List.mem_cons_self ..
     · rw [h]; exact List.mem_cons_of_mem _ (List.mem_singleton.2 rfl)
   · refine List.mem_append_right _ ?_
     have nv : (p.b - p.a).x ≠ 0 := fun h => hvx (by have : p.b.x - p.a.x = 0 := h; grind)
     have hon' : onS p.a p.b ⟨X, v.y⟩ := by rw [hX]; exact hon
     have : hgtO p X = some v.y := by unfold hgtO; rw [hgtE_on nv hon']; rfl
     rw [this]; exact List.mem_singleton.2 rfl
 obtain ⟨r, hr⟩ := List.getElem?_of_mem hyl
 have hrl := (List.getElem?_eq_some_iff.1 hr).1
 refine ⟨⟨0, col, r⟩, cellsL_mem' hcl (show (0 : Nat) < 4 by decide) ?_, rfl, ?_⟩
 · show (r : Int) < lineN s 0 col
   have vL : lineN s 0 col = (l.xs.length : Int) - (0 : Nat) := by
     rw [lineN, if_pos ⟨by omega, hcl⟩, List.getD_eq_getElem?_getD, List.getElem?_map, hl]; rfl
   rw [vL]; omega
 · show (⟨s.X.xs.getD col 0, ((s.L.xs.map (·.xs)).getD col []).getD r 0⟩ : V) = v
   rw [getD_of' hcol, getD_of' (show (s.L.xs.map (·.xs))[col]? = some l.xs by rw [List.getElem?_map, hl]; rfl), getD_of' hr, hX]
end Go.Sx
end
section
/- Arguments of the laws: boxes, slices of segments. -/
set_option maxRecDepth 10000
set_option maxHeartbeats 2000000
namespace Go.Sx
open Go Go.Proofs Go.ChangeShapes Go.WideShapes Go.RowKit Go.Deep
section
variable {H : Type} {enc : TypeId × Value → H} {w : World} {base : Nat} {spare : Nat → Bool} {held : Bool} {fuel : Nat} {cs : List Value} {x : DataW H × List MemPlace}
theorem cells_Box : PP.cellsOf t_api_Box = 12 := by kernel_rfl
theorem trod_box (h : DataW.trod enc PP w base spare held fuel t_api_Box cs = some x) : ∃ e : Pt × Pt, cs = sgC e := by
 obtain ⟨xs, n, _, _, hlen, hxl, hf⟩ := DataW.trod_struct (TBgood t_api_Box _ rfl).1.und h
 rw [cells_Box] at hlen
 obtain ⟨y0, h0⟩ := get_some (show 0 < xs.length by rw [hxl]; decide)
 obtain ⟨y1, h1⟩ := get_some (show 1 < xs.length by rw [hxl]; decide)
 have g0 : DataW.trod enc PP w base spare held n t_api_Point ((cs.drop 0).take (PP.cellsOf t_api_Point)) = xs[0]? := hf 0 _ rfl
 have g1 : DataW.trod enc PP w base spare held n t_api_Point ((cs.drop 6).take (PP.cellsOf t_api_Point)) = xs[1]? := hf 1 _ rfl
 rw [h0] at g0; rw [h1] at g1
 rw [cells_Point] at g0 g1
 obtain ⟨p, e0⟩ := trod_pt g0
 obtain ⟨q, e1⟩ := trod_pt g1
 refine ⟨(p, q), ?_⟩
 rw [List.take_of_length_le (by rw [List.length_drop]; omega)] at e1
 rw [List.drop_zero] at e0
 rw [sgC, ← e0, ← e1, List.take_append_drop]
theorem open_box {r : Reach} {b : Nat} {v : Value} {d : DataW H} {ps : List MemPlace} (hv : Value.okWide PP w r b t_api_Box v) (h : DataW.Trod enc PP w base spare held t_api_Box v d ps) : ∃ s : Bx, v = bxV s := by
 obtain ⟨cs, rfl, _⟩ := okWide_struct (TBgood t_api_Box _ rfl).1.und hv
 obtain ⟨fuel, hf⟩ := h
 obtain ⟨e, hr⟩ := trod_box hf
 exact ⟨⟨e.1, e.2⟩, by cases cs; exact congrArg (fun l : List Value => Value.agg ⟨l⟩) hr⟩
theorem open_sgs {r : Reach} {b : Nat} {v : Value} {d : DataW H} {ps : List MemPlace} (hv : Value.okWide PP w r b t_sl_api_Segment v) (h : DataW.Trod enc PP w base spare held t_sl_api_Segment v d ps) :
   ∃ (A : Option Addr) (c : Nat) (l : List (Pt × Pt)), v = .slice A l.length c ∧ l.length ≤ c ∧ SlF A (rowV sgC l) w := by
 obtain ⟨a, len, cap, rfl⟩ := okWide_slice (TBgood t_sl_api_Segment _ rfl).1.und hv
 obtain ⟨fuel, hf⟩ := h
 obtain ⟨A, c, l, e, h1, h2⟩ := open_row sgC sgC_len (by decide) (TBgood t_sl_api_Segment _ rfl).1.und cells_Segment trod_sg hf
 exact ⟨A, c, l, List.head_eq_of_cons_eq e, h1, h2⟩
end
end Go.Sx
end
section
/- The laws of slab. -/
set_option maxRecDepth 10000
set_option maxHeartbeats 2000000
namespace Go.Sx
open Go Go.Proofs
structure Bld (b : Bx) (l : List (Pt × Pt)) (lo hi : V) (E : List (V × V)) : Prop where
 hb : b = ⟨PQ lo, PQ hi⟩
 hl : l = E.map fun e => (PQ e.1, PQ e.2)
 grt : grt16 b l = false
 len : E.length ≤ 8
 x : lo.x < hi.x
 y : lo.y < hi.y
 zlo : SzV K0 lo
 zhi : SzV K0 hi
 E : ∀ e ∈ E, (SzV K0 e.1 ∧ SzV K0 e.2) ∧ e.1 ≠ e.2
theorem PQ_sz {a : V} (h : (PQ a).sm K0) : SzV K0 a := by
 have := h.sz (k := K0) (by decide)
 rwa [PQ_v] at this
theorem Bld.of {b : Bx} {l : List (Pt × Pt)} (h : ¬ (grt16 b l = true ∨ 8 < l.length ∨ bldE b l ≠ 0)) : ∃ lo hi E, Bld b l lo hi E := by
 have h1 : grt16 b l = false := by
   cases hg : grt16 b l with
   | true => exact absurd (.inl hg) h
   | false => rfl
 have h2 : ¬ 8 < l.length := fun k => h (.inr (.inl k))
 have h3 : bldE b l = 0 := Classical.byContradiction fun k => h (.inr (.inr k))
 obtain ⟨lo, hi, E, rfl, hx, hy, rfl, hE, hl⟩ := bldE_zero h3
 obtain ⟨hb, hs, _, _⟩ := grt_sm h1
 refine ⟨lo, hi, E, rfl, rfl, h1, by rw [List.length_map] at h2; omega, hx, hy, PQ_sz hb.1, PQ_sz hb.2, fun e he => ?_⟩
 have := hs (PQ e.1, PQ e.2) (List.mem_map.2 ⟨e, he, rfl⟩)
 exact ⟨⟨PQ_sz this.1, PQ_sz this.2⟩, hE e he⟩
end Go.Sx
end
section
set_option maxRecDepth 10000
set_option maxHeartbeats 2000000
namespace Go.Sx
open Go Go.Proofs
def s0 : Sl := ⟨⟨0, 0⟩, ⟨0, 0⟩, ⟨none, 0, []⟩, ⟨none, 0, []⟩, ⟨none, 0, []⟩, ⟨none, 0, []⟩⟩
end Go.Sx
end
section
/- The law of the partition. -/
set_option maxRecDepth 10000
set_option maxHeartbeats 2000000
namespace Go.Sx
open Go Go.Proofs
theorem crnL_len {s : Sl} {x : Cel} : (crnL s x).length ≤ 4 := by
 obtain ⟨k, c, r⟩ := x
 match k with
 | 0 => exact Nat.le_of_ble_eq_true rfl
 | 1 => exact Nat.le_of_ble_eq_true rfl
 | 2 => exact Nat.le_of_ble_eq_true rfl
 | k + 3 => exact Nat.le_trans (unw_len _) (ddp_len _)
end Go.Sx
end
section
/- The law of one more segment. -/
set_option maxRecDepth 10000
set_option maxHeartbeats 4000000
namespace Go.Sx
open Go Go.Proofs
theorem hgtE_sz' {A B : V} {x : Rat} {k : Nat} (hA : SzV K0 A) (hB : SzV K0 B) (hx : Sz k x) : Sz (k + 1000) (hgtE A B x).1 := by
 have z0 : Sz (k + 1000) (0 : Rat) := (show Sz 1 (0 : Rat) from ⟨by decide, by decide⟩).le (by omega)
 unfold hgtE
 split
 · exact z0
 · split
   · exact (hA.2.add (((hx.sub hA.1).div (hB.sub hA).1).mul (hB.sub hA).2)).le (by simp only [K0]; omega)
   · exact z0
theorem onP_sz' {s : Sl} (hz : s.sz) {l : Ln Nat} {row : Nat} {x : Rat} {k : Nat} (hx : Sz k x) : SzV (k + 1000) (onP s l row x) := by
 refine ⟨hx.le (by omega), ?_⟩
 have z0 : Sz (k + 1000) (0 : Rat) := (show Sz 1 (0 : Rat) from ⟨by decide, by decide⟩).le (by omega)
 have hall : ∀ y ∈ hgtsL s l x, Sz (k + 1000) y := fun y hy => by
   rcases List.mem_cons.1 hy with rfl | hy
   · exact hz.lo.2.le (by simp only [K0]; omega)
   rcases List.mem_append.1 hy with hy | hy
   · obtain ⟨k, _, rfl⟩ := List.mem_map.1 hy
     unfold hgtS
     split
     · rename_i e he; have := hz.sg e (List.mem_of_getElem? he); exact hgtE_sz' this.1.1 this.1.2 hx
     · exact z0
   · rw [List.mem_singleton.1 hy]; exact hz.hi.2.le (by simp only [K0]; omega)
 show Sz (k + 1000) ((hgtsL s l x).getD row 0)
 rw [List.getD_eq_getElem?_getD]
 cases h : (hgtsL s l x)[row]? with
 | none => exact z0
 | some y => exact hall y (List.mem_of_getElem? h)
theorem half_sz {x y : Rat} {k m : Nat} (hx : Sz k x) (hy : Sz m y) : Sz (k + m + 4) ((x + y) / 2) := ((hx.add hy).div (show Sz 2 (2 : Rat) from ⟨by decide, by decide⟩)).le (by omega)
theorem cells_sz {s : Sl} (hz : s.sz) (hzx : s.szX) {x : Cel} (hk : x.k < 4) (hx2 : (x.r : Int) < cntK s x.k x.c) : (∀ v ∈ crnL s x, SzV 200000 v) ∧ SzV 450000 (cenP s x) := by
 obtain ⟨k, c, r⟩ := x
 have hk' : k = 0 ∨ k = 1 ∨ k = 2 ∨ k = 3 := by have : k < 4 := hk; omega
 have sx : ∀ {c X}, s.X.xs[c]? = some X → Sz 100000 X := fun h => hzx.X _ (List.mem_of_getElem? h)
 have sl : ∀ {c r : Nat} {l : Ln Rat} {y : Rat}, s.L.xs[c]? = some l → l.xs[r]? = some y → Sz 200000 y := fun h h' => hzx.L _ (List.mem_of_getElem? h) _ (List.mem_of_getElem? h')
 have so : ∀ {c : Nat} {X : Rat} (t r), s.X.xs[c]? = some X → SzV 200000 (onP s t r X) := fun {c X} t r h => (onP_sz' hz (sx h)).le (by decide)
 rcases hk' with rfl | rfl | rfl | rfl
 · obtain ⟨l, X, h1, h2, h3⟩ := lineN_inv (show (r : Int) < lineN s 0 c from hx2)
   obtain ⟨y, hy'⟩ : ∃ y, l.xs[r]? = some y := ⟨_, List.getElem?_eq_getElem (by omega)⟩
   rw [show crnL s ⟨0, c, r⟩ = [⟨X, y⟩] by simp only [crnL]; rw [getD_of' h2, getD_of' (show (s.L.xs.map (·.xs))[c]? = some l.xs by rw [List.getElem?_map, h1]; rfl), getD_of' hy'],
     show cenP s ⟨0, c, r⟩ = ⟨X, y⟩ by simp only [cenP]; rw [getD_of' h2, getD_of' (show (s.L.xs.map (·.xs))[c]? = some l.xs by rw [List.getElem?_map, h1]; rfl), getD_of' hy']]
   refine ⟨fun v hv => ?_, (sx h2).le (by decide), (sl h1 hy').le (by decide)⟩
   rw [List.mem_singleton.1 hv]; exact ⟨(sx h2).le (by decide), sl h1 hy'⟩
 · obtain ⟨l, X, h1, h2, h3⟩ := lineN_inv (show (r : Int) < lineN s 1 c from hx2)
   obtain ⟨y, hy'⟩ : ∃ y, l.xs[r]? = some y := ⟨_, List.getElem?_eq_getElem (by omega)⟩
   obtain ⟨y', hy''⟩ : ∃ y, l.xs[r + 1]? = some y := ⟨_, List.getElem?_eq_getElem (by omega)⟩
   rw [show crnL s ⟨1, c, r⟩ = [⟨X, y⟩, ⟨X, y'⟩] by simp only [crnL]; rw [getD_of' h2, getD_of' (show (s.L.xs.map (·.xs))[c]? = some l.xs by rw [List.getElem?_map, h1]; rfl), getD_of' hy', getD_of' hy''],
     show cenP s ⟨1, c, r⟩ = midV ⟨X, y⟩ ⟨X, y'⟩ by simp only [cenP]; rw [getD_of' h2, getD_of' (show (s.L.xs.map (·.xs))[c]? = some l.xs by rw [List.getElem?_map, h1]; rfl), getD_of' hy', getD_of' hy'']]
   refine ⟨fun v hv => ?_, (half_sz (sx h2) (sx h2)).le (by decide), (half_sz (sl h1 hy') (sl h1 hy'')).le (by decide)⟩
   simp only [List.mem_cons, List.not_mem_nil, or_false] at hv
   rcases hv with rfl | rfl
   · exact ⟨(sx h2).le (by decide), sl h1 hy'⟩
   · exact ⟨(sx h2).le (by decide), sl h1 hy''⟩
 · obtain ⟨t, X, Y, h1, h2, h3, h4, h5⟩ := stripN_inv (show (r : Int) < stripN s 2 c from hx2)
   rw [show crnL s ⟨2, c, r⟩ = [onP s t r X, onP s t r Y] by simp only [crnL]; rw [getD_of' h2, getD_of' h3, getD_of' h1],
     show cenP s ⟨2, c, r⟩ = onP s t r ((X + Y) / 2) by simp only [cenP]; rw [getD_of' h2, getD_of' h3, getD_of' h1]]
   refine ⟨fun v hv => ?_, (onP_sz' hz (half_sz (sx h2) (sx h3))).le (by decide)⟩
   simp only [List.mem_cons, List.not_mem_nil, or_false] at hv
   rcases hv with rfl | rfl
   · exact so t r h2
   · exact so t r h3
 · obtain ⟨t, X, Y, h1, h2, h3, h4, h5⟩ := stripN_inv (show (r : Int) < stripN s 1 c from hx2)
   rw [show crnL s ⟨3, c, r⟩ = crn3 s t r X Y by simp only [crnL]; rw [getD_of' h2, getD_of' h3, getD_of' h1],
     show cenP s ⟨3, c, r⟩ = midV (onP s t r ((X + Y) / 2)) (onP s t (r + 1) ((X + Y) / 2)) by simp only [cenP]; rw [getD_of' h2, getD_of' h3, getD_of' h1]]
   have zm := half_sz (sx h2) (sx h3)
   have o1 := onP_sz' (row := r) (l := t) hz zm
   have o2 := onP_sz' (row := r + 1) (l := t) hz zm
   refine ⟨fun v hv => ?_, (half_sz o1.1 o2.1).le (by decide), (half_sz o1.2 o2.2).le (by decide)⟩
   have : v ∈ [onP s t r X, onP s t r Y, onP s t (r + 1) Y, onP s t (r + 1) X] := by
     unfold crn3 unw at hv
     refine ddp_mem.1 ?_
     split at hv
     · exact List.mem_of_mem_take hv
     · exact hv
   simp only [List.mem_cons, List.not_mem_nil, or_false] at this
   rcases this with rfl | rfl | rfl | rfl
   · exact so t r h2
   · exact so t r h3
   · exact so t (r + 1) h3
   · exact so t (r + 1) h2
end Go.Sx
end
section
/- The law SlabSegments. -/
set_option maxRecDepth 10000
set_option maxHeartbeats 4000000
namespace Go.Sx
open Go Go.Proofs
theorem clipV_val {lo hi : V} (hx : lo.x ≤ hi.x) (hy : lo.y ≤ hi.y) {e : V × V} (hne : e.1 ≠ e.2) : ClipV ⟨PQ e.1, PQ e.2⟩ ⟨PQ lo, PQ hi⟩ = match clipV ⟨PQ lo, PQ hi⟩ e.1 e.2 with
   | none => noSeg 0
   | some (c, d) => .tuple #[sV ⟨PQ c, PQ d⟩, .bool true, .int .i64 0] := by
 have hd : ¬ degen ⟨PQ e.1, PQ e.2⟩ := fun h => hne (by have := cmpV_zero.1 h; simpa using this)
 rw [ClipV, if_neg hd, if_neg (fun h => h.elim (fun h => absurd hx (Rat.not_le.2 (by rw [← Q_v lo.x, ← Q_v hi.x]; exact h))) (fun h => absurd hy (Rat.not_le.2 (by rw [← Q_v lo.y, ← Q_v hi.y]; exact h)))), show (⟨PQ e.1, PQ e.2⟩ : Sg).A.v = e.1 from PQ_v _, show (⟨PQ e.1, PQ e.2⟩ : Sg).B.v = e.2 from PQ_v _]
 all_goals (cases clipV ⟨PQ lo, PQ hi⟩ e.1 e.2 <;> rfl)
theorem sl_some2 {A : Option Addr} {xs : List Value} {w : World} (h : SlF A xs w) (hx : 0 < xs.length) : ∃ b o, A = some ⟨b, o, none⟩ := by
 rcases h with h | ⟨b, o, e, _⟩
 · rw [h] at hx; cases hx
 · exact ⟨b, o, e⟩
theorem F'_mapS (s : Sl) : ∀ R ∈ s.F', R.mapS := fun R hR => by
 rcases List.mem_append.1 hR with h | h
 · rcases List.mem_append.1 h with h | h
   · obtain ⟨l, _, rfl⟩ := List.mem_map.1 h; exact SlRes.mapS _ _
   · obtain ⟨l, _, rfl⟩ := List.mem_map.1 h; exact SlRes.mapS _ _
 · simp only [List.mem_cons, List.not_mem_nil, or_false] at h
   rcases h with rfl | rfl | rfl <;> exact SlRes.mapS _ _
theorem w_SlabSegments (b : Bx) (A : Option Addr) (c : Nat) (l : List (Pt × Pt)) (hlc : l.length ≤ c) :
   FnM PP f_narrowslaw16_SlabSegments [bxV b, .slice A l.length c] (facts [SlRes A (rowV sgC l)]) (retsV (.bool true)) := by
 refine FnS.of TBgood mixed h_narrowslaw16_SlabSegments rfl rfl (Nat.le_of_ble_eq_true rfl) (by simp [SlRes.ok]) ?_
 intro w hw
 by_cases hno : grt16 b l = true ∨ 8 < l.length ∨ bldE b l ≠ 0
 · have hn := c_lbuildNo b A c l hno
   conv => whnf
   refine cfs hn ?_
   conv => whnf
   refine cf c_awake16 ?_
   conv => whnf
   exact postV_one rfl
 obtain ⟨lo, hi, E, hB⟩ := Bld.of hno
 obtain ⟨rfl, rfl, hg, hlen, hx, hy, hlo, hhi, hE⟩ := hB
 have hb := c_lbuildOk lo hi E A c hg hlen hx hy hE hlo hhi
 rw [List.length_map, show rowV sgC (E.map fun e => (PQ e.1, PQ e.2)) = rowV sgq E from rowV_map ..]
 have hAs : 0 < E.length → ∃ b o, A = some ⟨b, o, none⟩ := fun h => sl_some2 (facts_one hw) (by rw [rowV_length sgC_len, List.length_map]; omega)
 conv => whnf
 refine CallVC.e hb.enters (CallV.facts hb rfl (fun R h => h)) (fun i => F'_ok i) (fun d _ => ?_)
 obtain ⟨d, e1, e2, e3, his, e5⟩ := d
 have e6 : Ln.R sgq d.sg = SlRes A (rowV sgq E) := by rw [e3]; rfl
 obtain ⟨re, hre⟩ : ∃ re, re = d.F' ++ [SlRes A (rowV sgq E)] := ⟨_, rfl⟩
 have hF : ∀ R ∈ d.F, R ∈ re := fun R hR => by
   rw [hre]
   rcases Sl.F_F' hR with h | h
   · exact List.mem_append_left _ h
   · rw [h, e6]; exact List.mem_append_right _ (List.mem_cons_self ..)
 have hEre : SlRes A (rowV sgq E) ∈ re := by rw [hre]; exact List.mem_append_right _ (List.mem_cons_self ..)
 have hmS : ∀ R ∈ re, R.mapS := fun R hR => by
   rw [hre] at hR
   rcases List.mem_append.1 hR with h | h
   · exact F'_mapS d R h
   · rw [List.mem_singleton.1 h]; exact SlRes.mapS _ _
 have hsg : d.sg.xs = E := by rw [e3]
 obtain ⟨hsm, hcl⟩ := Sl.is_small his (by rw [e3]; exact hlen)
 have hdz : d.sz := ⟨fun e he => hE e (by rw [e3] at he; exact he), by rw [e1]; exact hlo, by rw [e2]; exact hhi⟩
 have hdx := Sl.is_szX his hdz
 have hce := c_slCells d hsm hcl
 have hlx : d.lo.x ≤ d.hi.x := by rw [e1, e2]; exact Rat.le_of_lt hx
 have hly : d.lo.y < d.hi.y := by rw [e1, e2]; exact hy
 have hpl : (pcsL d.lo d.hi d.sg.xs).length ≤ 400 := Nat.le_trans pcsL_len (by rw [hsg]; omega)
 have hps : PcsOk (pcsL d.lo d.hi d.sg.xs) := pcsL_ok (by rw [e1]; exact hlo) (by rw [e2]; exact hhi) (fun e he => (hE e (by rw [hsg] at he; exact he)).1)
 obtain ⟨cells, hcells⟩ : ∃ cs, cs = cellsL d := ⟨_, rfl⟩
 rw [← hcells] at hce hcl
 have hzp : ∀ w, (zeroValue t_bool).run PP w = .ok (.bool false) w := fun w => (TBgood t_bool _ rfl).1.run_zero
 conv => whnf
 refine OpVC.make rfl rfl rfl (fun bm hbm => ?_)
 conv => whnf
 refine CallVC.o 38 hce.enters (CallV.facts hce rfl (fun R h => List.mem_cons_of_mem _ (by have := hF R h; rw [hre] at this; exact this))) rfl rfl ?_
 conv => whnf
 obtain ⟨nc, hnc⟩ : ∃ nc, nc = cells.length := ⟨_, rfl⟩
 obtain ⟨n, hn⟩ : ∃ n, n = E.length := ⟨_, rfl⟩
 rw [← hnc] at hcl
 rw [← hn] at hlen hAs ⊢
 refine sexec_loop (ι := Nat × List V) (fun ⟨i, S⟩ => ⟨[(1, .o (.v (.slice A n c))), (2, .o (.p 2 0)), (5, .o (.p 5 0)), (7, .o (.v (.map (some bm)))), (38, .o (.w 38)), (39, .o (.v (.int .i64 nc))), (40, .o (.v (.int .i64 i)))],
     [(2, .box ((boxC ⟨PQ lo, PQ hi⟩).map AV.v) t_api_Box), (5, slM d), (38, .own t_api_Cell 3 nc (rowV Cel.C cells))], MapR bm S :: re⟩)
   (fun ⟨i, S⟩ => i ≤ nc ∧ ∀ x ∈ cells.take i, x.k = 0 → cenP d x ∈ S) (fun ⟨i, S⟩ => nc - i) (0, []) ⟨Nat.zero_le _, fun x h => by cases h⟩
   (SLe.id ⟨rfl, rfl, rfl, rfl, rfl, by rw [hnc]; rfl, rfl, trivial⟩ ⟨⟨_, rfl, .refl _⟩, ⟨_, rfl, .refl _⟩, ⟨_, rfl, by rw [hnc]; exact .refl _⟩, trivial⟩ (fun R hR => by rw [hre] at hR; exact hR)) ?_
 rintro ⟨i, S⟩ ⟨hi0, hS⟩
 conv => whnf
 by_cases hin : i < nc
 rotate_left
 · refine br_false (decide_eq_false (show ¬ (i : Int) < (nc : Int) by omega)) ?_
   have hS' : ∀ x ∈ cellsL d, x.k = 0 → cenP d x ∈ S := fun x hx => hS x (by rw [List.take_of_length_le (by omega), hcells]; exact hx)
   conv => whnf
   refine sexec_loop (ι := Nat) (fun j => ⟨[(2, .o (.p 2 0)), (7, .o (.v (.map (some bm)))), (126, .o (.v (.slice A n c))), (127, .o (.v (.int .i64 n))), (128, .o (.v (.int .i64 j)))], [(2, .box ((boxC ⟨PQ lo, PQ hi⟩).map AV.v) t_api_Box)], MapR bm S :: re⟩)
     (fun j => j ≤ n) (fun j => n - j) 0 (Nat.zero_le _) (SLe.id ⟨rfl, rfl, rfl, rfl, rfl, trivial⟩ ⟨⟨_, rfl, .refl _⟩, trivial⟩ (fun R hR => hR)) ?_
   intro j hj0
   have hj0 : j ≤ n := hj0
   conv => whnf
   by_cases hjn : j < n
   rotate_left
   · refine br_false (decide_eq_false (show ¬ (j : Int) < (n : Int) by omega)) ?_
     conv => whnf
     refine cf c_awake16 ?_
     conv => whnf
     exact postV_one rfl
   refine br_true (decide_eq_true (show (j : Int) < (n : Int) by omega)) ?_
   obtain ⟨e, he⟩ : ∃ e, E[j]? = some e := ⟨_, List.getElem?_eq_getElem (by omega)⟩
   obtain ⟨heo, hne⟩ := hE e (List.mem_of_getElem? he)
   obtain ⟨ba, oa, hAe⟩ := hAs (by omega)
   conv => whnf
   refine ⟨⟨by omega, by omega, by rw [hAe]; rfl⟩, ?_⟩
   conv => whnf
   refine LoadVC.elem (A := A) (xs := E) (j := (j : Int)) sgq sgq_len (List.mem_cons_of_mem _ hEre) rfl (by rw [Int.toNat_natCast]; omega) (by decide) (fun h => by cases h) ?_
   intro e' he'
   obtain rfl := elem_eq he' he
   conv => whnf
   refine cf (c_Clip ⟨PQ e'.1, PQ e'.2⟩ ⟨PQ lo, PQ hi⟩ ⟨heo.1.q, heo.2.q⟩ (Bx.szs hlo hhi)) ?_
   rw [clipV_val (Rat.le_of_lt hx) (Rat.le_of_lt hy) hne]
   cases hcp : clipV ⟨PQ lo, PQ hi⟩ e'.1 e'.2 with
   | none =>
     conv => whnf
     exact ⟨j + 1, by show j + 1 ≤ n; omega, by show n - (j + 1) < n - j; omega, SLe.id ⟨rfl, rfl, rfl, rfl, some_wrap hjn (by omega), trivial⟩ ⟨⟨_, rfl, .refl _⟩, trivial⟩ (fun R hR => hR)⟩
   | some cd =>
     obtain ⟨c1, d1⟩ := cd
     conv => whnf
     by_cases hcd : c1 = d1
     · refine br_false (congrArg (!·) ((eqPV c1 d1).trans (decide_eq_true hcd))) ?_
       conv => whnf
       exact ⟨j + 1, by show j + 1 ≤ n; omega, by show n - (j + 1) < n - j; omega, SLe.id ⟨rfl, rfl, rfl, rfl, some_wrap hjn (by omega), trivial⟩ ⟨⟨_, rfl, .refl _⟩, trivial⟩ (fun R hR => hR)⟩
     refine br_true (congrArg (!·) ((eqPV c1 d1).trans (decide_eq_false hcd))) ?_
     have hcp' : clipV ⟨PQ d.lo, PQ d.hi⟩ e'.1 e'.2 = some (c1, d1) := by rw [e1, e2]; exact hcp
     have he2 : d.sg.xs[j]? = some e' := by rw [hsg]; exact he
     have v1 : c1 ∈ S := by
       obtain ⟨x, hx1, hx2, hx3⟩ := end_vertex his he2 hcp' hcd (.inl rfl)
       rw [← hx3]; exact hS' x hx1 hx2
     have v2 : d1 ∈ S := by
       obtain ⟨x, hx1, hx2, hx3⟩ := end_vertex his he2 hcp' hcd (.inr rfl)
       rw [← hx3]; exact hS' x hx1 hx2
     conv => whnf
     refine OpVC.look (v := c1) (S := S) (r := true) ptKey (et := t_bool) (by kernel_rfl) hzp rfl rfl rfl ((clipV_sz hlo hhi heo.1 heo.2 hcp).1.le (by decide)) rfl rfl rfl (List.mem_cons_self ..) (decide_eq_true v1) ?_
     conv => whnf
     refine OpVC.look (v := d1) (S := S) (r := true) ptKey (et := t_bool) (by kernel_rfl) hzp rfl rfl rfl ((clipV_sz hlo hhi heo.1 heo.2 hcp).2.le (by decide)) rfl rfl rfl (List.mem_cons_self ..) (decide_eq_true v2) ?_
     conv => whnf
     exact ⟨j + 1, by show j + 1 ≤ n; omega, by show n - (j + 1) < n - j; omega, SLe.id ⟨rfl, rfl, rfl, rfl, some_wrap hjn (by omega), trivial⟩ ⟨⟨_, rfl, .refl _⟩, trivial⟩ (fun R hR => hR)⟩
 refine br_true (decide_eq_true (show (i : Int) < (nc : Int) by omega)) ?_
 obtain ⟨x, hx'⟩ : ∃ x, cells[i]? = some x := ⟨_, List.getElem?_eq_getElem (by omega)⟩
 have hxm : x ∈ cellsL d := by rw [← hcells]; exact List.mem_of_getElem? hx'
 obtain ⟨x1, x2, x3⟩ := cellsL_mem hxm
 obtain ⟨zcr, zcn⟩ := cells_sz hdz hdx x2 x3
 have hcr := c_slCorners d x hsm hdz hdx x2 x3
 have hcn := c_slCenter d x hsm hdz hdx x2 x3
 have hcv := c_slCover d x hsm hdz hdx x2 x3 hlx (Rat.le_of_lt hly) (by rw [hsg]; omega) hpl hps (fun v hv => (zcr v hv).le (by decide)) crnL_len
 have hLl : (crnL d x).length ≤ 4 := crnL_len
 have hcov := fun j e he hne => cover_on (i := j) (e := e) his hlx hly x2 x3 he hne
 have hoc := fun j e he hne h => on_corners (i := j) (e := e) his hlx hly x2 x3 he hne h
 have hVl : (coverL d x).length ≤ 1000000000 := by
   unfold coverL
   split
   · simp
   · rw [List.length_map]; exact Nat.le_trans (List.length_filter_le ..) (by omega)
 obtain ⟨L, hL⟩ : ∃ L, L = crnL d x := ⟨_, rfl⟩
 obtain ⟨W, hW⟩ : ∃ W, W = coverL d x := ⟨_, rfl⟩
 obtain ⟨p, hp⟩ : ∃ p, p = cenP d x := ⟨_, rfl⟩
 rw [← hL] at hcr hLl hoc zcr
 rw [← hW] at hcv hcov hVl
 rw [← hp] at hcn hcov hoc zcn
 conv => whnf
 refine ⟨by show (0 : Int) ≤ (i : Int) ∧ (i : Int) < nc; omega, ?_⟩
 conv => whnf
 refine RowVC.elem Cel.C Cel.C_len (k := i) (by show (i : Int).toNat * 3 = i * 3; rw [Int.toNat_natCast]) (by omega) (by decide) (fun h => by cases h) ?_
 intro x' hx2
 obtain rfl : x' = x := by rw [hx'] at hx2; exact (Option.some.inj hx2).symm
 conv => whnf
 refine CallVC.tz hcr.enters (CallV.facts hcr rfl (fun R h => List.mem_cons_of_mem _ (hF R h))) (fun AL cL hcL => ?_)
 conv => whnf
 refine cfs hcn ?_ rfl (fun R h => List.mem_cons_of_mem _ (List.mem_cons_of_mem _ (hF R h)))
 conv => whnf
 refine CallVC.tz hcv.enters (CallV.facts hcv rfl (fun R h => List.mem_cons_of_mem _ (List.mem_cons_of_mem _ (hF R h)))) (fun AW cW hcW => ?_)
 conv => whnf
 by_cases hk0 : x'.k = 0
 all_goals first
   | (refine br_true (show ((x'.k : Int) == 0) = true by rw [hk0]; rfl) ?_
      conv => whnf
      refine OpVC.upd (v := p) (S := S) (re' := SlRes AW (rowV intC W) :: SlRes AL (rowV ptQ L) :: MapR bm (p :: S) :: re) ptKey (et := t_bool) (by kernel_rfl) rfl rfl (zcn.le (by decide)) rfl rfl rfl rfl hbm (List.mem_cons_of_mem _ (List.mem_cons_of_mem _ (List.mem_cons_self ..))) (fun R hR => ?_) ?_
      · rcases List.mem_cons.1 hR with rfl | hR
        · exact .inr ⟨List.mem_cons_self .., SlRes.mapS _ _⟩
        · rcases List.mem_cons.1 hR with rfl | hR
          · exact .inr ⟨List.mem_cons_of_mem _ (List.mem_cons_self ..), SlRes.mapS _ _⟩
          · rcases List.mem_cons.1 hR with rfl | hR
            · exact .inl rfl
            · exact .inr ⟨List.mem_cons_of_mem _ (List.mem_cons_of_mem _ (List.mem_cons_of_mem _ hR)), hmS R hR⟩
      conv => whnf
      obtain ⟨S', hS', hS2⟩ : ∃ S', S' = p :: S ∧ ∀ y ∈ cells.take (i + 1), y.k = 0 → cenP d y ∈ S' := ⟨_, rfl, fun y hy hyk => by
        rw [take_snoc' hx'] at hy
        rcases List.mem_append.1 hy with hy | hy
        · exact List.mem_cons_of_mem _ (hS y hy hyk)
        · rw [List.mem_singleton.1 hy, hp]; exact List.mem_cons_self ..⟩
      rw [← hS'])
   | (refine br_false (show ((x'.k : Int) == 0) = false by rw [beq_eq_false_iff_ne]; omega) ?_
      conv => whnf
      obtain ⟨S', hS', hS2⟩ : ∃ S', S' = S ∧ ∀ y ∈ cells.take (i + 1), y.k = 0 → cenP d y ∈ S' := ⟨_, rfl, fun y hy hyk => by
        rw [take_snoc' hx'] at hy
        rcases List.mem_append.1 hy with hy | hy
        · exact hS y hy hyk
        · rw [List.mem_singleton.1 hy] at hyk; exact absurd hyk hk0⟩
      rw [← hS'])
 all_goals
   refine sexec_loop (ι := Nat) (fun j => ⟨[(1, .o (.v (.slice A n c))), (2, .o (.p 2 0)), (5, .o (.p 5 0)), (7, .o (.v (.map (some bm)))), (9, .o (.p 9 0)), (10, .o (.v (.slice AL L.length cL))), (12, .o (.p 12 0)), (14, .o (.v (.slice AW W.length cW))), (38, .o (.w 38)), (39, .o (.v (.int .i64 nc))), (40, .o (.v (.int .i64 i))), (77, .o (.v (.slice A n c))), (78, .o (.v (.int .i64 n))), (79, .o (.v (.int .i64 j)))],
       [(2, .box ((boxC ⟨PQ lo, PQ hi⟩).map AV.v) t_api_Box), (5, slM d), (9, .box (x'.C.map AV.v) t_api_Cell), (12, .box ((ptC (PQ p)).map AV.v) t_api_Point), (38, .own t_api_Cell 3 nc (rowV Cel.C cells))], SlRes AW (rowV intC W) :: SlRes AL (rowV ptQ L) :: MapR bm S' :: re⟩)
     (fun j => j ≤ n) (fun j => n - j) 0 (Nat.zero_le _)
     (SLe.id ⟨rfl, rfl, rfl, rfl, rfl, rfl, rfl, rfl, rfl, rfl, rfl, rfl, rfl, rfl, trivial⟩ ⟨⟨_, rfl, .refl _⟩, ⟨_, rfl, .refl _⟩, ⟨_, rfl, .refl _⟩, ⟨_, rfl, .refl _⟩, ⟨_, rfl, .refl _⟩, trivial⟩ (fun R hR => hR)) ?_
   intro j hj0
   have hj0 : j ≤ n := hj0
   conv => whnf
   by_cases hjn : j < n
   rotate_left
   · refine br_false (decide_eq_false (show ¬ (j : Int) < (n : Int) by omega)) ?_
     conv => whnf
     exact ⟨(i + 1, S'), ⟨by omega, hS2⟩, by show nc - (i + 1) < nc - i; omega, SLe.id ⟨rfl, rfl, rfl, rfl, rfl, rfl, some_wrap hin (by omega), trivial⟩ ⟨⟨_, rfl, .refl _⟩, ⟨_, rfl, .refl _⟩, ⟨_, rfl, .refl _⟩, trivial⟩ (fun R hR => List.mem_cons_of_mem _ (List.mem_cons_of_mem _ hR))⟩
   refine br_true (decide_eq_true (show (j : Int) < (n : Int) by omega)) ?_
   obtain ⟨e, he⟩ : ∃ e, E[j]? = some e := ⟨_, List.getElem?_eq_getElem (by omega)⟩
   obtain ⟨heo, hne⟩ := hE e (List.mem_of_getElem? he)
   obtain ⟨ba, oa, hAe⟩ := hAs (by omega)
   have he2 : d.sg.xs[j]? = some e := by rw [hsg]; exact he
   have hct := c_ContainsInt AW cW W j hVl
   have hcj := hcov j e he2 hne
   have hocj := hoc j e he2 hne
   have hWj : decide (j ∈ W) = onE d.lo d.hi e p := by
     refine Bool.eq_iff_iff.2 ?_
     rw [decide_eq_true_eq]; exact hcj
   rw [hWj] at hct
   have hfin : j + 1 ≤ n := by omega
   have hmu : n - (j + 1) < n - j := by omega
   have wj : some (SV.o (.v (.int .i64 (IntKind.i64.wrap ((j : Int) + 1))))) = some (SV.o (.v (.int .i64 ((j + 1 : Nat) : Int)))) := some_wrap hjn (by omega)
   conv => whnf
   refine ⟨⟨by omega, by omega, by rw [hAe]; rfl⟩, ?_⟩
   conv => whnf
   refine LoadVC.elem (A := A) (xs := E) (j := (j : Int)) sgq sgq_len (List.mem_cons_of_mem _ (List.mem_cons_of_mem _ (List.mem_cons_of_mem _ hEre))) rfl (by rw [Int.toNat_natCast]; omega) (by decide) (fun h => by cases h) ?_
   intro e' he'
   obtain rfl := elem_eq he' he
   conv => whnf
   refine cf (c_Clip ⟨PQ e'.1, PQ e'.2⟩ ⟨PQ lo, PQ hi⟩ ⟨heo.1.q, heo.2.q⟩ (Bx.szs hlo hhi)) ?_
   rw [clipV_val (Rat.le_of_lt hx) (Rat.le_of_lt hy) hne]
   have hcl2 : clipV ⟨PQ d.lo, PQ d.hi⟩ e'.1 e'.2 = clipV ⟨PQ lo, PQ hi⟩ e'.1 e'.2 := by rw [e1, e2]
   cases hcp : clipV ⟨PQ lo, PQ hi⟩ e'.1 e'.2 with
   | none =>
     rw [show onE d.lo d.hi e' p = false by unfold onE; rw [hcl2, hcp]] at hct
     conv => whnf
     refine cfs hct ?_ rfl (fun R hR => by rw [List.mem_singleton.1 hR]; exact List.mem_cons_self ..)
     conv => whnf
     exact ⟨j + 1, hfin, hmu, SLe.id ⟨rfl, rfl, rfl, rfl, rfl, rfl, rfl, rfl, rfl, rfl, rfl, rfl, rfl, wj, trivial⟩ ⟨⟨_, rfl, .refl _⟩, ⟨_, rfl, .refl _⟩, ⟨_, rfl, .refl _⟩, ⟨_, rfl, .refl _⟩, ⟨_, rfl, .refl _⟩, trivial⟩ (fun R hR => hR)⟩
   | some cd =>
     obtain ⟨c1, d1⟩ := cd
     conv => whnf
     by_cases hcd : c1 = d1
     · rw [show onE d.lo d.hi e' p = false by unfold onE; rw [hcl2, hcp]; show (!decide (c1 = d1) && _) = false; rw [decide_eq_true hcd]; rfl] at hct
       refine br_false (congrArg (!·) ((eqPV c1 d1).trans (decide_eq_true hcd))) ?_
       conv => whnf
       refine cfs hct ?_ rfl (fun R hR => by rw [List.mem_singleton.1 hR]; exact List.mem_cons_self ..)
       conv => whnf
       exact ⟨j + 1, hfin, hmu, SLe.id ⟨rfl, rfl, rfl, rfl, rfl, rfl, rfl, rfl, rfl, rfl, rfl, rfl, rfl, wj, trivial⟩ ⟨⟨_, rfl, .refl _⟩, ⟨_, rfl, .refl _⟩, ⟨_, rfl, .refl _⟩, ⟨_, rfl, .refl _⟩, ⟨_, rfl, .refl _⟩, trivial⟩ (fun R hR => hR)⟩
     have hoE : onE d.lo d.hi e' p = betwB e'.1 e'.2 p := by unfold onE; rw [hcl2, hcp]; show (!decide (c1 = d1) && _) = _; rw [decide_eq_false hcd]; rfl
     rw [hoE] at hct hocj
     refine br_true (congrArg (!·) ((eqPV c1 d1).trans (decide_eq_false hcd))) ?_
     have hon := c_On ⟨PQ e'.1, PQ e'.2⟩ (PQ p) ⟨heo.1.q.le (by decide), heo.2.q.le (by decide)⟩ (zcn.q.le (by decide))
     rw [PQ_v, PQ_v, PQ_v] at hon
     conv => whnf
     refine cf hon ?_
     cases hbw : betwB e'.1 e'.2 p with
     | false =>
       rw [hbw] at hct
       conv => whnf
       refine cfs hct ?_ rfl (fun R hR => by rw [List.mem_singleton.1 hR]; exact List.mem_cons_self ..)
       conv => whnf
       exact ⟨j + 1, hfin, hmu, SLe.id ⟨rfl, rfl, rfl, rfl, rfl, rfl, rfl, rfl, rfl, rfl, rfl, rfl, rfl, wj, trivial⟩ ⟨⟨_, rfl, .refl _⟩, ⟨_, rfl, .refl _⟩, ⟨_, rfl, .refl _⟩, ⟨_, rfl, .refl _⟩, ⟨_, rfl, .refl _⟩, trivial⟩ (fun R hR => hR)⟩
     | true =>
       rw [hbw] at hct
       obtain ⟨hk3, hall⟩ := hocj hbw
       have hany : (L.any fun q => !betwB e'.1 e'.2 q) = false := by
         rw [List.any_eq_false]
         intro q hq
         rw [hall q hq]; decide
       have hcall : ∀ a, FnM PP f_slices_ContainsFunc_sl_api_Point_api_Point [.slice AL L.length cL, cloV f_narrowslaw16_SlabSegments_1 [ptrV a]] (facts (SlRes (some a) (sgq e') :: [SlRes AL (rowV ptQ L)])) (retsV (.bool false)) := fun a => by
         have h := c_ContainsFuncQ AL cL (L.map PQ) f_narrowslaw16_SlabSegments_1 [ptrV a] (fun q => !betwB e'.1 e'.2 q.v) [SlRes (some a) (sgq e')] (by rw [List.length_map]; omega) (by simp [SlRes.ok]) (fun q hq => by
           obtain ⟨v, hv, rfl⟩ := List.mem_map.1 hq
           have := c_SlabSegments1 a e' v heo ((zcr v hv).le (by decide))
           rw [PQ_v]; exact this)
         rw [List.length_map, rowV_map, List.any_map] at h
         have e : (L.any ((fun q : Pt => !betwB e'.1 e'.2 q.v) ∘ PQ)) = false := by
           rw [← hany]; congr 1; funext q; simp
         rw [e] at h
         exact ⟨h.enters, fun w hw => h.calls w (fun R hR => hw R (by simp only [List.mem_cons, List.not_mem_nil, or_false] at hR ⊢; exact hR.symm))⟩
       conv => whnf
       refine cfs hct ?_ rfl (fun R hR => by rw [List.mem_singleton.1 hR]; exact List.mem_cons_self ..)
       conv => whnf
       refine br_false (show ((x'.k : Int) == 3) = false by rw [beq_eq_false_iff_ne]; omega) ?_
       conv => whnf
       refine CallVC.v (hcall ⟨0, 0, none⟩).enters (CallV.c1 (k := 17) (fun z => [.slice AL L.length cL, z]) rfl (List.mem_cons_of_mem _ (List.mem_cons_self ..)) (fun _ => rfl) (fun w hw R hR => hw R (by rw [List.mem_singleton.1 hR]; exact List.mem_cons_of_mem _ (List.mem_cons_self ..))) hcall) ?_
       conv => whnf
       exact ⟨j + 1, hfin, hmu, SLe.id ⟨rfl, rfl, rfl, rfl, rfl, rfl, rfl, rfl, rfl, rfl, rfl, rfl, rfl, wj, trivial⟩ ⟨⟨_, rfl, .refl _⟩, ⟨_, rfl, .refl _⟩, ⟨_, rfl, .refl _⟩, ⟨_, rfl, .refl _⟩, ⟨_, rfl, .refl _⟩, trivial⟩ (fun R hR => hR)⟩
end Go.Sx
end
