/- The law DistanceSymmetric of the program answers true for every input, and its arguments read as before. No conditions. -/
import Derived.Test.YtlnandkcoliejaaGreatM5
import Derived.ProofKit
import Derived.OpenShut
import Derived.Carry
import Derived.ChangeArms
import Derived.Deep.Slices
import Derived.Test.YtlnandkcoliejaaGreatRows
import Derived.WalkKit
import Derived.ShutString
import Derived.ChangeOld
import Derived.Below
import Derived.Handed
set_option linter.unusedVariables false
set_option linter.unusedSimpArgs false
section
set_option maxRecDepth 10000
set_option maxHeartbeats 2000000
set_option linter.unusedSimpArgs false
set_option linter.unusedVariables false
set_option pp.deepTerms false
set_option pp.deepTerms.threshold 6
namespace Go.Sx
open Go Go.Proofs
theorem meet_sz {k : Nat} {a b c d : V} (ha : SzV k a) (hb : SzV k b) (hc : SzV k c) (hd : SzV k d) {x : V × V} (h : meetV a b c d = some x) : SzV (19 * k + 13) x.1 ∧ SzV (19 * k + 13) x.2 := by
  unfold meetV at h
  split at h
  · split at h
    · cases h
    · cases h
      have := (ha.at hb (((hc.sub ha).cross (hd.sub hc)).div ((hb.sub ha).cross (hd.sub hc)))).le (show _ ≤ 19 * k + 13 by omega)
      exact ⟨this, this⟩
  · split at h
    · cases h
    · split at h
      · cases h
      · cases h
        exact ⟨(gt_sz (ord_sz ha hb).1 (ord_sz hc hd).1).le (by omega), (lt_sz (ord_sz ha hb).2 (ord_sz hc hd).2).le (by omega)⟩
def beforeB (a b : Pt × Pt) : Bool := if cmpQ (a.1.v.dist a.2.v) (b.1.v.dist b.2.v) ≠ 0 then decide (cmpQ (a.1.v.dist a.2.v) (b.1.v.dist b.2.v) < 0) else if cmpV a.1.v b.1.v ≠ 0 then decide (cmpV a.1.v b.1.v < 0) else decide (cmpV a.2.v b.2.v < 0)
abbrev KN : Nat := 200000
theorem c_before (a b : Pt × Pt) (ha : a.1.sm KN ∧ a.2.sm KN) (hb : b.1.sm KN ∧ b.2.sm KN) : Fn PP f_distance_before [lkV a, lkV b] (.bool (beforeB a b)) := by
  have za := (ha.1.sz (by decide)).dist (ha.2.sz (by decide))
  have zb := (hb.1.sz (by decide)).dist (hb.2.sz (by decide))
  refine Fn.of TBgood mixed h_distance_before rfl rfl (Nat.le_of_ble_eq_true rfl) ?_
  intro w
  conv => whnf
  refine DrawVC.quiet (by kernel_rfl) ?_
  conv => whnf
  refine CallVCd.fn (c_vDistance a.1 a.2 (ha.1.le (by decide)) (ha.2.le (by decide))) rfl ?_
  conv => whnf
  refine CallVCd.fn (c_vDistance b.1 b.2 (hb.1.le (by decide)) (hb.2.le (by decide))) rfl ?_
  conv => whnf
  refine CallVCd.fn (c_rCompare (Q (a.1.v.dist a.2.v)) (Q (b.1.v.dist b.2.v)) (za.q.le (by decide)) (zb.q.le (by decide))) rfl ?_
  rw [Q_v, Q_v]
  unfold beforeB
  generalize cmpQ (a.1.v.dist a.2.v) (b.1.v.dist b.2.v) = c1
  conv => whnf
  refine br_split ?_ ?_
  · intro hc
    rw [if_pos (by intro h0; rw [h0] at hc; exact absurd hc (by decide))]
    conv => whnf
    exact postV_one rfl
  · intro hc
    have hc0 : c1 = 0 := by simpa using hc
    rw [if_neg (not_not_intro hc0)]
    conv => whnf
    refine CallVC.fn (c_vCompare a.1 b.1 (ha.1.le (by decide)) (hb.1.le (by decide))) rfl ?_
    generalize cmpV a.1.v b.1.v = c2
    conv => whnf
    refine br_split ?_ ?_
    · intro hc
      rw [if_pos (by intro h0; rw [h0] at hc; exact absurd hc (by decide))]
      conv => whnf
      exact postV_one rfl
    · intro hc
      have hc0 : c2 = 0 := by simpa using hc
      rw [if_neg (not_not_intro hc0)]
      conv => whnf
      refine CallVC.fn (c_vCompare a.2 b.2 (ha.2.le (by decide)) (hb.2.le (by decide))) rfl ?_
      conv => whnf
      exact postV_one rfl
/-! ### the distance of polygons -/
def stepC (b : Option Pt) (c : Pt) : Option Pt := match b with
  | none => some c
  | some x => if cmpV c.v x.v < 0 then some c else some x
def stepL (b : Option (Pt × Pt)) (l : Pt × Pt) : Option (Pt × Pt) := match b with
  | none => some l
  | some x => if beforeB l x = true then some l else some x
def P00 : Pt × Pt := (P0, P0)
def polysD (p q : PL) : Rat × (Pt × Pt) × Int := if chkP p ≠ 0 then (0, P00, 1) else if chkP q ≠ 0 then (0, P00, 1) else match (commonL p q).foldl stepC none with
  | some c => (0, (c, c), 0)
  | none => (((((linksL p q).foldl stepL none).getD P00).1.v.dist (((linksL p q).foldl stepL none).getD P00).2.v), ((linksL p q).foldl stepL none).getD P00, 0)
theorem fold_take {α β : Type} {f : β → α → β} {b : β} {l : List α} {i : Nat} {x : α} (h : l[i]? = some x) : (l.take (i + 1)).foldl f b = f ((l.take i).foldl f b) x := by rw [take_snoc' h, List.foldl_append]; rfl
theorem stepC_mem {p : Pt → Prop} : ∀ (l : List Pt) (b : Option Pt), (∀ x, b = some x → p x) → (∀ x ∈ l, p x) → ∀ x, l.foldl stepC b = some x → p x
  | [], b, hb, _, x, h => hb x h
  | c :: l, b, hb, hl, x, h => stepC_mem l (stepC b c) (fun y hy => by
    unfold stepC at hy
    split at hy
    · cases hy; exact hl _ (List.mem_cons_self ..)
    · split at hy
      · cases hy; exact hl _ (List.mem_cons_self ..)
      · cases hy; exact hb _ rfl) (fun y hy => hl y (List.mem_cons_of_mem _ hy)) x h
theorem stepL_mem {p : Pt × Pt → Prop} : ∀ (l : List (Pt × Pt)) (b : Option (Pt × Pt)), (∀ x, b = some x → p x) → (∀ x ∈ l, p x) → ∀ x, l.foldl stepL b = some x → p x
  | [], b, hb, _, x, h => hb x h
  | c :: l, b, hb, hl, x, h => stepL_mem l (stepL b c) (fun y hy => by
    unfold stepL at hy
    split at hy
    · cases hy; exact hl _ (List.mem_cons_self ..)
    · split at hy
      · cases hy; exact hl _ (List.mem_cons_self ..)
      · cases hy; exact hb _ rfl) (fun y hy => hl y (List.mem_cons_of_mem _ hy)) x h
theorem meetQ_sm {e e' : Pt × Pt} (h1 : e.1.sm KS ∧ e.2.sm KS) (h2 : e'.1.sm KS ∧ e'.2.sm KS) {x : Pt} (h : meetQ e e' = some x) : x.sm KN := by
  unfold meetQ at h
  split at h
  · cases h
  · obtain ⟨y, hy, rfl⟩ := Option.map_eq_some_iff.1 h
    exact ((meet_sz (h1.1.sz (k := KS) (by decide)) (h1.2.sz (by decide)) (h2.1.sz (by decide)) (h2.2.sz (by decide)) hy).1.q).le (by decide)
theorem commonL_sm {p q : Ply} (hp : p.wf) (hq : q.wf) : ∀ x ∈ commonL p.P q.P, x.sm KN := fun x hx => by
  rcases List.mem_append.1 hx with hx | hx
  · exact (cornersP_sm hp x ((List.mem_filter.1 hx).1)).le (by decide)
  rcases List.mem_append.1 hx with hx | hx
  · exact (cornersP_sm hq x ((List.mem_filter.1 hx).1)).le (by decide)
  obtain ⟨e, he, hx⟩ := List.mem_flatMap.1 hx
  obtain ⟨e', he', hx⟩ := List.mem_filterMap.1 hx
  exact meetQ_sm (edgesP_sm hp he) (edgesP_sm hq he') hx
theorem nearQ_sm {e : Pt × Pt} (h1 : e.1.sm KS ∧ e.2.sm KS) {c : Pt} (hc : c.sm KS) : (nearQ e c).sm KN := ((near_sz (h1.1.sz (by decide)) (h1.2.sz (by decide)) (hc.sz (by decide))).q).le (by decide)
theorem linksL_sm {p q : Ply} (hp : p.wf) (hq : q.wf) : ∀ x ∈ linksL p.P q.P, x.1.sm KN ∧ x.2.sm KN := fun x hx => by
  rcases List.mem_append.1 hx with hx | hx
  · obtain ⟨c, hc, hx⟩ := List.mem_flatMap.1 hx
    obtain ⟨e, he, rfl⟩ := List.mem_map.1 hx
    have := cornersP_sm hp c hc
    exact ⟨this.le (by decide), nearQ_sm (edgesP_sm hq he) this⟩
  · obtain ⟨c, hc, hx⟩ := List.mem_flatMap.1 hx
    obtain ⟨e, he, rfl⟩ := List.mem_map.1 hx
    have := cornersP_sm hq c hc
    exact ⟨nearQ_sm (edgesP_sm hp he) this, this.le (by decide)⟩
abbrev plM (p : Ply) : ME := .box [.v p.o.V, .v p.HV] t_api_Polygon
abbrev sgM2 (e : Pt × Pt) : ME := .box (sgM e) t_api_Segment
abbrev bM (b : Bool) : ME := .box [.v (.bool b)] t_bool
def cc (b : Option Pt) : Pt × Pt := match b with
  | none => P00
  | some c => (c, c)
theorem xs_get {α : Type} {l : List α} {f : α → List Value} {i : Nat} (h : i < (l.map f).length) : ∃ x, l[i]? = some x ∧ (l.map f).getD i [] = f x := by
  rw [List.length_map] at h
  exact ⟨l[i], List.getElem?_eq_getElem h, getD_of (by rw [List.getElem?_map, List.getElem?_eq_getElem h]; rfl)⟩
abbrev pdV (x : Rat × (Pt × Pt) × Int) : Value := .tuple #[qV x.1, lkV x.2.1, .int .i64 x.2.2]
theorem rawV00 : lkV P00 = .agg ⟨[.bool false, .string ⟨#[]⟩, .string ⟨#[]⟩, .bool false, .string ⟨#[]⟩, .string ⟨#[]⟩, .bool false, .string ⟨#[]⟩, .string ⟨#[]⟩, .bool false, .string ⟨#[]⟩, .string ⟨#[]⟩]⟩ := rfl
theorem c_Polygons (p q : Ply) (hp : p.wf) (hq : q.wf) : FnM PP f_distance_Polygons [p.V, q.V] (facts (p.F ++ q.F)) (retsV (pdV (polysD p.P q.P))) := by
  refine FnM.ofS TBgood mixed h_distance_Polygons rfl rfl (Nat.le_of_ble_eq_true rfl) (fun R hR => (List.mem_append.1 hR).elim (Ply.F_ok R) (Ply.F_ok R)) (fun w l st E w' hp hm => postV_ok hp hm) ?_
  intro w hw
  refine WPS.peel TBgood mixed ?_
  conv => whnf
  refine WPS.seq ?_
  refine WPS.of TBgood mixed ?_
  conv => whnf
  refine CallVC.v (c_polyCheck p hp).enters (CallV.facts (c_polyCheck p hp) rfl (fun R hR => List.mem_append_left _ hR)) ?_
  unfold polysD
  generalize hk : chkP p.P = k
  conv => whnf
  refine br_split ?_ ?_
  · intro hb
    have h1 : k ≠ 0 := by intro h0; rw [h0] at hb; exact absurd hb (by decide)
    rw [if_pos h1]
    conv => whnf
    refine postV_three ?_
    rw [pdV, qV, rawV0]; rfl
  intro hb
  have h1 : k = 0 := by simpa using hb
  rw [if_neg (not_not_intro h1)]
  have hp0 := hk.trans h1
  conv => whnf
  refine CallVC.v (c_polyCheck q hq).enters (CallV.facts (c_polyCheck q hq) rfl (fun R hR => List.mem_append_right _ hR)) ?_
  generalize hk2 : chkP q.P = k2
  conv => whnf
  refine br_split ?_ ?_
  · intro hb
    have h1 : k2 ≠ 0 := by intro h0; rw [h0] at hb; exact absurd hb (by decide)
    rw [if_pos h1]
    conv => whnf
    refine postV_three ?_
    rw [pdV, qV, rawV0]; rfl
  intro hb
  have h2 : k2 = 0 := by simpa using hb
  rw [if_neg (not_not_intro h2)]
  have hq0 := hk2.trans h2
  conv => whnf
  refine WPS.peel TBgood mixed ?_
  conv => whnf
  refine WPS.peel TBgood mixed ?_
  conv => whnf
  refine WPS.seq ?_
  refine WPS.seq ?_
  refine WPS.of TBgood mixed ?_
  conv => whnf
  refine CallVC.f2 (c_common p q).enters (CallV.facts (c_common p q) rfl (by simp)) (fun a1 a2 => ?_)
  conv => whnf
  refine WPS.block ?_
  obtain ⟨L, hL⟩ : ∃ L, L = commonL p.P q.P := ⟨_, rfl⟩
  have hLs : ∀ x ∈ L, x.sm KN := by rw [hL]; exact commonL_sm hp hq
  have hsq := c_common1 a1 a2 p q hp hq hp0 hq0
  rw [← hL] at hsq ⊢
  refine WPS.range TBgood mixed rfl rfl hsq (fun S hS => hS) 6 [(2, .o (.p 58 0)), (3, .o (.p 59 0)), (4, .o (.p 60 0)), (5, .o (.p 61 0)), (7, .o (.p 62 0)), (8, .o (.p 63 0)), (6, .o (.v (.int .i64 0)))]
    (fun i (_ : Unit) => [(58, plM p), (59, plM q), (60, ratM R0), (61, sgM2 P00), (62, sgM2 (cc ((L.take i).foldl stepC none))), (63, bM ((L.take i).foldl stepC none).isSome)])
    (fun i _ => True) () trivial (SLe.mk (fun k => bif Nat.beq k 58 then 2 else bif Nat.beq k 59 then 3 else bif Nat.beq k 60 then 4 else bif Nat.beq k 61 then 5 else bif Nat.beq k 62 then 7 else bif Nat.beq k 63 then 8 else k) ⟨rfl, rfl, rfl, rfl, rfl, rfl, rfl, trivial⟩ ⟨⟨_, rfl, .refl _⟩, ⟨_, rfl, .refl _⟩, ⟨_, rfl, .refl _⟩, ⟨_, rfl, .refl _⟩, ⟨_, rfl, .refl _⟩, ⟨_, rfl, .refl _⟩, trivial⟩ rfl (fun R hR => hR)) rfl
    (fun i j _ => ⟨rfl, rfl⟩) rfl (fun x hx => by obtain ⟨e, _, rfl⟩ := List.mem_map.1 hx; rfl) rfl ?_ ?_
  · rintro W1 X i _ Rx hi _
    obtain ⟨c, hc, hx⟩ := xs_get hi
    rw [hx]
    have hnext := fold_take (f := stepC) (b := none) hc
    have hcs := hLs c (List.mem_of_getElem? hc)
    have hbs := fun x h => stepC_mem (p := fun x => x.sm KN) (L.take i) none (fun y hy => by cases hy) (fun y hy => hLs y (List.mem_of_mem_take hy)) x h
    generalize (L.take i).foldl stepC none = b at hnext hbs ⊢
    cases b with
    | none =>
      conv => whnf
      refine ⟨rfl, fun Ry => ?_⟩
      conv => whnf
      refine ⟨(), trivial, SLe.id trivial ⟨⟨_, rfl, .refl _⟩, ⟨_, rfl, .refl _⟩, ⟨_, rfl, .refl _⟩, ⟨_, rfl, .refl _⟩, ⟨_, rfl, ?_⟩, ⟨_, rfl, ?_⟩, trivial⟩ (fun R hR => hR)⟩
      · rw [hnext]; exact .refl _
      · rw [hnext]; exact .refl _
    | some x =>
      have hxs := hbs x rfl
      conv => whnf
      refine ⟨rfl, fun Ry => ?_⟩
      conv => whnf
      refine CallVC.fn (c_vCompare c x (hcs.le (by decide)) (hxs.le (by decide))) rfl ?_
      conv => whnf
      refine br_split ?_ ?_
      · intro h
        have h' : stepC (some x) c = some c := if_pos (of_decide_eq_true h)
        rw [h'] at hnext
        conv => whnf
        refine ⟨(), trivial, SLe.id trivial ⟨⟨_, rfl, .refl _⟩, ⟨_, rfl, .refl _⟩, ⟨_, rfl, .refl _⟩, ⟨_, rfl, .refl _⟩, ⟨_, rfl, ?_⟩, ⟨_, rfl, ?_⟩, trivial⟩ (fun R hR => hR)⟩
        · rw [hnext]; exact .refl _
        · rw [hnext]; exact .refl _
      · intro h
        have h' : stepC (some x) c = some x := if_neg (of_decide_eq_false h)
        rw [h'] at hnext
        conv => whnf
        refine ⟨(), trivial, SLe.id trivial ⟨⟨_, rfl, .refl _⟩, ⟨_, rfl, .refl _⟩, ⟨_, rfl, .refl _⟩, ⟨_, rfl, .refl _⟩, ⟨_, rfl, ?_⟩, ⟨_, rfl, ?_⟩, trivial⟩ (fun R hR => hR)⟩
        · rw [hnext]; exact .refl _
        · rw [hnext]; exact .refl _
  rintro _ _
  rw [List.length_map, List.take_length]
  cases hb : L.foldl stepC none with
  | some c =>
    refine WPS.of TBgood mixed ?_
    conv => whnf
    refine DrawVC.late [(2, 60, [1])] (by kernel_rfl) ?_
    conv => whnf
    refine postV_three ?_
    rw [pdV, qV, rawV0]; rfl
  | none =>
    refine WPS.peel TBgood mixed ?_
    conv => whnf
    refine WPS.seq ?_
    refine WPS.seq ?_
    refine WPS.of TBgood mixed ?_
    conv => whnf
    refine CallVC.f2 (c_links p q).enters (CallV.facts (c_links p q) rfl (by simp)) (fun a3 a4 => ?_)
    conv => whnf
    refine WPS.block ?_
    obtain ⟨M, hM⟩ : ∃ M, M = linksL p.P q.P := ⟨_, rfl⟩
    have hMs : ∀ x ∈ M, x.1.sm KN ∧ x.2.sm KN := by rw [hM]; exact linksL_sm hp hq
    have hsq2 := c_links1 a3 a4 p q hp hq hp0 hq0
    rw [← hM] at hsq2 ⊢
    refine WPS.range TBgood mixed rfl rfl hsq2 (fun S hS => ?_) 6 [(2, .o (.p 58 0)), (3, .o (.p 59 0)), (4, .o (.p 60 0)), (5, .o (.p 61 0)), (7, .o (.p 62 0)), (8, .o (.p 63 0)), (6, .o (.v (.int .i64 0)))]
      (fun i (_ : Unit) => [(58, plM p), (59, plM q), (60, ratM R0), (61, sgM2 P00), (62, sgM2 (((M.take i).foldl stepL none).getD P00)), (63, bM ((M.take i).foldl stepL none).isSome)])
      (fun i _ => True) () trivial (SLe.id ⟨rfl, rfl, rfl, rfl, rfl, rfl, rfl, trivial⟩ ⟨⟨_, rfl, .refl _⟩, ⟨_, rfl, .refl _⟩, ⟨_, rfl, .refl _⟩, ⟨_, rfl, .refl _⟩, ⟨_, rfl, .refl _⟩, ⟨_, rfl, .refl _⟩, trivial⟩ (fun R hR => hR)) rfl
      (fun i j _ => ⟨rfl, rfl⟩) rfl (fun x hx => by obtain ⟨e, _, rfl⟩ := List.mem_map.1 hx; rfl) rfl ?_ ?_
    · rcases List.mem_cons.1 hS with rfl | hS
      · exact List.mem_cons_self ..
      rcases List.mem_cons.1 hS with rfl | hS
      · exact List.mem_cons_of_mem _ (List.mem_cons_self ..)
      · exact List.mem_cons_of_mem _ (List.mem_cons_of_mem _ (List.mem_cons_of_mem _ (List.mem_cons_of_mem _ hS)))
    · rintro W1 X i _ Rx hi _
      obtain ⟨c, hc, hx⟩ := xs_get hi
      rw [hx]
      have hnext := fold_take (f := stepL) (b := none) hc
      have hcs := hMs c (List.mem_of_getElem? hc)
      have hbs := fun x h => stepL_mem (p := fun x => x.1.sm KN ∧ x.2.sm KN) (M.take i) none (fun y hy => by cases hy) (fun y hy => hMs y (List.mem_of_mem_take hy)) x h
      generalize (M.take i).foldl stepL none = b at hnext hbs ⊢
      cases b with
      | none =>
        conv => whnf
        refine ⟨rfl, fun Ry => ?_⟩
        conv => whnf
        refine ⟨(), trivial, SLe.id trivial ⟨⟨_, rfl, .refl _⟩, ⟨_, rfl, .refl _⟩, ⟨_, rfl, .refl _⟩, ⟨_, rfl, .refl _⟩, ⟨_, rfl, ?_⟩, ⟨_, rfl, ?_⟩, trivial⟩ (fun R hR => hR)⟩
        · rw [hnext]; exact .refl _
        · rw [hnext]; exact .refl _
      | some x =>
        have hxs := hbs x rfl
        conv => whnf
        refine ⟨rfl, fun Ry => ?_⟩
        conv => whnf
        refine CallVC.fn (c_before c x hcs hxs) rfl ?_
        cases h : beforeB c x with
        | true =>
          have h' : stepL (some x) c = some c := if_pos h
          rw [h'] at hnext
          conv => whnf
          refine ⟨(), trivial, SLe.id trivial ⟨⟨_, rfl, .refl _⟩, ⟨_, rfl, .refl _⟩, ⟨_, rfl, .refl _⟩, ⟨_, rfl, .refl _⟩, ⟨_, rfl, ?_⟩, ⟨_, rfl, ?_⟩, trivial⟩ (fun R hR => hR)⟩
          · rw [hnext]; exact .refl _
          · rw [hnext]; exact .refl _
        | false =>
          have h' : stepL (some x) c = some x := if_neg (by rw [h]; decide)
          rw [h'] at hnext
          conv => whnf
          refine ⟨(), trivial, SLe.id trivial ⟨⟨_, rfl, .refl _⟩, ⟨_, rfl, .refl _⟩, ⟨_, rfl, .refl _⟩, ⟨_, rfl, .refl _⟩, ⟨_, rfl, ?_⟩, ⟨_, rfl, ?_⟩, trivial⟩ (fun R hR => hR)⟩
          · rw [hnext]; exact .refl _
          · rw [hnext]; exact .refl _
    rintro _ _
    rw [List.length_map, List.take_length]
    have hbs : ∀ x : Pt × Pt, x = (M.foldl stepL none).getD P00 → x.1.sm KN ∧ x.2.sm KN := fun x hx => by
      cases hb : M.foldl stepL none with
      | none => rw [hx, hb]; exact ⟨⟨⟨Nat.zero_le _, Nat.zero_le _⟩, ⟨Nat.zero_le _, Nat.zero_le _⟩⟩, ⟨Nat.zero_le _, Nat.zero_le _⟩, ⟨Nat.zero_le _, Nat.zero_le _⟩⟩
      | some y =>
        rw [hb] at hx
        rw [hx]
        exact stepL_mem (p := fun x => x.1.sm KN ∧ x.2.sm KN) M none (fun y hy => by cases hy) hMs y hb
    generalize (M.foldl stepL none).getD P00 = x at hbs ⊢
    obtain ⟨hx1, hx2⟩ := hbs x rfl
    refine WPS.of TBgood mixed ?_
    conv => whnf
    refine DrawVC.late [(6, 60, [5])] (by kernel_rfl) ?_
    conv => whnf
    refine CallVCd.fn (c_vDistance x.1 x.2 (hx1.le (by decide)) (hx2.le (by decide))) rfl ?_
    conv => whnf
    exact postV_three rfl
end Go.Sx
end
section
set_option maxRecDepth 10000
set_option maxHeartbeats 2000000
set_option linter.unusedSimpArgs false
set_option linter.unusedVariables false
set_option pp.deepTerms false
set_option pp.deepTerms.threshold 6
namespace Go.Sx
open Go Go.Proofs
abbrev pt (x y : Int) : Pt := PQ ⟨(x : Rat), (y : Rat)⟩
theorem pt_sm {x y : Int} (h1 : x.natAbs < 256) (h2 : y.natAbs < 256) : (pt x y).sm KS := by
  have h : ∀ z : Int, z.natAbs < 256 → (Q (z : Rat)).sm KS := fun z hz => (show Sz 1 (z : Rat) from ⟨by simpa using hz, by simp⟩).q.le (by decide)
  exact ⟨h x h1, h y h2⟩
theorem eqR_self (r : Raw) : ((r.neg == r.neg) && (((bs r.num).toList == (bs r.num).toList) && (((bs r.den).toList == (bs r.den).toList) && true))) = true := by simp
abbrev triP (b : Nat) (x y z : Pt) : Ply := ⟨⟨some ⟨b, 0, none⟩, 3, [x, y, z]⟩, none, 0, []⟩
theorem triP_wf {b : Nat} {x y z : Pt} (hx : x.sm KS) (hy : y.sm KS) (hz : z.sm KS) : (triP b x y z).wf := by
  refine ⟨fun p hp => ?_, by simp, by simp, by simp, by simp⟩
  simp only [List.mem_cons, List.not_mem_nil, or_false] at hp
  rcases hp with rfl | rfl | rfl
  · exact hx
  · exact hy
  · exact hz
theorem aw1 : dPt euPt ⟨pt 0 0, pt 4 0⟩ (pt 3 3) = (9, 0) := by decide +kernel
theorem aw2 : dPt sqPt ⟨pt 0 0, pt 4 0⟩ (pt 3 3) = (3, 0) := by decide +kernel
theorem aw3 : dPt euPt ⟨pt 0 0, pt 2 0⟩ (pt 3 3) = (10, 0) := by decide +kernel
theorem aw4 : dPt sqPt ⟨pt 0 0, pt 2 0⟩ (pt 3 3) = (3, 0) := by decide +kernel
theorem aw5 : polysD ⟨[pt 0 0, pt 2 0, pt 0 2], []⟩ ⟨[pt 3 3, pt 5 3, pt 3 5], []⟩ = (8, (pt 1 1, pt 3 3), 0) := by decide +kernel
theorem c_pt (x y : Int) (h1 : x.natAbs < 256) (h2 : y.natAbs < 256) : Fn PP f_vector_Of [.int .i64 x, .int .i64 y] (pV (pt x y)) := c_vOf x y (by omega) (by omega) (by omega) (by omega)
theorem c_awake : Fn PP f_narrowslaw26_awake [] (.bool true) := by
  have s00 := pt_sm (x := 0) (y := 0) (by decide) (by decide)
  have s40 := pt_sm (x := 4) (y := 0) (by decide) (by decide)
  have s20 := pt_sm (x := 2) (y := 0) (by decide) (by decide)
  have s02 := pt_sm (x := 0) (y := 2) (by decide) (by decide)
  have s33 := pt_sm (x := 3) (y := 3) (by decide) (by decide)
  have s53 := pt_sm (x := 5) (y := 3) (by decide) (by decide)
  have s35 := pt_sm (x := 3) (y := 5) (by decide) (by decide)
  refine Fn.ofF (FnM.ofS TBgood mixed h_narrowslaw26_awake rfl rfl (Nat.le_of_ble_eq_true rfl) (by simp) (fun w l st E w' hp hm => postV_ok hp hm) ?_)
  intro w hw
  refine WPS.peel TBgood mixed ?_
  conv => whnf
  refine WPS.peel TBgood mixed ?_
  conv => whnf
  refine CallVC.fn (c_pt 0 0 (by decide) (by decide)) rfl ?_
  conv => whnf
  refine CallVC.fn (c_pt 4 0 (by decide) (by decide)) rfl ?_
  conv => whnf
  refine CallVC.fn (c_pt 0 0 (by decide) (by decide)) rfl ?_
  conv => whnf
  refine CallVC.fn (c_pt 2 0 (by decide) (by decide)) rfl ?_
  conv => whnf
  refine WPS.peel TBgood mixed ?_
  conv => whnf
  refine DrawVC.late [(7, 3, [5])] (by kernel_rfl) ?_
  conv => whnf
  refine CallVCd.fn (c_pt 3 3 (by decide) (by decide)) rfl ?_
  conv => whnf
  refine CallVCd.fn (c_dPoint ⟨pt 0 0, pt 4 0⟩ (pt 3 3) ⟨s00, s40⟩ s33) rfl ?_
  rw [aw1]
  conv => whnf
  refine WPS.peel TBgood mixed ?_
  conv => whnf
  refine DrawVC.late [(7, 5, [5])] (by kernel_rfl) ?_
  conv => whnf
  refine CallVCd.fn (c_pt 3 3 (by decide) (by decide)) rfl ?_
  conv => whnf
  refine CallVCd.fn (c_dSquarePoint ⟨pt 0 0, pt 4 0⟩ (pt 3 3) ⟨s00, s40⟩ s33) rfl ?_
  rw [aw2]
  conv => whnf
  refine WPS.peel TBgood mixed ?_
  conv => whnf
  refine DrawVC.late [(7, 7, [5])] (by kernel_rfl) ?_
  conv => whnf
  refine CallVCd.fn (c_pt 3 3 (by decide) (by decide)) rfl ?_
  conv => whnf
  refine CallVCd.fn (c_dPoint ⟨pt 0 0, pt 2 0⟩ (pt 3 3) ⟨s00, s20⟩ s33) rfl ?_
  rw [aw3]
  conv => whnf
  refine WPS.peel TBgood mixed ?_
  conv => whnf
  refine DrawVC.late [(7, 9, [5])] (by kernel_rfl) ?_
  conv => whnf
  refine CallVCd.fn (c_pt 3 3 (by decide) (by decide)) rfl ?_
  conv => whnf
  refine CallVCd.fn (c_dSquarePoint ⟨pt 0 0, pt 2 0⟩ (pt 3 3) ⟨s00, s20⟩ s33) rfl ?_
  rw [aw4]
  conv => whnf
  refine WPS.peel TBgood mixed ?_
  conv => whnf
  refine CallVC.fn (c_pt 0 0 (by decide) (by decide)) rfl ?_
  conv => whnf
  refine CallVC.fn (c_pt 2 0 (by decide) (by decide)) rfl ?_
  conv => whnf
  refine CallVC.fn (c_pt 0 2 (by decide) (by decide)) rfl ?_
  conv => whnf
  refine WPS.peel TBgood mixed ?_
  conv => whnf
  refine CallVC.fn (c_pt 3 3 (by decide) (by decide)) rfl ?_
  conv => whnf
  refine CallVC.fn (c_pt 5 3 (by decide) (by decide)) rfl ?_
  conv => whnf
  refine CallVC.fn (c_pt 3 5 (by decide) (by decide)) rfl ?_
  conv => whnf
  refine WPS.freeze 50 rfl (fun b1 => ?_)
  refine WPS.freeze 55 rfl (fun b2 => ?_)
  have hcall := c_Polygons (triP b1 (pt 0 0) (pt 2 0) (pt 0 2)) (triP b2 (pt 3 3) (pt 5 3) (pt 3 5)) (triP_wf s00 s20 s02) (triP_wf s33 s53 s35)
  rw [show polysD (triP b1 (pt 0 0) (pt 2 0) (pt 0 2)).P (triP b2 (pt 3 3) (pt 5 3) (pt 3 5)).P = (8, (pt 1 1, pt 3 3), 0) from aw5] at hcall
  refine WPS.of TBgood mixed ?_
  conv => whnf
  refine CallVC.v hcall.enters (CallV.factsT hcall rfl (fun R hR => ?_)) ?_
  · rcases List.mem_append.1 hR with hR | hR
    · rcases List.mem_cons.1 hR with rfl | hR
      · exact .inl (List.mem_cons_of_mem _ (List.mem_cons_self ..))
      · rw [List.mem_singleton.1 hR]; exact .inr (fun w => .inl rfl)
    · rcases List.mem_cons.1 hR with rfl | hR
      · exact .inl (List.mem_cons_self ..)
      · rw [List.mem_singleton.1 hR]; exact .inr (fun w => .inl rfl)
  conv => whnf
  refine DrawVC.quiet (by kernel_rfl) ?_
  conv => whnf
  refine CallVCd.fn (c_rOf 9 (by decide) (by decide)) rfl ?_
  conv => whnf
  refine br_true ((eqR (Q 9) (Q ((9 : Int) : Rat))).trans (decide_eq_true rfl)) ?_
  conv => whnf
  refine CallVCd.fn (c_rOf 3 (by decide) (by decide)) rfl ?_
  conv => whnf
  refine br_true ((eqR (Q 3) (Q ((3 : Int) : Rat))).trans (decide_eq_true rfl)) ?_
  conv => whnf
  refine CallVCd.fn (c_rOf 10 (by decide) (by decide)) rfl ?_
  conv => whnf
  refine br_true ((eqR (Q 10) (Q ((10 : Int) : Rat))).trans (decide_eq_true rfl)) ?_
  conv => whnf
  refine CallVCd.fn (c_rOf 3 (by decide) (by decide)) rfl ?_
  conv => whnf
  refine br_true ((eqR (Q 3) (Q ((3 : Int) : Rat))).trans (decide_eq_true rfl)) ?_
  conv => whnf
  refine CallVCd.fn (c_rOf 8 (by decide) (by decide)) rfl ?_
  conv => whnf
  refine br_true ((eqR (Q 8) (Q ((8 : Int) : Rat))).trans (decide_eq_true rfl)) ?_
  conv => whnf
  refine CallVCd.fn (c_pt 1 1 (by decide) (by decide)) rfl ?_
  conv => whnf
  refine CallVCd.fn (c_pt 3 3 (by decide) (by decide)) rfl ?_
  conv => whnf
  refine postV_one (congrArg Value.bool ?_)
  simp
end Go.Sx
end
section
set_option maxRecDepth 10000
set_option maxHeartbeats 2000000
set_option linter.unusedSimpArgs false
set_option linter.unusedVariables false
set_option pp.deepTerms false
set_option pp.deepTerms.threshold 6
namespace Go.Sx
open Go Go.Proofs
/-- A part of an element of a row that lies outside. -/
theorem LoadVC.fld {α : Type} {st : SS} {A A' : Option Addr} {xs : List α} {j o m n : Nat} {agg : Bool} {K : SV → Prop} {x : α} (f : α → List Value) (hf : ∀ x, (f x).length = n) (hR : SlRes A (rowV f xs) ∈ st.re) (hx : xs[j]? = some x) (hA : A' = A.map (·.add (j * n + o)))
    (ho : o + m ≤ n) (h0 : 0 < m) (h1 : agg = false → m = 1) (hk : K (mkV agg (((f x).drop o).take m))) : LoadVC st m agg A' K := by
  have hj : j < xs.length := (List.getElem?_eq_some_iff.1 hx).1
  have hlen : (rowV f xs).length = xs.length * n := rowV_length hf xs
  have hle : j * n + n ≤ xs.length * n := by rw [← Nat.succ_mul]; exact Nat.mul_le_mul_right n hj
  refine LoadVC.row (off := j * n + o) hR hA (by omega) h0 h1 ?_
  have hp : ((rowV f xs).drop (j * n)).take n = f x := rowV_part hf hx
  have he : ((rowV f xs).drop (j * n + o)).take m = ((f x).drop o).take m := by
    rw [← hp, ← List.drop_drop, List.drop_take, List.take_take, Nat.min_eq_left (by omega)]
  rw [he]; exact hk
def bigP (k : Nat) (p : Pt) : Bool := decide (k < p.x.num.length) || (decide (k < p.x.den.length) || (decide (k < p.y.num.length) || decide (k < p.y.den.length)))
theorem bigP_sm {k : Nat} {p : Pt} (h : bigP k p = false) : p.sm k := by
  simp only [bigP, Bool.or_eq_false_iff, decide_eq_false_iff_not, Nat.not_lt] at h
  exact ⟨⟨h.1, h.2.1⟩, h.2.2.1, h.2.2.2⟩
theorem add2' (A : Option Addr) (a b : Nat) {A' : Option Addr} (h : A' = A.map (·.add a)) (c : Nat) (hc : c = a + b) : A'.map (fun z => z.add b) = A.map (·.add c) := by rw [h, hc, addr_add2]
theorem c_Great07 (A : Option Addr) (c : Nat) (l : List Pt) (hl : l.length ≤ 1000000) :
    FnM PP f_narrowsref07_Great [.slice A l.length c] (facts [SlRes A (rowV ptC l)]) (retsV (.bool (l.any (bigP 12)))) := by
  refine FnS.of TBgood mixed h_narrowsref07_Great rfl rfl (Nat.le_of_ble_eq_true rfl) (by simp [SlRes.ok]) ?_
  intro w hw
  obtain ⟨n, hn⟩ : ∃ n, n = l.length := ⟨_, rfl⟩
  have hA : 0 < n → ∃ b o, A = some ⟨b, o, none⟩ := fun h => by
    have h1 : A.isSome = true := slres_some (facts_one hw) (by rw [rowV_length ptC_len]; omega)
    obtain ⟨a, rfl⟩ := Option.isSome_iff_exists.1 h1
    obtain ⟨b, o, rfl⟩ := slf_addr (facts_one hw) (by intro h2; have := congrArg List.length h2; rw [rowV_length ptC_len] at this; simp at this; omega)
    exact ⟨b, o, rfl⟩
  rw [← hn] at hl ⊢
  conv => whnf
  refine sexec_loop (ι := Nat) (fun i => ⟨[(0, .o (.v (.slice A n c))), (3, .o (.v (.int .i64 i)))], [], [SlRes A (rowV ptC l)]⟩)
    (fun i => i ≤ n ∧ l.any (bigP 12) = (l.drop i).any (bigP 12)) (fun i => n - i) 0 ⟨Nat.zero_le _, rfl⟩
    (SLe.id ⟨rfl, rfl, trivial⟩ trivial (fun R hR => hR)) ?_
  rintro i ⟨hi, hx⟩
  conv => whnf
  refine br_split ?_ ?_
  · intro h
    have hi2 : i < n := by
      have : (i : Int) < (n : Int) := of_decide_eq_true h
      omega
    obtain ⟨b, o, rfl⟩ := hA (by omega)
    obtain ⟨p, hp⟩ : ∃ p, l[i]? = some p := ⟨_, List.getElem?_eq_getElem (by omega)⟩
    rw [drop_cons hp, List.any_cons] at hx
    conv => whnf
    have hadd : Option.map (fun a : Addr => a.add ((i : Int).toNat * ty25.size)) (some ⟨b, o, none⟩) = some ⟨b, o + i * 6, none⟩ := by
      show some ((⟨b, o, none⟩ : Addr).add ((i : Int).toNat * 6)) = _
      rw [Int.toNat_natCast, Addr.add_lit]
    have hfl : ∀ z, (some ⟨b, o + i * 6 + z, none⟩ : Option Addr) = (some (⟨b, o, none⟩ : Addr)).map (fun a => a.add (i * 6 + z)) := fun z => by
      rw [Option.map_some, Addr.add_lit, Nat.add_assoc]
    have hlast : bigP 12 p = true → l.any (bigP 12) = true := fun h => by rw [hx, h, Bool.true_or]
    refine ⟨⟨by omega, by omega, rfl⟩, ?_⟩
    rw [hadd]
    conv => whnf
    refine LoadVC.fld (o := 1) ptC ptC_len (List.mem_singleton.2 rfl) hp (hfl 1) (by decide) (by decide) (fun _ => rfl) ?_
    conv => whnf
    refine br_split ?_ ?_
    · intro h
      have h1 : 12 < p.x.num.length := by
        have : ((p.x.num.length : Nat) : Int) > 12 := of_decide_eq_true h
        omega
      conv => whnf
      refine postV_one (congrArg Value.bool (hlast ?_).symm)
      simp only [bigP, Bool.or_eq_true, decide_eq_true_eq]
      omega
    intro h
    have hf1 : ¬ 12 < p.x.num.length := by
      have : ¬ ((p.x.num.length : Nat) : Int) > 12 := of_decide_eq_false h
      omega
    conv => whnf
    refine ⟨⟨by omega, by omega, rfl⟩, ?_⟩
    rw [hadd]
    conv => whnf
    refine LoadVC.fld (o := 2) ptC ptC_len (List.mem_singleton.2 rfl) hp (hfl 2) (by decide) (by decide) (fun _ => rfl) ?_
    conv => whnf
    refine br_split ?_ ?_
    · intro h
      have h1 : 12 < p.x.den.length := by
        have : ((p.x.den.length : Nat) : Int) > 12 := of_decide_eq_true h
        omega
      conv => whnf
      refine postV_one (congrArg Value.bool (hlast ?_).symm)
      simp only [bigP, Bool.or_eq_true, decide_eq_true_eq]
      omega
    intro h
    have hf2 : ¬ 12 < p.x.den.length := by
      have : ¬ ((p.x.den.length : Nat) : Int) > 12 := of_decide_eq_false h
      omega
    conv => whnf
    refine ⟨⟨by omega, by omega, rfl⟩, ?_⟩
    rw [hadd]
    conv => whnf
    refine LoadVC.fld (o := 4) ptC ptC_len (List.mem_singleton.2 rfl) hp (hfl 4) (by decide) (by decide) (fun _ => rfl) ?_
    conv => whnf
    refine br_split ?_ ?_
    · intro h
      have h1 : 12 < p.y.num.length := by
        have : ((p.y.num.length : Nat) : Int) > 12 := of_decide_eq_true h
        omega
      conv => whnf
      refine postV_one (congrArg Value.bool (hlast ?_).symm)
      simp only [bigP, Bool.or_eq_true, decide_eq_true_eq]
      omega
    intro h
    have hf4 : ¬ 12 < p.y.num.length := by
      have : ¬ ((p.y.num.length : Nat) : Int) > 12 := of_decide_eq_false h
      omega
    conv => whnf
    refine ⟨⟨by omega, by omega, rfl⟩, ?_⟩
    rw [hadd]
    conv => whnf
    refine LoadVC.fld (o := 5) ptC ptC_len (List.mem_singleton.2 rfl) hp (hfl 5) (by decide) (by decide) (fun _ => rfl) ?_
    conv => whnf
    refine br_split ?_ ?_
    · intro h
      have h1 : 12 < p.y.den.length := by
        have : ((p.y.den.length : Nat) : Int) > 12 := of_decide_eq_true h
        omega
      conv => whnf
      refine postV_one (congrArg Value.bool (hlast ?_).symm)
      simp only [bigP, Bool.or_eq_true, decide_eq_true_eq]
      omega
    intro h
    have hf5 : ¬ 12 < p.y.den.length := by
      have : ¬ ((p.y.den.length : Nat) : Int) > 12 := of_decide_eq_false h
      omega
    conv => whnf
    have hno : bigP 12 p = false := by
      simp only [bigP, Bool.or_eq_false_iff, decide_eq_false_iff_not]
      exact ⟨hf1, hf2, hf4, hf5⟩
    rw [hno, Bool.false_or] at hx
    exact ⟨i + 1, ⟨by omega, hx⟩, by omega, SLe.id ⟨rfl, some_wrap hi2 (by omega), trivial⟩ trivial (fun R hR => hR)⟩
  · intro h
    have hi2 : i = n := by
      have : ¬ (i : Int) < (n : Int) := of_decide_eq_false h
      omega
    rw [hi2, hn, List.drop_length] at hx
    conv => whnf
    refine postV_one ?_
    rw [hx]; rfl
end Go.Sx
end
section
set_option maxRecDepth 10000
set_option maxHeartbeats 2000000
set_option linter.unusedSimpArgs false
set_option linter.unusedVariables false
set_option pp.deepTerms false
set_option pp.deepTerms.threshold 6
namespace Go.Sx
open Go Go.Proofs
theorem c_great (A : Option Addr) (c : Nat) (l : List Pt) (hl : l.length ≤ 1000000) :
    FnM PP f_narrowslaw26_great [.slice A l.length c] (facts [SlRes A (rowV ptC l)]) (retsV (.bool (l.any (bigP 12)))) := by
  refine FnS.of TBgood mixed h_narrowslaw26_great rfl rfl (Nat.le_of_ble_eq_true rfl) (by simp [SlRes.ok]) ?_
  intro w hw
  conv => whnf
  refine CallVC.v (c_Great07 A c l hl).enters (CallV.facts (c_Great07 A c l hl) rfl (fun R hR => hR)) ?_
  conv => whnf
  exact postV_one rfl
theorem c_IndexFuncS (A : Option Addr) (c : Nat) (l : List (Pt × Pt)) (g : FuncId) (f : Pt × Pt → Bool) (hl : l.length ≤ 1000000)
    (hf : ∀ x ∈ l, Fn PP g [sV (sgE x)] (.bool (f x))) :
    FnM PP f_slices_IndexFunc_sl_api_Segment_api_Segment [.slice A l.length c, cloV g []] (facts [SlRes A (rowV sgC l)]) (retsV (.int .i64 (idxF f 0 l))) := by
  refine FnS.of TBgood mixed h_slices_IndexFunc_sl_api_Segment_api_Segment rfl rfl (Nat.le_of_ble_eq_true rfl) (by simp [SlRes.ok]) ?_
  intro w hw
  obtain ⟨n, hn⟩ : ∃ n, n = l.length := ⟨_, rfl⟩
  have hA : 0 < n → A.isSome = true := fun h => slres_some (facts_one hw) (by rw [rowV_length sgC_len]; omega)
  rw [← hn] at hl ⊢
  conv => whnf
  refine sexec_loop (ι := Nat) (fun i => ⟨[(0, .o (.v (.slice A n c))), (1, .o (.v (cloV g []))), (6, .o (.v (.slice A n c))), (7, .o (.v (.int .i64 n))), (8, .o (.v (.int .i64 i)))], [], [SlRes A (rowV sgC l)]⟩)
    (fun i => i ≤ n ∧ idxF f 0 l = idxF f i (l.drop i)) (fun i => n - i) 0 ⟨Nat.zero_le _, rfl⟩
    (SLe.id ⟨rfl, rfl, rfl, rfl, rfl, trivial⟩ trivial (fun R hR => hR)) ?_
  rintro i ⟨hi, hx⟩
  conv => whnf
  refine br_split ?_ ?_
  · intro h
    have hi2 : i < n := by
      have : (i : Int) < (n : Int) := of_decide_eq_true h
      omega
    conv => whnf
    refine ⟨⟨by omega, by omega, hA (by omega)⟩, ?_⟩
    conv => whnf
    obtain ⟨p, hp⟩ : ∃ p, l[i]? = some p := ⟨_, List.getElem?_eq_getElem (by omega)⟩
    refine LoadVC.elem (A := A) (xs := l) (j := (i : Int)) sgC sgC_len (List.mem_singleton.2 rfl) rfl (by rw [Int.toNat_natCast]; omega) (by decide) (fun h => by cases h) ?_
    intro p' hp'
    obtain rfl := elem_eq hp' hp
    conv => whnf
    refine CallVC.fn (hf p' (List.mem_of_getElem? hp)) rfl ?_
    have hdrop : l.drop i = p' :: l.drop (i + 1) := by
      obtain ⟨h1, h2⟩ := List.getElem?_eq_some_iff.1 hp
      rw [← h2]; exact List.drop_eq_getElem_cons h1
    rw [hdrop] at hx
    simp only [idxF] at hx
    cases hfp : f p' with
    | true =>
      rw [hfp, if_pos rfl] at hx
      conv => whnf
      refine postV_one ?_
      rw [hx]
    | false =>
      rw [hfp, if_neg (by simp)] at hx
      conv => whnf
      exact ⟨i + 1, ⟨by omega, hx⟩, by omega, SLe.id ⟨rfl, rfl, rfl, rfl, some_wrap (n := 1000001) (by omega) (by omega), trivial⟩ trivial (fun R hR => hR)⟩
  · intro h
    have hi2 : i = n := by
      have : ¬ (i : Int) < (n : Int) := of_decide_eq_false h
      omega
    rw [hi2, hn, List.drop_length] at hx
    conv => whnf
    refine postV_one ?_
    rw [hx]; rfl
theorem c_ContainsFuncS (A : Option Addr) (c : Nat) (l : List (Pt × Pt)) (g : FuncId) (f : Pt × Pt → Bool) (hl : l.length ≤ 1000000)
    (hf : ∀ x ∈ l, Fn PP g [sV (sgE x)] (.bool (f x))) :
    FnM PP f_slices_ContainsFunc_sl_api_Segment_api_Segment [.slice A l.length c, cloV g []] (facts [SlRes A (rowV sgC l)]) (retsV (.bool (l.any f))) := by
  refine FnS.of TBgood mixed h_slices_ContainsFunc_sl_api_Segment_api_Segment rfl rfl (Nat.le_of_ble_eq_true rfl) (by simp [SlRes.ok]) ?_
  intro w hw
  conv => whnf
  refine CallVC.v (c_IndexFuncS A c l g f hl hf).enters (CallV.facts (c_IndexFuncS A c l g f hl hf) rfl (fun R hR => hR)) ?_
  conv => whnf
  refine postV_one ?_
  show Value.bool (decide (idxF f 0 l ≥ 0)) = _
  rw [idxF_any]
def bigS (s : Sg) : Bool := bigP 12 s.A || bigP 12 s.B
def badS (s : Sg) : Bool := bigS s || (decide (degen s) || (!decide s.A.ok || !decide s.B.ok))
theorem sm12 {p : Pt} (h : bigP 12 p = false) : p.sm KS := (bigP_sm h).le (by decide)
theorem c_valid1 (s : Sg) : Fn PP f_narrowslaw26_valid_1 [sV s] (.bool (badS s)) := by
  refine Fn.of TBgood mixed h_narrowslaw26_valid_1 rfl rfl (Nat.le_of_ble_eq_true rfl) ?_
  intro w
  conv => whnf
  have hg := fun A c (hc : 2 ≤ c) => c_great A c [s.A, s.B] (by simp)
  refine CallVC.v (hg none 2 (Nat.le_refl _)).enters (CallV.sl1 (x := .o (.s 7 0 2 2)) (fun z => [z]) (RdA.box rfl (Nat.le_refl _)) (List.mem_cons_self ..) (fun _ => rfl) hg) ?_
  rw [show [s.A, s.B].any (bigP 12) = bigS s by simp [bigS]]
  unfold badS
  cases hb : bigS s with
  | true =>
    conv => whnf
    exact postV_one rfl
  | false =>
    have hs : s.sm KS := by
      unfold bigS at hb
      rw [Bool.or_eq_false_iff] at hb
      exact ⟨sm12 hb.1, sm12 hb.2⟩
    conv => whnf
    refine CallVC.fn (c_sCheck s hs) rfl ?_
    by_cases hd : degen s
    · rw [segChk, if_pos hd, decide_eq_true hd]
      conv => whnf
      exact postV_one rfl
    · rw [segChk, if_neg hd, decide_eq_false hd]
      conv => whnf
      refine CallVC.fn (c_vCheck s.A (hs.1.le (by decide))) rfl ?_
      by_cases hA : s.A.ok
      · rw [if_pos hA, decide_eq_true hA]
        conv => whnf
        refine CallVC.fn (c_vCheck s.B (hs.2.le (by decide))) rfl ?_
        by_cases hB : s.B.ok
        · rw [if_pos hB, decide_eq_true hB]
          conv => whnf
          exact postV_one rfl
        · rw [if_neg hB, decide_eq_false hB]
          conv => whnf
          exact postV_one rfl
      · rw [if_neg hA, decide_eq_false hA]
        conv => whnf
        exact postV_one rfl
theorem c_valid (A : Option Addr) (c : Nat) (l : List (Pt × Pt)) (hl : l.length ≤ 1000000) :
    FnM PP f_narrowslaw26_valid [.slice A l.length c] (facts [SlRes A (rowV sgC l)]) (retsV (.bool (!(l.any fun e => badS (sgE e))))) := by
  refine FnS.of TBgood mixed h_narrowslaw26_valid rfl rfl (Nat.le_of_ble_eq_true rfl) (by simp [SlRes.ok]) ?_
  intro w hw
  have hc := c_ContainsFuncS A c l f_narrowslaw26_valid_1 (fun e => badS (sgE e)) hl (fun x _ => c_valid1 (sgE x))
  conv => whnf
  refine CallVC.v hc.enters (CallV.facts hc rfl (fun R hR => hR)) ?_
  conv => whnf
  exact postV_one rfl
end Go.Sx
end
section
set_option linter.unusedVariables false
set_option linter.unusedSimpArgs false
namespace Go.Sx
theorem lt_step {a b t : Rat} (h0 : 0 < t) : a < a + (b - a) * t ↔ a < b := by
  constructor
  · intro h
    rcases Rat.le_total (a := b) (b := a) with h1 | h1
    · exfalso; have := Rat.mul_nonneg (show 0 ≤ a - b by grind) (show 0 ≤ t by grind); grind
    · by_cases he : a = b
      · exfalso; rw [he] at h; grind
      · grind
  · intro h
    have := Rat.mul_pos (show 0 < b - a by grind) h0; grind
theorem gt_step {a b t : Rat} (h0 : 0 < t) : a + (b - a) * t < a ↔ b < a := by
  constructor
  · intro h
    rcases Rat.le_total (a := a) (b := b) with h1 | h1
    · exfalso; have := Rat.mul_nonneg (show 0 ≤ b - a by grind) (show 0 ≤ t by grind); grind
    · by_cases he : a = b
      · exfalso; rw [he] at h; grind
      · grind
  · intro h
    have := Rat.mul_pos (show 0 < a - b by grind) h0; grind
theorem cmp_step {a b t : Rat} (h0 : 0 < t) : cmpQ a (a + (b - a) * t) = cmpQ a b := by
  unfold cmpQ; simp only [lt_step h0, gt_step h0]
theorem cmp_step' {a b t : Rat} (h1 : t < 1) : cmpQ (a + (b - a) * t) b = cmpQ a b := by
  have e : a + (b - a) * t = b + (a - b) * (1 - t) := by grind
  have h0 : 0 < 1 - t := by grind
  rw [e]; unfold cmpQ; simp only [lt_step h0, gt_step h0]
theorem cmpV_step {a b : V} {t : Rat} (h0 : 0 < t) : cmpV a (a.at b t) = cmpV a b := by
  unfold cmpV
  rw [show (a.at b t).x = a.x + (b.x - a.x) * t from rfl, show (a.at b t).y = a.y + (b.y - a.y) * t from rfl, cmp_step h0, cmp_step h0]
theorem cmpV_step' {a b : V} {t : Rat} (h1 : t < 1) : cmpV (a.at b t) b = cmpV a b := by
  unfold cmpV
  rw [show (a.at b t).x = a.x + (b.x - a.x) * t from rfl, show (a.at b t).y = a.y + (b.y - a.y) * t from rfl, cmp_step' h1, cmp_step' h1]
theorem mul_self_nn (x : Int) : 0 ≤ x * x := by
  rcases Int.le_total 0 x with h | h
  · exact Int.mul_nonneg h h
  · have := Int.mul_nonneg (show 0 ≤ -x by omega) (show 0 ≤ -x by omega)
    rwa [Int.neg_mul_neg] at this
theorem at_betw {a b : V} (hab : a ≠ b) {t : Rat} (h0 : 0 ≤ t) (h1 : t ≤ 1) : betwB a b (a.at b t) = true := by
  have hc : (b - a).cross (a.at b t - a) = 0 := by
    show (b.x - a.x) * (a.y + (b.y - a.y) * t - a.y) - (b.y - a.y) * (a.x + (b.x - a.x) * t - a.x) = 0
    grind
  have hm : 0 ≤ cmpV a (a.at b t) * cmpV (a.at b t) b := by
    by_cases e0 : t = 0
    · rw [e0, V.at_zero, cmpV_zero.2 rfl, Int.zero_mul]; exact Int.le_refl _
    by_cases e1 : t = 1
    · rw [e1, V.at_one, cmpV_zero.2 rfl, Int.mul_zero]; exact Int.le_refl _
    rw [cmpV_step (by grind), cmpV_step' (by grind)]
    exact mul_self_nn _
  unfold betwB
  rw [hc, decide_eq_true (cmpQ_eq.2 rfl), decide_eq_true hm, decide_eq_true (show cmpV a b ≠ 0 from fun h => hab (cmpV_zero.1 h))]
  rfl
theorem euPt_nn (A B p : V) : 0 ≤ euPt A B p := V.dist_nonneg _ _
theorem euPt_le {A B p : V} (h : A ≠ B) {t : Rat} (h0 : 0 ≤ t) (h1 : t ≤ 1) : euPt A B p ≤ (A.at B t).dist p := by
  unfold euPt; rw [V.dist_comm]; exact near_min h h0 h1
theorem euPt_on {A B p : V} (h : A ≠ B) : euPt A B p = 0 ↔ betwB A B p = true := by
  constructor
  · intro h2
    have h3 : p = nearV A B p := V.dist_zero (show p.dist (nearV A B p) ≤ 0 by rw [show p.dist (nearV A B p) = 0 from h2]; exact Rat.le_refl)
    have h4 := at_betw h (nearT_unit A B p).1 (nearT_unit A B p).2
    rw [← nearV_at, ← h3] at h4
    exact h4
  · intro h2
    obtain ⟨t, ⟨h0, h1⟩, hp⟩ := betw_at h h2
    have h3 := euPt_le (p := p) h h0 h1
    rw [← hp, V.dist_self] at h3
    exact Rat.le_antisymm h3 (euPt_nn _ _ _)
/-- A part of the way, for any number. -/
theorem unit_part (t : Rat) : 0 < 1 + t * t ∧ 0 ≤ 1 / (1 + t * t) ∧ 1 / (1 + t * t) ≤ 1 := by
  have h := sq_nonneg t
  have hp : 0 < 1 + t * t := by grind
  refine ⟨hp, ?_, ?_⟩
  · rw [Rat.div_def, Rat.one_mul]; exact Rat.le_of_lt (Rat.inv_pos.2 hp)
  · rw [Rat.div_def, Rat.one_mul]
    have h2 : (1 + t * t) * (1 + t * t)⁻¹ = 1 := Rat.mul_inv_cancel _ (by grind)
    have h3 := Rat.mul_nonneg h (Rat.le_of_lt (Rat.inv_pos.2 hp))
    grind
end Go.Sx
end
section
set_option maxRecDepth 10000
set_option maxHeartbeats 2000000
set_option linter.unusedSimpArgs false
set_option linter.unusedVariables false
set_option pp.deepTerms false
set_option pp.deepTerms.threshold 6
namespace Go.Sx
open Go Go.Proofs
theorem dchk1_zero {s : Sg} {p : Pt} (hp : p.ok) (hA : s.A.ok) (hB : s.B.ok) (hd : ¬ degen s) : dchk [p] [sgP s] = 0 := by
  unfold dchk
  rw [if_neg (by simp [allP, endsL, hp, hA, hB]), if_neg (by simp [sgE, hd])]
theorem dPt_ok {D : V → V → V → Rat} {s : Sg} {p : Pt} (hp : p.ok) (hA : s.A.ok) (hB : s.B.ok) (hd : ¬ degen s) : dPt D s p = (D s.A.v s.B.v p.v, 0) := by
  unfold dPt; rw [if_neg (by rw [dchk1_zero hp hA hB hd]; decide)]
theorem badS_ok {s : Sg} (h : badS s = false) : s.A.sm 12 ∧ s.B.sm 12 ∧ s.A.ok ∧ s.B.ok ∧ ¬ degen s := by
  simp only [badS, bigS, Bool.or_eq_false_iff, Bool.not_eq_false', decide_eq_false_iff_not, decide_eq_true_eq] at h
  exact ⟨bigP_sm h.1.1, bigP_sm h.1.2, h.2.2.1, h.2.2.2, h.2.1⟩
theorem law_DistanceLeast (s : Sg) (p : Pt) (t : Raw) : Fn PP f_narrowslaw26_DistanceLeast [sV s, pV p, rawV t] (.bool true) := by
  refine Fn.of TBgood mixed h_narrowslaw26_DistanceLeast rfl rfl (Nat.le_of_ble_eq_true rfl) ?_
  intro w
  conv => whnf
  have hv := fun A c (hc : 1 ≤ c) => c_valid A c [sgP s] (by simp)
  refine CallVC.v (hv none 1 (Nat.le_refl _)).enters (CallV.sl1 (x := .o (.s 19 0 1 1)) (fun z => [z]) (RdA.box rfl (Nat.le_refl _)) (List.mem_cons_self ..) (fun _ => rfl) hv) ?_
  rw [show (!([sgP s].any fun e => badS (sgE e))) = !badS s by simp [sgE]]
  cases hb : badS s with
  | true =>
    conv => whnf
    refine CallVC.fn c_awake rfl ?_
    conv => whnf
    exact postV_one rfl
  | false =>
  obtain ⟨hA12, hB12, hAo, hBo, hd⟩ := badS_ok hb
  conv => whnf
  have hg := fun A c (hc : 2 ≤ c) => c_great A c [p, ⟨t, R0⟩] (by simp)
  refine CallVC.v (hg none 2 (Nat.le_refl _)).enters (CallV.sl1 (x := .o (.s 26 0 2 2)) (fun z => [z]) (RdA.box rfl (Nat.le_refl _)) (List.mem_cons_self ..) (fun _ => rfl) hg) ?_
  cases hgr : [p, (⟨t, R0⟩ : Pt)].any (bigP 12) with
  | true =>
    conv => whnf
    refine CallVC.fn c_awake rfl ?_
    conv => whnf
    exact postV_one rfl
  | false =>
  have hp12 : p.sm 12 := by simp at hgr; exact bigP_sm hgr.1
  have ht12 : t.sm 12 := by simp at hgr; exact (bigP_sm hgr.2).1
  conv => whnf
  refine CallVC.fn (c_vCheck p (hp12.le (by decide))) rfl ?_
  by_cases hpo : p.ok
  rotate_left
  · rw [if_neg hpo]
    conv => whnf
    refine CallVC.fn c_awake rfl ?_
    conv => whnf
    exact postV_one rfl
  rw [if_pos hpo]
  conv => whnf
  have hs : s.sm KS := ⟨hA12.le (by decide), hB12.le (by decide)⟩
  have hp : p.sm KS := hp12.le (by decide)
  have zA := hA12.sz (by decide)
  have zB := hB12.sz (by decide)
  have zp := hp12.sz (by decide)
  have zt : Sz 12 t.v := Raw.sz (by decide) ht12.1 ht12.2
  have hAB : s.A.v ≠ s.B.v := fun h => hd (cmpV_zero.2 h)
  refine CallVC.fn (c_dPoint s p hs hp) rfl ?_
  rw [dPt_ok hpo hAo hBo hd]
  conv => whnf
  refine CallVC.fn (c_dSquarePoint s p hs hp) rfl ?_
  rw [dPt_ok hpo hAo hBo hd]
  conv => whnf
  refine CallVC.fn (c_Nearest s p hs hp) rfl ?_
  rw [if_neg hd]
  conv => whnf
  refine DrawVC.late [(11, 13, [9])] (by kernel_rfl) ?_
  conv => whnf
  refine CallVCd.fn (c_rOf 1 (by decide) (by decide)) rfl ?_
  rw [show ((1 : Int) : Rat) = 1 from rfl]
  conv => whnf
  refine CallVCd.fn (c_rOf 1 (by decide) (by decide)) rfl ?_
  rw [show ((1 : Int) : Rat) = 1 from rfl]
  conv => whnf
  refine CallVCd.fn (c_rMul t t ⟨Nat.le_trans ht12.1 (by decide), Nat.le_trans ht12.2 (by decide)⟩ ⟨Nat.le_trans ht12.1 (by decide), Nat.le_trans ht12.2 (by decide)⟩) rfl ?_
  conv => whnf
  have z1 : Sz 1 (1 : Rat) := ⟨by decide, by decide⟩
  have z2 := zt.mul zt
  have z3 := z1.add z2
  refine CallVCd.fn (c_rAdd (Q 1) (Q (t.v * t.v)) (z1.q.le (by decide)) (z2.q.le (by decide))) rfl ?_
  rw [Q_v, Q_v]
  conv => whnf
  refine CallVCd.fn (c_rQuo (Q 1) (Q (1 + t.v * t.v)) (z1.q.le (by decide)) (z3.q.le (by decide))) rfl ?_
  obtain ⟨hpos, hu0, hu1⟩ := unit_part t.v
  rw [Q_v, Q_v, quoV, if_neg (by grind)]
  have zu := z1.div z3
  conv => whnf
  obtain ⟨a, ha⟩ : ∃ a, a = euPt s.A.v s.B.v p.v := ⟨_, rfl⟩
  obtain ⟨x, hx⟩ : ∃ x, x = sqPt s.A.v s.B.v p.v := ⟨_, rfl⟩
  obtain ⟨nr, hnr⟩ : ∃ nr, nr = nearV s.A.v s.B.v p.v := ⟨_, rfl⟩
  have znr : SzV KN nr := by rw [hnr]; exact (near_sz zA zB zp).le (by decide)
  have zak : Sz 1000000 a := by rw [ha]; exact euPt_sz (zA.le (by decide)) (zB.le (by decide)) (zp.le (by decide))
  have zxk : Sz 1000000 x := by rw [hx]; exact sqPt_sz (zA.le (by decide)) (zB.le (by decide)) (zp.le (by decide))
  have hna : nr.dist p.v = a := by rw [ha, hnr, V.dist_comm]; rfl
  obtain ⟨e1, e2⟩ := sqPt_eu (p := p.v) hAB
  have hon := euPt_on (p := p.v) hAB
  have hmin : ∀ τ : Rat, 0 ≤ τ → τ ≤ 1 → a ≤ (s.A.v.at s.B.v τ).dist p.v ∧ x ≤ (s.A.v.at s.B.v τ).sq p.v := fun τ h0 h1 => ⟨by rw [ha]; exact euPt_le hAB h0 h1, by rw [hx]; exact sqPt_le h0 h1⟩
  have hnt := hmin _ (nearT_unit s.A.v s.B.v p.v).1 (nearT_unit s.A.v s.B.v p.v).2
  rw [← nearV_at, ← hnr] at hnt
  rw [← ha, ← hx] at e1 e2
  rw [← ha] at hon
  rw [← ha, ← hx, ← hnr]
  refine DrawVC.quiet (by kernel_rfl) ?_
  conv => whnf
  refine CallVCd.fn (c_vDistance (PQ nr) p (znr.q.le (by decide)) (hp.le (by decide))) rfl ?_
  rw [PQ_v, hna]
  conv => whnf
  refine br_false (congrArg (!·) ((eqR (Q a) (Q a)).trans (decide_eq_true rfl))) ?_
  conv => whnf
  refine DrawVC.quiet (by kernel_rfl) ?_
  conv => whnf
  refine CallVCd.fn (c_vAt s.A s.B (Q (1 / (1 + t.v * t.v))) (hs.1.le (by decide)) (hs.2.le (by decide)) (zu.q.le (by decide))) rfl ?_
  rw [Q_v]
  have zat := zA.at zB zu
  have hq0 := hmin _ hu0 hu1
  generalize s.A.v.at s.B.v (1 / (1 + t.v * t.v)) = q0 at zat hq0 ⊢
  have hqs : ∀ q ∈ [PQ q0, s.A, s.B, PQ nr], q.sm KN ∧ a ≤ q.v.dist p.v ∧ x ≤ q.v.sq p.v := fun q hq => by
    simp only [List.mem_cons, List.not_mem_nil, or_false] at hq
    rcases hq with rfl | rfl | rfl | rfl
    · rw [PQ_v]; exact ⟨zat.q.le (by decide), hq0⟩
    · have := hmin 0 (by grind) (by grind)
      rw [V.at_zero] at this
      exact ⟨hs.1.le (by decide), this⟩
    · have := hmin 1 (by grind) (by grind)
      rw [V.at_one] at this
      exact ⟨hs.2.le (by decide), this⟩
    · rw [PQ_v]; exact ⟨znr.q.le (by decide), hnt⟩
  conv => whnf
  refine sexec_loop (ι := Nat) (fun i => ⟨[(3, .o (.p 3 0)), (4, .o (.p 4 0)), (7, .o (.p 7 0)), (9, .o (.p 9 0)), (95, .o (.s 95 0 4 4)), (96, .o (.v (.int .i64 4))), (97, .o (.v (.int .i64 i)))], [(3, sgB s), (4, ptB p), (7, ratM (Q a)), (9, ratM (Q x)), (95, .sym (rowV ptC [PQ q0, s.A, s.B, PQ nr]) t_api_Point)], []⟩)
    (fun i => i ≤ 4) (fun i => 4 - i) 0 (Nat.zero_le _)
    (SLe.id ⟨rfl, rfl, rfl, rfl, rfl, rfl, rfl, trivial⟩ ⟨⟨_, rfl, .refl _⟩, ⟨_, rfl, .refl _⟩, ⟨_, rfl, .refl _⟩, ⟨_, rfl, .refl _⟩, ⟨_, rfl, .sym _ rfl⟩, trivial⟩ (fun R hR => hR)) ?_
  rintro i hi
  conv => whnf
  refine br_split ?_ ?_
  · intro h
    have hi2 : i < 4 := by
      have : (i : Int) < (4 : Int) := of_decide_eq_true h
      omega
    conv => whnf
    refine ⟨by show 0 ≤ (i : Int) ∧ (i : Int) < ((4 : Nat) : Int); omega, ?_⟩
    conv => whnf
    refine RowVC.elem ptC ptC_len (k := i) (by show 0 + (i : Int).toNat * 6 = i * 6; rw [Int.toNat_natCast]; omega) (by simp; omega) (by decide) (fun h => by cases h) ?_
    intro q hq
    obtain ⟨hqs1, hqs2, hqs3⟩ := hqs q (List.mem_of_getElem? hq)
    have zq : SzV KN q.v := hqs1.sz (by decide)
    conv => whnf
    refine DrawVC.quiet (by kernel_rfl) ?_
    conv => whnf
    refine CallVCd.fn (c_vDistance q p (hqs1.le (by decide)) (hp.le (by decide))) rfl ?_
    conv => whnf
    refine CallVCd.fn (c_rCompare (Q (q.v.dist p.v)) (Q a) ((zq.dist zp).q.le (by decide)) (zak.q.le (by decide))) rfl ?_
    rw [Q_v, Q_v]
    conv => whnf
    refine br_false (decide_eq_false (fun h => by rw [cmpQ_lt] at h; grind)) ?_
    conv => whnf
    refine CallVCd.fn (c_vSquare q p (hqs1.le (by decide)) (hp.le (by decide))) rfl ?_
    conv => whnf
    refine CallVCd.fn (c_rCompare (Q (q.v.sq p.v)) (Q x) ((V.sq_sz zq zp).q.le (by decide)) (zxk.q.le (by decide))) rfl ?_
    rw [Q_v, Q_v]
    conv => whnf
    refine br_false (decide_eq_false (fun h => by rw [cmpQ_lt] at h; grind)) ?_
    conv => whnf
    exact ⟨i + 1, by show i + 1 ≤ 4; omega, by show 4 - (i + 1) < 4 - i; omega, SLe.id ⟨rfl, rfl, rfl, rfl, rfl, rfl, some_wrap hi2 (by omega), trivial⟩ ⟨⟨_, rfl, .refl _⟩, ⟨_, rfl, .refl _⟩, ⟨_, rfl, .refl _⟩, ⟨_, rfl, .refl _⟩, ⟨_, rfl, .refl _⟩, trivial⟩ (fun R hR => hR)⟩
  · intro h
    conv => whnf
    refine CallVC.fn (c_rMul (Q x) (Q x) (zxk.q.le (by decide)) (zxk.q.le (by decide))) rfl ?_
    rw [Q_v]
    have zxx := zxk.mul zxk
    conv => whnf
    refine DrawVC.quiet (by kernel_rfl) ?_
    conv => whnf
    refine CallVCd.fn (c_rCompare (Q (x * x)) (Q a) (zxx.q.le (by decide)) (zak.q.le (by decide))) rfl ?_
    rw [Q_v, Q_v]
    conv => whnf
    refine br_true (decide_eq_true (cmpQ_le.2 e1)) ?_
    conv => whnf
    refine CallVCd.fn (c_rAdd (Q (x * x)) (Q (x * x)) (zxx.q.le (by decide)) (zxx.q.le (by decide))) rfl ?_
    rw [Q_v]
    conv => whnf
    refine CallVCd.fn (c_rCompare (Q a) (Q (x * x + x * x)) (zak.q.le (by decide)) ((zxx.add zxx).q.le (by decide))) rfl ?_
    rw [Q_v, Q_v]
    conv => whnf
    refine br_true (decide_eq_true (cmpQ_le.2 e2)) ?_
    conv => whnf
    refine CallVCd.fn (c_rSign (Q a) (zak.q.le (by decide))) rfl ?_
    rw [Q_v]
    conv => whnf
    refine CallVCd.fn (c_On s p (hs.le (by decide)) (hp.le (by decide))) rfl ?_
    have hfin : ((cmpQ a 0 == 0) == betwB s.A.v s.B.v p.v) = true := by
      cases hbt : betwB s.A.v s.B.v p.v with
      | true => rw [cmpQ_eq.2 (hon.2 hbt)]; rfl
      | false =>
        have : cmpQ a 0 ≠ 0 := fun h => by rw [hon.1 (cmpQ_eq.1 h)] at hbt; cases hbt
        simp [this]
    conv => whnf
    refine br_true hfin ?_
    conv => whnf
    refine CallVCd.fn c_awake rfl ?_
    conv => whnf
    exact postV_one rfl
end Go.Sx
end
section
set_option linter.unusedVariables false
set_option linter.unusedSimpArgs false
namespace Go.Sx
/-! ### the order of points -/
theorem cmpQ_val (x y : Rat) : (cmpQ x y = -1 ∧ x < y) ∨ (cmpQ x y = 0 ∧ x = y) ∨ (cmpQ x y = 1 ∧ y < x) := by
  unfold cmpQ; split
  · exact .inl ⟨rfl, by assumption⟩
  · split
    · exact .inr (.inr ⟨rfl, by assumption⟩)
    · exact .inr (.inl ⟨rfl, by grind⟩)
def ltP2 (a b : V) : Prop := a.x < b.x ∨ (a.x = b.x ∧ a.y < b.y)
theorem cmpV_val (a b : V) : (cmpV a b = -1 ∧ ltP2 a b) ∨ (cmpV a b = 0 ∧ a = b) ∨ (cmpV a b = 1 ∧ ltP2 b a) := by
  unfold cmpV ltP2
  rcases cmpQ_val a.x b.x with ⟨h1, h2⟩ | ⟨h1, h2⟩ | ⟨h1, h2⟩
  · rw [h1, if_pos (by decide)]; exact .inl ⟨rfl, .inl h2⟩
  · rw [h1, if_neg (by decide)]
    rcases cmpQ_val a.y b.y with ⟨h3, h4⟩ | ⟨h3, h4⟩ | ⟨h3, h4⟩
    · exact .inl ⟨h3, .inr ⟨h2, h4⟩⟩
    · exact .inr (.inl ⟨h3, V.ext' h2 h4⟩)
    · exact .inr (.inr ⟨h3, .inr ⟨h2.symm, h4⟩⟩)
  · rw [h1, if_pos (by decide)]; exact .inr (.inr ⟨rfl, .inl h2⟩)
theorem ltP2_irr {a : V} : ¬ ltP2 a a := by unfold ltP2; grind
theorem ltP2_trans {a b c : V} (h : ltP2 a b) (k : ltP2 b c) : ltP2 a c := by unfold ltP2 at *; grind
theorem cmpV_lt {a b : V} : cmpV a b < 0 ↔ ltP2 a b := by
  rcases cmpV_val a b with ⟨h1, h2⟩ | ⟨h1, h2⟩ | ⟨h1, h2⟩
  · rw [h1]; exact ⟨fun _ => h2, fun _ => by decide⟩
  · rw [h1, h2]; exact ⟨fun h => absurd h (by decide), fun h => absurd h ltP2_irr⟩
  · rw [h1]; exact ⟨fun h => absurd h (by decide), fun h => absurd (ltP2_trans h h2) ltP2_irr⟩
theorem cmpV_gt {a b : V} : cmpV a b > 0 ↔ ltP2 b a := by
  rcases cmpV_val a b with ⟨h1, h2⟩ | ⟨h1, h2⟩ | ⟨h1, h2⟩
  · rw [h1]; exact ⟨fun h => absurd h (by decide), fun h => absurd (ltP2_trans h h2) ltP2_irr⟩
  · rw [h1, h2]; exact ⟨fun h => absurd h (by decide), fun h => absurd h ltP2_irr⟩
  · rw [h1]; exact ⟨fun _ => h2, fun _ => by decide⟩
theorem ltP2_tri (a b : V) : ltP2 a b ∨ a = b ∨ ltP2 b a := by
  rcases cmpV_val a b with ⟨h1, h2⟩ | ⟨h1, h2⟩ | ⟨h1, h2⟩
  · exact .inl h2
  · exact .inr (.inl h2)
  · exact .inr (.inr h2)
theorem cmpV_neg (a b : V) : cmpV b a = -cmpV a b := by
  rcases cmpV_val a b with ⟨h1, h2⟩ | ⟨h1, h2⟩ | ⟨h1, h2⟩ <;> rcases cmpV_val b a with ⟨h3, h4⟩ | ⟨h3, h4⟩ | ⟨h3, h4⟩
  · exact absurd (ltP2_trans h2 h4) ltP2_irr
  · rw [h4] at h2; exact absurd h2 ltP2_irr
  · rw [h1, h3]; rfl
  · rw [h2] at h4; exact absurd h4 ltP2_irr
  · rw [h1, h3]; rfl
  · rw [h2] at h4; exact absurd h4 ltP2_irr
  · rw [h1, h3]
  · rw [h4] at h2; exact absurd h2 ltP2_irr
  · exact absurd (ltP2_trans h2 h4) ltP2_irr
/-- Not behind. -/
def leP2 (a b : V) : Prop := ¬ ltP2 b a
theorem leP2_refl (a : V) : leP2 a a := ltP2_irr
theorem leP2_trans {a b c : V} (h : leP2 a b) (k : leP2 b c) : leP2 a c := fun h2 => by
  rcases ltP2_tri a b with h3 | h3 | h3
  · exact k (ltP2_trans h2 h3)
  · rw [h3] at h2; exact k h2
  · exact h h3
theorem leP2_total (a b : V) : leP2 a b ∨ leP2 b a := by
  rcases ltP2_tri a b with h | h | h
  · exact .inl fun k => ltP2_irr (ltP2_trans h k)
  · rw [h]; exact .inl (leP2_refl b)
  · exact .inr fun k => ltP2_irr (ltP2_trans h k)
theorem leP2_anti {a b : V} (h : leP2 a b) (k : leP2 b a) : a = b := by
  rcases ltP2_tri a b with h3 | h3 | h3
  · exact absurd h3 k
  · exact h3
  · exact absurd h3 h
theorem lt_le {a b : V} (h : ltP2 a b) : leP2 a b := fun k => ltP2_irr (ltP2_trans h k)
theorem cmpV_le {a b : V} : cmpV a b ≤ 0 ↔ leP2 a b := by
  rw [leP2, ← cmpV_gt]; omega
/-- A point of a segment lies between its ends in the order. -/
theorem at_le {a b : V} {t : Rat} (h0 : 0 ≤ t) (h1 : t ≤ 1) (h : leP2 a b) : leP2 a (a.at b t) ∧ leP2 (a.at b t) b := by
  by_cases e0 : t = 0
  · rw [e0, V.at_zero]; exact ⟨leP2_refl a, h⟩
  by_cases e1 : t = 1
  · rw [e1, V.at_one]; exact ⟨h, leP2_refl b⟩
  rw [← cmpV_le, ← cmpV_le, cmpV_step (by grind), cmpV_step' (by grind)]
  exact ⟨cmpV_le.2 h, cmpV_le.2 h⟩
/-- A point of the line that lies between the ends in the order is a point of the segment. -/
theorem le_at {a b p : V} (hab : a ≠ b) (hc : (b - a).cross (p - a) = 0) (h1 : leP2 a p) (h2 : leP2 p b) : ∃ t, (0 ≤ t ∧ t ≤ 1) ∧ p = a.at b t := by
  refine betw_at hab ?_
  unfold betwB
  have hm : 0 ≤ cmpV a p * cmpV p b := Int.mul_nonneg_of_nonpos_of_nonpos (cmpV_le.2 h1) (cmpV_le.2 h2)
  rw [hc, decide_eq_true (cmpQ_eq.2 rfl), decide_eq_true hm, decide_eq_true (show cmpV a b ≠ 0 from fun h => hab (cmpV_zero.1 h))]
  rfl
theorem at_swap (a b : V) (t : Rat) : b.at a t = a.at b (1 - t) := V.ext' (by simp only [V.at_x]; grind) (by simp only [V.at_y]; grind)
end Go.Sx
end
section
set_option linter.unusedVariables false
set_option linter.unusedSimpArgs false
namespace Go.Sx
/-! ### common points of two segments -/
/-- A point of a segment. -/
def onS (a b p : V) : Prop := ∃ t : Rat, (0 ≤ t ∧ t ≤ 1) ∧ p = a.at b t
theorem onS_swap {a b p : V} : onS a b p ↔ onS b a p := by
  constructor <;> rintro ⟨t, ⟨h0, h1⟩, rfl⟩ <;> exact ⟨1 - t, ⟨by grind, by grind⟩, by rw [at_swap]⟩
theorem onS_left (a b : V) : onS a b a := ⟨0, ⟨by grind, by grind⟩, (V.at_zero a b).symm⟩
theorem onS_right (a b : V) : onS a b b := ⟨1, ⟨by grind, by grind⟩, (V.at_one a b).symm⟩
theorem ord_le (a b : V) : leP2 (ordV a b).1 (ordV a b).2 ∧ (∀ p, onS (ordV a b).1 (ordV a b).2 p ↔ onS a b p) ∧ ((ordV a b = (a, b)) ∨ (ordV a b = (b, a))) := by
  unfold ordV
  by_cases h : cmpV a b > 0
  · rw [if_pos h]; exact ⟨lt_le (cmpV_gt.1 h), fun p => onS_swap, .inr rfl⟩
  · rw [if_neg h]; exact ⟨cmpV_le.1 (by show cmpV a b ≤ 0; omega), fun p => Iff.rfl, .inl rfl⟩
theorem onS_le {a b p : V} (h : leP2 a b) (hp : onS a b p) : leP2 a p ∧ leP2 p b := by
  obtain ⟨t, ⟨h0, h1⟩, rfl⟩ := hp; exact at_le h0 h1 h
theorem gt_le (a b : V) : leP2 a (gtV a b) ∧ leP2 b (gtV a b) ∧ (gtV a b = a ∨ gtV a b = b) ∧ ∀ p, leP2 a p → leP2 b p → leP2 (gtV a b) p := by
  unfold gtV
  by_cases h : cmpV a b < 0
  · rw [if_pos h]; exact ⟨lt_le (cmpV_lt.1 h), leP2_refl b, .inr rfl, fun p _ h => h⟩
  · rw [if_neg h]
    exact ⟨leP2_refl a, fun k => h (cmpV_lt.2 k), .inl rfl, fun p h _ => h⟩
theorem lt_le' (a b : V) : leP2 (ltV a b) a ∧ leP2 (ltV a b) b ∧ (ltV a b = a ∨ ltV a b = b) ∧ ∀ p, leP2 p a → leP2 p b → leP2 p (ltV a b) := by
  unfold ltV
  by_cases h : cmpV a b < 0
  · rw [if_pos h]; exact ⟨leP2_refl a, lt_le (cmpV_lt.1 h), .inl rfl, fun p h _ => h⟩
  · rw [if_neg h]
    exact ⟨fun k => h (cmpV_lt.2 k), leP2_refl b, .inr rfl, fun p _ h => h⟩
theorem unitB_iff {t : Rat} : unitB t = true ↔ 0 ≤ t ∧ t ≤ 1 := by
  unfold unitB; rw [Bool.and_eq_true, decide_eq_true_eq, decide_eq_true_eq, cmpQ_ge, cmpQ_le]
theorem cramer {a b c d : V} (h : (b - a).cross (d - c) ≠ 0) (t s : Rat) :
    a.at b t = c.at d s ↔ t = (c - a).cross (d - c) / (b - a).cross (d - c) ∧ s = (c - a).cross (b - a) / (b - a).cross (d - c) := by
  have e1 : (c - a).cross (d - c) / (b - a).cross (d - c) * (b - a).cross (d - c) = (c - a).cross (d - c) := Rat.div_mul_cancel h
  have e2 : (c - a).cross (b - a) / (b - a).cross (d - c) * (b - a).cross (d - c) = (c - a).cross (b - a) := Rat.div_mul_cancel h
  generalize (c - a).cross (d - c) / (b - a).cross (d - c) = T at e1 ⊢
  generalize (c - a).cross (b - a) / (b - a).cross (d - c) = U at e2 ⊢
  simp only [V.cross, V.sub_x, V.sub_y] at h e1 e2
  constructor
  · intro he
    have hx : a.x + (b.x - a.x) * t = c.x + (d.x - c.x) * s := congrArg V.x he
    have hy : a.y + (b.y - a.y) * t = c.y + (d.y - c.y) * s := congrArg V.y he
    constructor
    · have : (t - T) * ((b.x - a.x) * (d.y - c.y) - (b.y - a.y) * (d.x - c.x)) = 0 := by grind
      rcases Rat.mul_eq_zero.1 this with h2 | h2
      · grind
      · exact absurd h2 h
    · have : (s - U) * ((b.x - a.x) * (d.y - c.y) - (b.y - a.y) * (d.x - c.x)) = 0 := by grind
      rcases Rat.mul_eq_zero.1 this with h2 | h2
      · grind
      · exact absurd h2 h
  · rintro ⟨rfl, rfl⟩
    have kx : (a.x + (b.x - a.x) * t - (c.x + (d.x - c.x) * s)) * ((b.x - a.x) * (d.y - c.y) - (b.y - a.y) * (d.x - c.x)) = 0 := by grind
    have ky : (a.y + (b.y - a.y) * t - (c.y + (d.y - c.y) * s)) * ((b.x - a.x) * (d.y - c.y) - (b.y - a.y) * (d.x - c.x)) = 0 := by grind
    refine V.ext' ?_ ?_
    · show a.x + (b.x - a.x) * t = c.x + (d.x - c.x) * s
      rcases Rat.mul_eq_zero.1 kx with h2 | h2
      · grind
      · exact absurd h2 h
    · show a.y + (b.y - a.y) * t = c.y + (d.y - c.y) * s
      rcases Rat.mul_eq_zero.1 ky with h2 | h2
      · grind
      · exact absurd h2 h
theorem cross_at (a b c : V) (t : Rat) : (b - a).cross (a.at b t - c) = (b - a).cross (a - c) := by
  show (b.x - a.x) * (a.y + (b.y - a.y) * t - c.y) - (b.y - a.y) * (a.x + (b.x - a.x) * t - c.x) = (b.x - a.x) * (a.y - c.y) - (b.y - a.y) * (a.x - c.x)
  grind
/-- What meets. -/
theorem meet_pts {a b c d : V} (hab : a ≠ b) (hcd : c ≠ d) : (∀ x, meetV a b c d = some x → onS a b x.1 ∧ onS c d x.1 ∧ onS a b x.2 ∧ onS c d x.2 ∧ leP2 x.1 x.2 ∧ ∀ p, onS a b p → onS c d p → leP2 x.1 p ∧ leP2 p x.2) ∧ (meetV a b c d = none → ∀ p, onS a b p → onS c d p → False) := by
  unfold meetV
  by_cases hx : cmpQ ((b - a).cross (d - c)) 0 ≠ 0
  · rw [if_pos hx]
    have hne : (b - a).cross (d - c) ≠ 0 := fun h => hx (cmpQ_eq.2 h)
    by_cases hu : (!unitB ((c - a).cross (d - c) / (b - a).cross (d - c)) || !unitB ((c - a).cross (b - a) / (b - a).cross (d - c))) = true
    · rw [if_pos hu]
      refine ⟨(fun x h => by cases h), fun _ p => ?_⟩
      rintro ⟨t, ⟨h0, h1⟩, rfl⟩ ⟨s, ⟨k0, k1⟩, he⟩
      obtain ⟨e1, e2⟩ := (cramer hne t s).1 he
      rw [← e1, ← e2, unitB_iff.2 ⟨h0, h1⟩, unitB_iff.2 ⟨k0, k1⟩] at hu
      exact absurd hu (by decide)
    · rw [if_neg hu]
      simp only [Bool.or_eq_true, Bool.not_eq_true', not_or, Bool.not_eq_false] at hu
      obtain ⟨u1, u2⟩ := hu
      refine ⟨fun x h => ?_, (fun h => by cases h)⟩
      cases h
      have hon1 : onS a b (a.at b ((c - a).cross (d - c) / (b - a).cross (d - c))) := ⟨_, unitB_iff.1 u1, rfl⟩
      have hon2 : onS c d (a.at b ((c - a).cross (d - c) / (b - a).cross (d - c))) := ⟨_, unitB_iff.1 u2, (cramer hne _ _).2 ⟨rfl, rfl⟩⟩
      refine ⟨hon1, hon2, hon1, hon2, leP2_refl _, fun p => ?_⟩
      rintro ⟨t, ⟨h0, h1⟩, rfl⟩ ⟨s, ⟨k0, k1⟩, he⟩
      obtain ⟨e1, e2⟩ := (cramer hne t s).1 he
      rw [← e1]; exact ⟨leP2_refl _, leP2_refl _⟩
  · rw [if_neg hx]
    have h0 : (b - a).cross (d - c) = 0 := cmpQ_eq.1 (Decidable.not_not.1 hx)
    by_cases hy : cmpQ ((b - a).cross (c - a)) 0 ≠ 0
    · rw [if_pos hy]
      refine ⟨(fun x h => by cases h), fun _ p => ?_⟩
      rintro ⟨t, _, rfl⟩ ⟨s, _, he⟩
      apply hy
      rw [cmpQ_eq]
      have hx : a.x + (b.x - a.x) * t = c.x + (d.x - c.x) * s := congrArg V.x he
      have hy : a.y + (b.y - a.y) * t = c.y + (d.y - c.y) * s := congrArg V.y he
      simp only [V.cross, V.sub_x, V.sub_y] at h0 ⊢
      grind
    · rw [if_neg hy]
      have h1 : (b - a).cross (c - a) = 0 := cmpQ_eq.1 (Decidable.not_not.1 hy)
      obtain ⟨o1, o2, o3⟩ := ord_le a b
      obtain ⟨q1, q2, q3⟩ := ord_le c d
      obtain ⟨g1, g2, g3, g4⟩ := gt_le (ordV a b).1 (ordV c d).1
      obtain ⟨l1, l2, l3, l4⟩ := lt_le' (ordV a b).2 (ordV c d).2
      have ra : (d - c).cross (a - c) = 0 := by
        have hd : b.x - a.x ≠ 0 ∨ b.y - a.y ≠ 0 := by
          by_cases k : b.x = a.x
          · right; intro k2; exact hab (V.ext' k.symm (by grind))
          · left; grind
        simp only [V.cross, V.sub_x, V.sub_y] at h0 h1 ⊢
        rcases hd with k | k
        · have : (b.x - a.x) * ((d.x - c.x) * (a.y - c.y) - (d.y - c.y) * (a.x - c.x)) = 0 := by grind
          rcases Rat.mul_eq_zero.1 this with k2 | k2
          · exact absurd k2 k
          · exact k2
        · have : (b.y - a.y) * ((d.x - c.x) * (a.y - c.y) - (d.y - c.y) * (a.x - c.x)) = 0 := by grind
          rcases Rat.mul_eq_zero.1 this with k2 | k2
          · exact absurd k2 k
          · exact k2
      have onl : ∀ p, (p = a ∨ p = b ∨ p = c ∨ p = d) → (b - a).cross (p - a) = 0 ∧ (d - c).cross (p - c) = 0 := by
        intro p hp
        simp only [V.cross, V.sub_x, V.sub_y] at h0 h1 ra ⊢
        rcases hp with rfl | rfl | rfl | rfl
        · exact ⟨by grind, ra⟩
        · exact ⟨by grind, by grind⟩
        · exact ⟨h1, by grind⟩
        · exact ⟨by grind, by grind⟩
      have ends : ∀ p, (p = (ordV a b).1 ∨ p = (ordV a b).2 ∨ p = (ordV c d).1 ∨ p = (ordV c d).2) → (p = a ∨ p = b ∨ p = c ∨ p = d) := by
        intro p hp
        rcases o3 with e | e <;> rcases q3 with f | f <;> rw [e, f] at hp <;> simp only at hp <;> grind
      have on2 : ∀ p, (p = (ordV a b).1 ∨ p = (ordV a b).2 ∨ p = (ordV c d).1 ∨ p = (ordV c d).2) → leP2 (ordV a b).1 p → leP2 p (ordV a b).2 → leP2 (ordV c d).1 p → leP2 p (ordV c d).2 → onS a b p ∧ onS c d p := by
        intro p hp k1 k2 k3 k4
        obtain ⟨c1, c2⟩ := onl p (ends p hp)
        constructor
        · rw [← o2]
          refine le_at ?_ ?_ k1 k2
          · rcases o3 with e | e <;> rw [e]
            · exact hab
            · exact fun h => hab h.symm
          · rcases o3 with e | e <;> rw [e]
            · exact c1
            · simp only [V.cross, V.sub_x, V.sub_y] at c1 ⊢; grind
        · rw [← q2]
          refine le_at ?_ ?_ k3 k4
          · rcases q3 with e | e <;> rw [e]
            · exact hcd
            · exact fun h => hcd h.symm
          · rcases q3 with e | e <;> rw [e]
            · exact c2
            · simp only [V.cross, V.sub_x, V.sub_y] at c2 ⊢; grind
      have both : ∀ p, onS a b p → onS c d p → leP2 (gtV (ordV a b).1 (ordV c d).1) p ∧ leP2 p (ltV (ordV a b).2 (ordV c d).2) := fun p p1 p2 => by
        obtain ⟨k1, k2⟩ := onS_le o1 ((o2 p).2 p1)
        obtain ⟨k3, k4⟩ := onS_le q1 ((q2 p).2 p2)
        exact ⟨g4 p k1 k3, l4 p k2 k4⟩
      by_cases hz : cmpV (gtV (ordV a b).1 (ordV c d).1) (ltV (ordV a b).2 (ordV c d).2) > 0
      · rw [if_pos hz]
        refine ⟨(fun x h => by cases h), fun _ p p1 p2 => ?_⟩
        obtain ⟨k1, k2⟩ := both p p1 p2
        exact leP2_trans k1 k2 (cmpV_gt.1 hz)
      · rw [if_neg hz]
        have hle : leP2 (gtV (ordV a b).1 (ordV c d).1) (ltV (ordV a b).2 (ordV c d).2) := cmpV_le.1 (by omega)
        refine ⟨fun x h => ?_, (fun h => by cases h)⟩
        cases h
        have e1 := on2 (gtV (ordV a b).1 (ordV c d).1) (by rcases g3 with e | e <;> rw [e] <;> simp) g1 (leP2_trans hle l1) g2 (leP2_trans hle l2)
        have e2 := on2 (ltV (ordV a b).2 (ordV c d).2) (by rcases l3 with e | e <;> rw [e] <;> simp) (leP2_trans g1 hle) l1 (leP2_trans g2 hle) l2
        exact ⟨e1.1, e1.2, e2.1, e2.2, hle, both⟩
theorem meet_iff {a b c d : V} (hab : a ≠ b) (hcd : c ≠ d) : (meetV a b c d).isSome = true ↔ ∃ p, onS a b p ∧ onS c d p := by
  obtain ⟨h1, h2⟩ := meet_pts hab hcd
  cases hm : meetV a b c d with
  | none => exact ⟨fun h => absurd h (by simp), fun ⟨p, p1, p2⟩ => (h2 hm p p1 p2).elim⟩
  | some x => obtain ⟨k1, k2, _⟩ := h1 x hm; exact ⟨fun _ => ⟨x.1, k1, k2⟩, fun _ => rfl⟩
end Go.Sx
end
section
set_option linter.unusedVariables false
set_option linter.unusedSimpArgs false
namespace Go.Sx
/-! ### distances of points, of points from segments, of segments -/
structure Met (D : V → V → V → Rat) (δ : V → V → Rat) : Prop where
  le : ∀ {a b p q : V}, a ≠ b → onS a b q → D a b p ≤ δ q p
  at_ : ∀ (a b p : V), ∃ q, onS a b q ∧ D a b p = δ q p
  comm : ∀ p q, δ p q = δ q p
  nn : ∀ p q, 0 ≤ δ p q
  zero : ∀ p q, δ p q = 0 → p = q
  self : ∀ p, δ p p = 0
  move : ∀ p q v, δ (p + v) (q + v) = δ p q
theorem euMet : Met euPt V.dist where
  le := fun h hq => by obtain ⟨t, ⟨h0, h1⟩, rfl⟩ := hq; exact euPt_le h h0 h1
  at_ := fun a b p => ⟨nearV a b p, ⟨nearT a b p, nearT_unit a b p, nearV_at a b p⟩, by unfold euPt; rw [V.dist_comm]⟩
  comm := V.dist_comm
  nn := V.dist_nonneg
  zero := fun p q h => V.dist_zero (by rw [h]; exact Rat.le_refl)
  self := V.dist_self
  move := fun p q v => by rw [V.dist_eq, V.dist_eq]; simp only [V.add_x, V.add_y]; grind
theorem sq_zero' {p q : V} (h : p.sq q = 0) : p = q := by
  obtain ⟨⟨h1, h2⟩, h3, h4⟩ := sq_ge p q
  rw [h] at h1 h2 h3 h4
  exact V.ext' (by grind) (by grind)
theorem sq_move (p q v : V) : (p + v).sq (q + v) = p.sq q := by
  refine Rat.le_antisymm (sq_le.2 ?_) (sq_le.2 ?_)
  · obtain ⟨⟨h1, h2⟩, h3, h4⟩ := sq_ge p q
    simp only [V.add_x, V.add_y]
    exact ⟨⟨by grind, by grind⟩, by grind, by grind⟩
  · obtain ⟨⟨h1, h2⟩, h3, h4⟩ := sq_ge (p + v) (q + v)
    simp only [V.add_x, V.add_y] at h1 h2 h3 h4
    exact ⟨⟨by grind, by grind⟩, by grind, by grind⟩
theorem sqMet : Met sqPt V.sq where
  le := fun h hq => by obtain ⟨t, ⟨h0, h1⟩, rfl⟩ := hq; exact sqPt_le h0 h1
  at_ := fun a b p => by obtain ⟨t, h, e⟩ := sqPt_at a b p; exact ⟨_, ⟨t, h, rfl⟩, e⟩
  comm := sq_comm
  nn := sq_nn
  zero := fun p q h => sq_zero' h
  self := fun p => Rat.le_antisymm (sq_le.2 (by grind)) (sq_nn p p)
  move := sq_move
theorem at_move (a b v : V) (t : Rat) : (a + v).at (b + v) t = a.at b t + v := V.ext' (by simp only [V.at_x, V.add_x]; grind) (by simp only [V.at_y, V.add_y]; grind)
theorem onS_move {a b p v : V} : onS (a + v) (b + v) (p + v) ↔ onS a b p := by
  constructor
  · rintro ⟨t, h, e⟩
    refine ⟨t, h, ?_⟩
    rw [at_move] at e
    have e1 : p.x + v.x = (a.at b t).x + v.x := congrArg V.x e
    have e2 : p.y + v.y = (a.at b t).y + v.y := congrArg V.y e
    exact V.ext' (by grind) (by grind)
  · rintro ⟨t, h, rfl⟩; exact ⟨t, h, (at_move a b v t).symm⟩
theorem sub_add_v (q v : V) : q - v + v = q := V.ext' (by simp only [V.add_x, V.sub_x]; grind) (by simp only [V.add_y, V.sub_y]; grind)
theorem add_ne {a b v : V} (h : a ≠ b) : a + v ≠ b + v := fun e => h (V.ext' (by have := congrArg V.x e; simp only [V.add_x] at this; grind) (by have := congrArg V.y e; simp only [V.add_y] at this; grind))
section
variable {D : V → V → V → Rat} {δ : V → V → Rat}
theorem Met.swap (m : Met D δ) {a b : V} (h : a ≠ b) (p : V) : D b a p = D a b p := by
  obtain ⟨q, h1, e1⟩ := m.at_ a b p
  obtain ⟨r, h2, e2⟩ := m.at_ b a p
  refine Rat.le_antisymm ?_ ?_
  · rw [e1]; exact m.le (fun e => h e.symm) (onS_swap.1 h1)
  · rw [e2]; exact m.le h (onS_swap.1 h2)
theorem Met.shift (m : Met D δ) {a b : V} (h : a ≠ b) (p v : V) : D (a + v) (b + v) (p + v) = D a b p := by
  obtain ⟨q, h1, e1⟩ := m.at_ a b p
  obtain ⟨r, h2, e2⟩ := m.at_ (a + v) (b + v) (p + v)
  refine Rat.le_antisymm ?_ ?_
  · rw [e1, ← m.move q p v]; exact m.le (add_ne h) (onS_move.2 h1)
  · rw [e2, ← sub_add_v r v, m.move]
    rw [← sub_add_v r v] at h2
    exact m.le h (onS_move.1 h2)
theorem Met.dnn (m : Met D δ) (a b p : V) : 0 ≤ D a b p := by
  obtain ⟨q, _, e⟩ := m.at_ a b p
  rw [e]; exact m.nn _ _
theorem Met.dzero (m : Met D δ) {a b : V} (h : a ≠ b) (p : V) : D a b p = 0 ↔ onS a b p := by
  constructor
  · intro h0
    obtain ⟨q, h1, e⟩ := m.at_ a b p
    rw [e] at h0
    rw [← m.zero q p h0]; exact h1
  · intro h1
    have := m.le (p := p) h h1
    rw [m.self] at this
    exact Rat.le_antisymm this (m.dnn a b p)
end
/-- The least of four. -/
theorem ext4_le {a b c d m : Rat} : m ≤ extQ (-1) a [b, c, d] ↔ m ≤ a ∧ m ≤ b ∧ m ≤ c ∧ m ≤ d := by
  have one : ∀ x y : Rat, cmpQ y x = -1 ↔ y < x := fun x y => by
    rcases cmpQ_val y x with ⟨h1, h2⟩ | ⟨h1, h2⟩ | ⟨h1, h2⟩
    · exact ⟨fun _ => h2, fun _ => h1⟩
    · rw [h1]; exact ⟨fun h => absurd h (by decide), fun h => by grind⟩
    · rw [h1]; exact ⟨fun h => absurd h (by decide), fun h => by grind⟩
  simp only [extQ, one]
  split <;> split <;> split <;> constructor <;> intro h <;> grind
theorem ext4_eq {a b c d a' b' c' d' : Rat} (h : ∀ m, (m ≤ a ∧ m ≤ b ∧ m ≤ c ∧ m ≤ d) ↔ (m ≤ a' ∧ m ≤ b' ∧ m ≤ c' ∧ m ≤ d')) : extQ (-1) a [b, c, d] = extQ (-1) a' [b', c', d'] :=
  Rat.le_antisymm (ext4_le.2 ((h _).1 (ext4_le.1 Rat.le_refl))) (ext4_le.2 ((h _).2 (ext4_le.1 Rat.le_refl)))
theorem ext4_mem (a b c d : Rat) : extQ (-1) a [b, c, d] = a ∨ extQ (-1) a [b, c, d] = b ∨ extQ (-1) a [b, c, d] = c ∨ extQ (-1) a [b, c, d] = d := by
  simp only [extQ]
  split <;> split <;> split <;> simp
end Go.Sx
end
section
set_option linter.unusedVariables false
set_option linter.unusedSimpArgs false
namespace Go.Sx
section
variable {D : V → V → V → Rat} {δ : V → V → Rat} {a b c d : V}
theorem meet_swap (hab : a ≠ b) (hcd : c ≠ d) : (meetV c d a b).isSome = (meetV a b c d).isSome := by
  rw [Bool.eq_iff_iff, meet_iff hab hcd, meet_iff hcd hab]
  exact ⟨fun ⟨p, h, k⟩ => ⟨p, k, h⟩, fun ⟨p, h, k⟩ => ⟨p, k, h⟩⟩
theorem meet_back (hab : a ≠ b) (hcd : c ≠ d) : (meetV a b d c).isSome = (meetV a b c d).isSome := by
  rw [Bool.eq_iff_iff, meet_iff hab hcd, meet_iff hab (fun e => hcd e.symm)]
  exact ⟨fun ⟨p, h, k⟩ => ⟨p, h, onS_swap.1 k⟩, fun ⟨p, h, k⟩ => ⟨p, h, onS_swap.1 k⟩⟩
theorem meet_move (hab : a ≠ b) (hcd : c ≠ d) (v : V) : (meetV (a + v) (b + v) (c + v) (d + v)).isSome = (meetV a b c d).isSome := by
  rw [Bool.eq_iff_iff, meet_iff hab hcd, meet_iff (add_ne hab) (add_ne hcd)]
  refine ⟨fun ⟨p, h, k⟩ => ⟨p - v, ?_, ?_⟩, fun ⟨p, h, k⟩ => ⟨p + v, onS_move.2 h, onS_move.2 k⟩⟩
  · rw [← sub_add_v p v] at h; exact onS_move.1 h
  · rw [← sub_add_v p v] at k; exact onS_move.1 k
theorem segD_swap (hab : a ≠ b) (hcd : c ≠ d) : segD D c d a b = segD D a b c d := by
  unfold segD
  rw [meet_swap hab hcd]
  split
  · rfl
  · exact ext4_eq fun m => by grind
theorem segD_back (m : Met D δ) (hab : a ≠ b) (hcd : c ≠ d) : segD D a b d c = segD D a b c d := by
  unfold segD
  rw [meet_back hab hcd]
  split
  · rfl
  · rw [m.swap hcd a, m.swap hcd b]
    exact ext4_eq fun m => by grind
theorem segD_move (m : Met D δ) (hab : a ≠ b) (hcd : c ≠ d) (v : V) : segD D (a + v) (b + v) (c + v) (d + v) = segD D a b c d := by
  unfold segD
  rw [meet_move hab hcd, m.shift hab, m.shift hab, m.shift hcd, m.shift hcd]
theorem segD_nn (m : Met D δ) : 0 ≤ segD D a b c d := by
  unfold segD
  split
  · exact Rat.le_refl
  · exact ext4_le.2 ⟨m.dnn _ _ _, m.dnn _ _ _, m.dnn _ _ _, m.dnn _ _ _⟩
theorem segD_zero (m : Met D δ) (hab : a ≠ b) (hcd : c ≠ d) : segD D a b c d = 0 ↔ (meetV a b c d).isSome = true := by
  unfold segD
  split
  · rename_i h; exact ⟨fun _ => h, fun _ => rfl⟩
  · rename_i h
    refine ⟨fun h0 => ?_, fun h1 => absurd h1 h⟩
    exfalso; apply h
    rw [meet_iff hab hcd]
    rcases ext4_mem (D a b c) (D a b d) (D c d a) (D c d b) with e | e | e | e <;> rw [e] at h0
    · exact ⟨c, (m.dzero hab c).1 h0, onS_left c d⟩
    · exact ⟨d, (m.dzero hab d).1 h0, onS_right c d⟩
    · exact ⟨a, onS_left a b, (m.dzero hcd a).1 h0⟩
    · exact ⟨b, onS_right a b, (m.dzero hcd b).1 h0⟩
end
/-- Both metrics of segments. -/
theorem mul_mono {x y : Rat} (h0 : 0 ≤ x) (h : x ≤ y) : x * x ≤ y * y := mul_self_le h (by grind)
theorem segD_both {a b c d : V} (hab : a ≠ b) (hcd : c ≠ d) : segD sqPt a b c d * segD sqPt a b c d ≤ segD euPt a b c d ∧ segD euPt a b c d ≤ segD sqPt a b c d * segD sqPt a b c d + segD sqPt a b c d * segD sqPt a b c d := by
  unfold segD
  split
  · exact ⟨by grind, by grind⟩
  · obtain ⟨a1, b1⟩ := sqPt_eu (p := c) hab
    obtain ⟨a2, b2⟩ := sqPt_eu (p := d) hab
    obtain ⟨a3, b3⟩ := sqPt_eu (p := a) hcd
    obtain ⟨a4, b4⟩ := sqPt_eu (p := b) hcd
    have n1 := sqPt_nn a b c
    have n2 := sqPt_nn a b d
    have n3 := sqPt_nn c d a
    have n4 := sqPt_nn c d b
    obtain ⟨l1, l2, l3, l4⟩ := ext4_le.1 (Rat.le_refl (a := extQ (-1) (sqPt a b c) [sqPt a b d, sqPt c d a, sqPt c d b]))
    have hx0 : 0 ≤ extQ (-1) (sqPt a b c) [sqPt a b d, sqPt c d a, sqPt c d b] := ext4_le.2 ⟨n1, n2, n3, n4⟩
    obtain ⟨k1, k2, k3, k4⟩ := ext4_le.1 (Rat.le_refl (a := extQ (-1) (euPt a b c) [euPt a b d, euPt c d a, euPt c d b]))
    have hmem := ext4_mem (sqPt a b c) (sqPt a b d) (sqPt c d a) (sqPt c d b)
    generalize extQ (-1) (sqPt a b c) [sqPt a b d, sqPt c d a, sqPt c d b] = x at *
    constructor
    · refine ext4_le.2 ⟨?_, ?_, ?_, ?_⟩
      · exact Rat.le_trans (mul_mono hx0 l1) a1
      · exact Rat.le_trans (mul_mono hx0 l2) a2
      · exact Rat.le_trans (mul_mono hx0 l3) a3
      · exact Rat.le_trans (mul_mono hx0 l4) a4
    · rcases hmem with e | e | e | e <;> rw [e]
      · exact Rat.le_trans k1 b1
      · exact Rat.le_trans k2 b2
      · exact Rat.le_trans k3 b3
      · exact Rat.le_trans k4 b4
end Go.Sx
end
section
set_option maxRecDepth 10000
set_option maxHeartbeats 2000000
set_option linter.unusedSimpArgs false
set_option linter.unusedVariables false
set_option pp.deepTerms false
set_option pp.deepTerms.threshold 6
namespace Go.Sx
open Go Go.Proofs
theorem dchk2_zero {s t : Sg} (h1 : s.A.ok) (h2 : s.B.ok) (h3 : ¬ degen s) (h4 : t.A.ok) (h5 : t.B.ok) (h6 : ¬ degen t) : dchk [] [sgP s, sgP t] = 0 := by
  unfold dchk
  rw [if_neg (by simp [allP, endsL, h1, h2, h4, h5]), if_neg (by simp [sgE, h3, h6])]
/-- A segment that the distances take. -/
structure SgOk (s : Sg) : Prop where
  sm : s.sm KS
  a : s.A.ok
  b : s.B.ok
  nd : ¬ degen s
theorem SgOk.ne {s : Sg} (h : SgOk s) : s.A.v ≠ s.B.v := fun e => h.nd (cmpV_zero.2 e)
theorem dSg_ok {D : V → V → V → Rat} {s t : Sg} (hs : SgOk s) (ht : SgOk t) : dSg D s t = (segD D s.A.v s.B.v t.A.v t.B.v, 0) := by
  unfold dSg; rw [if_neg (by rw [dchk2_zero hs.a hs.b hs.nd ht.a ht.b ht.nd]; decide)]
theorem segD_sz {D : V → V → V → Rat} (hz : ∀ {A B p}, SzV KS A → SzV KS B → SzV KS p → Sz 1000000 (D A B p)) {a b c d : V} (ha : SzV KS a) (hb : SzV KS b) (hc : SzV KS c) (hd : SzV KS d) : Sz 1000000 (segD D a b c d) := by
  unfold segD
  split
  · exact (show Sz 1 (0 : Rat) from ⟨by decide, by decide⟩).le (by decide)
  · refine extQ_sz _ _ (hz ha hb hc) (fun r hr => ?_)
    simp only [List.mem_cons, List.not_mem_nil, or_false] at hr
    rcases hr with rfl | rfl | rfl
    · exact hz ha hb hd
    · exact hz hc hd ha
    · exact hz hc hd hb
def mvS (s : Sg) (v : Pt) : Sg := ⟨PQ (s.A.v + v.v), PQ (s.B.v + v.v)⟩
theorem c_move26 (a : Addr) (s : Sg) (v : Pt) (hs : s.sm KK) (hv : v.sm KK) : FnM PP f_narrowslaw26_DistanceSymmetric_1 [sV s, ptrV a] (facts [SlRes (some a) (ptC v)]) (retsV (sV (mvS s v))) := by
  refine FnS.of TBgood mixed h_narrowslaw26_DistanceSymmetric_1 rfl rfl (Nat.le_of_ble_eq_true rfl) (by simp [SlRes.ok]) ?_
  intro w hw
  obtain ⟨b, o, rfl⟩ := slf_addr (facts_one hw) (by simp [ptC])
  conv => whnf
  refine DrawVC.quiet (by kernel_rfl) ?_
  conv => whnf
  refine LoadVC.row (off := 0) (List.mem_singleton.2 rfl) (Addr_add0 _ _) (Nat.le_refl _) (by decide) (fun h => by cases h) ?_
  conv => whnf
  refine CallVCd.fn (c_vAdd s.A v hs.1 hv) rfl ?_
  conv => whnf
  refine LoadVC.row (off := 0) (List.mem_singleton.2 rfl) (Addr_add0 _ _) (Nat.le_refl _) (by decide) (fun h => by cases h) ?_
  conv => whnf
  refine CallVCd.fn (c_vAdd s.B v hs.2 hv) rfl ?_
  conv => whnf
  exact postV_one rfl
def prC (e : Sg × Sg) : List Value := sgC (sgP e.1) ++ sgC (sgP e.2)
theorem prC_len (e : Sg × Sg) : (prC e).length = 24 := rfl
theorem law_DistanceSymmetric (s t : Sg) (v : Pt) : Fn PP f_narrowslaw26_DistanceSymmetric [sV s, sV t, pV v] (.bool true) := by
  refine Fn.of TBgood mixed h_narrowslaw26_DistanceSymmetric rfl rfl (Nat.le_of_ble_eq_true rfl) ?_
  intro w
  conv => whnf
  have hv := fun A c (hc : 2 ≤ c) => c_valid A c [sgP s, sgP t] (by simp)
  refine CallVC.v (hv none 2 (Nat.le_refl _)).enters (CallV.sl1 (x := .o (.s 25 0 2 2)) (fun z => [z]) (RdA.box rfl (Nat.le_refl _)) (List.mem_cons_self ..) (fun _ => rfl) hv) ?_
  rw [show (!([sgP s, sgP t].any fun e => badS (sgE e))) = !(badS s || badS t) by simp [sgE]]
  cases hb : (badS s || badS t) with
  | true =>
    conv => whnf
    refine CallVC.fn c_awake rfl ?_
    conv => whnf
    exact postV_one rfl
  | false =>
  rw [Bool.or_eq_false_iff] at hb
  obtain ⟨sA12, sB12, sAo, sBo, sd⟩ := badS_ok hb.1
  obtain ⟨tA12, tB12, tAo, tBo, td⟩ := badS_ok hb.2
  conv => whnf
  have hg := fun A c (hc : 1 ≤ c) => c_great A c [v] (by simp)
  refine CallVC.v (hg none 1 (Nat.le_refl _)).enters (CallV.sl1 (x := .o (.s 30 0 1 1)) (fun z => [z]) (RdA.box rfl (Nat.le_refl _)) (List.mem_cons_self ..) (fun _ => rfl) hg) ?_
  rw [show [v].any (bigP 12) = bigP 12 v by simp]
  cases hgr : bigP 12 v with
  | true =>
    conv => whnf
    refine CallVC.fn c_awake rfl ?_
    conv => whnf
    exact postV_one rfl
  | false =>
  have hv12 : v.sm 12 := bigP_sm hgr
  conv => whnf
  refine CallVC.fn (c_vCheck v (hv12.le (by decide))) rfl ?_
  by_cases hvo : v.ok
  rotate_left
  · rw [if_neg hvo]
    conv => whnf
    refine CallVC.fn c_awake rfl ?_
    conv => whnf
    exact postV_one rfl
  rw [if_pos hvo]
  have oks : SgOk s := ⟨⟨sA12.le (by decide), sB12.le (by decide)⟩, sAo, sBo, sd⟩
  have okt : SgOk t := ⟨⟨tA12.le (by decide), tB12.le (by decide)⟩, tAo, tBo, td⟩
  have hsne := oks.ne
  have htne := okt.ne
  have zv : SzV 12 v.v := hv12.sz (by decide)
  have zsA : SzV 12 s.A.v := sA12.sz (by decide)
  have zsB : SzV 12 s.B.v := sB12.sz (by decide)
  have ztA : SzV 12 t.A.v := tA12.sz (by decide)
  have ztB : SzV 12 t.B.v := tB12.sz (by decide)
  have okb : SgOk ⟨t.B, t.A⟩ := ⟨⟨okt.sm.2, okt.sm.1⟩, tBo, tAo, fun h => htne (cmpV_zero.1 h).symm⟩
  have oksm : SgOk (mvS s v) := ⟨⟨(zsA.add zv).q.le (by decide), (zsB.add zv).q.le (by decide)⟩, PQ_ok _, PQ_ok _, fun h => by
    have := cmpV_zero.1 h; simp only [mvS, PQ_v] at this; exact add_ne hsne this⟩
  have oktm : SgOk (mvS t v) := ⟨⟨(ztA.add zv).q.le (by decide), (ztB.add zv).q.le (by decide)⟩, PQ_ok _, PQ_ok _, fun h => by
    have := cmpV_zero.1 h; simp only [mvS, PQ_v] at this; exact add_ne htne this⟩
  have hprs : ∀ e ∈ [(t, s), (s, (⟨t.B, t.A⟩ : Sg)), (mvS s v, mvS t v)], SgOk e.1 ∧ SgOk e.2 ∧ segD euPt e.1.A.v e.1.B.v e.2.A.v e.2.B.v = segD euPt s.A.v s.B.v t.A.v t.B.v ∧ segD sqPt e.1.A.v e.1.B.v e.2.A.v e.2.B.v = segD sqPt s.A.v s.B.v t.A.v t.B.v := fun e he => by
    simp only [List.mem_cons, List.not_mem_nil, or_false] at he
    rcases he with rfl | rfl | rfl
    · exact ⟨okt, oks, segD_swap hsne htne, segD_swap hsne htne⟩
    · exact ⟨oks, okb, segD_back euMet hsne htne, segD_back sqMet hsne htne⟩
    · refine ⟨oksm, oktm, ?_, ?_⟩ <;> simp only [mvS, PQ_v]
      · exact segD_move euMet hsne htne v.v
      · exact segD_move sqMet hsne htne v.v
  have zak : Sz 1000000 (segD euPt s.A.v s.B.v t.A.v t.B.v) := segD_sz (fun a b c => euPt_sz a b c) (zsA.le (by decide)) (zsB.le (by decide)) (ztA.le (by decide)) (ztB.le (by decide))
  have zxk : Sz 1000000 (segD sqPt s.A.v s.B.v t.A.v t.B.v) := segD_sz (fun a b c => sqPt_sz a b c) (zsA.le (by decide)) (zsB.le (by decide)) (ztA.le (by decide)) (ztB.le (by decide))
  obtain ⟨e1, e2⟩ := segD_both hsne htne
  have za0 := segD_zero euMet hsne htne
  have zx0 := segD_zero sqMet hsne htne
  conv => whnf
  refine CallVC.fn (c_dSegments s t oks.sm okt.sm) rfl ?_
  rw [dSg_ok oks okt]
  conv => whnf
  refine CallVC.fn (c_dSquareSegments s t oks.sm okt.sm) rfl ?_
  rw [dSg_ok oks okt]
  generalize segD euPt s.A.v s.B.v t.A.v t.B.v = a at *
  generalize segD sqPt s.A.v s.B.v t.A.v t.B.v = x at *
  conv => whnf
  refine DrawVC.quiet (by kernel_rfl) ?_
  conv => whnf
  refine CallVCd.v (c_move26 ⟨0, 0, none⟩ s v (oks.sm.1.le (by decide) |> fun h => ⟨h, oks.sm.2.le (by decide)⟩) (hv12.le (by decide))).enters (CallV.p1 (k := 5) (fun z => [sV s, z]) rfl (List.mem_cons_of_mem _ (List.mem_cons_self ..)) (fun _ => rfl) (fun a => c_move26 a s v ⟨oks.sm.1.le (by decide), oks.sm.2.le (by decide)⟩ (hv12.le (by decide)))) ?_
  conv => whnf
  refine CallVCd.v (c_move26 ⟨0, 0, none⟩ t v ⟨okt.sm.1.le (by decide), okt.sm.2.le (by decide)⟩ (hv12.le (by decide))).enters (CallV.p1 (k := 5) (fun z => [sV t, z]) rfl (List.mem_cons_of_mem _ (List.mem_cons_self ..)) (fun _ => rfl) (fun a => c_move26 a t v ⟨okt.sm.1.le (by decide), okt.sm.2.le (by decide)⟩ (hv12.le (by decide)))) ?_
  conv => whnf
  refine sexec_loop (ι := Nat) (fun i => ⟨[(3, .o (.p 3 0)), (4, .o (.p 4 0)), (7, .o (.p 7 0)), (8, .o (.v (.int .i64 0))), (9, .o (.p 9 0)), (10, .o (.v (.int .i64 0))), (70, .o (.s 70 0 3 3)), (71, .o (.v (.int .i64 3))), (72, .o (.v (.int .i64 i)))], [(3, sgB s), (4, sgB t), (7, ratM (Q a)), (9, ratM (Q x)), (70, .sym (rowV prC [(t, s), (s, (⟨t.B, t.A⟩ : Sg)), (mvS s v, mvS t v)]) t_ar2_api_Segment)], []⟩)
    (fun i => i ≤ 3) (fun i => 3 - i) 0 (Nat.zero_le _)
    (SLe.id ⟨rfl, rfl, rfl, rfl, rfl, rfl, rfl, rfl, rfl, trivial⟩ ⟨⟨_, rfl, .refl _⟩, ⟨_, rfl, .refl _⟩, ⟨_, rfl, .refl _⟩, ⟨_, rfl, .refl _⟩, ⟨_, rfl, .sym _ rfl⟩, trivial⟩ (fun R hR => hR)) ?_
  rintro i hi
  conv => whnf
  refine br_split ?_ ?_
  · intro h
    have hi2 : i < 3 := by
      have : (i : Int) < (3 : Int) := of_decide_eq_true h
      omega
    conv => whnf
    refine ⟨by show 0 ≤ (i : Int) ∧ (i : Int) < ((3 : Nat) : Int); omega, ?_⟩
    conv => whnf
    refine RowVC.elem prC prC_len (k := i) (by show 0 + (i : Int).toNat * 24 = i * 24; rw [Int.toNat_natCast]; omega) (by simp; omega) (by decide) (fun h => by cases h) ?_
    intro e he
    obtain ⟨ok1, ok2, f1, f2⟩ := hprs e (List.mem_of_getElem? he)
    conv => whnf
    refine ⟨by decide, ?_⟩
    conv => whnf
    refine ⟨by decide, ?_⟩
    conv => whnf
    refine CallVC.fn (c_dSegments e.1 e.2 ok1.sm ok2.sm) rfl ?_
    rw [dSg_ok ok1 ok2, f1]
    conv => whnf
    refine ⟨by decide, ?_⟩
    conv => whnf
    refine ⟨by decide, ?_⟩
    conv => whnf
    refine CallVC.fn (c_dSquareSegments e.1 e.2 ok1.sm ok2.sm) rfl ?_
    rw [dSg_ok ok1 ok2, f2]
    conv => whnf
    refine br_false (congrArg (!·) ((eqR (Q a) (Q a)).trans (decide_eq_true rfl))) ?_
    conv => whnf
    refine br_false (congrArg (!·) ((eqR (Q x) (Q x)).trans (decide_eq_true rfl))) ?_
    conv => whnf
    exact ⟨i + 1, by show i + 1 ≤ 3; omega, by show 3 - (i + 1) < 3 - i; omega, SLe.id ⟨rfl, rfl, rfl, rfl, rfl, rfl, rfl, rfl, some_wrap hi2 (by omega), trivial⟩ ⟨⟨_, rfl, .refl _⟩, ⟨_, rfl, .refl _⟩, ⟨_, rfl, .refl _⟩, ⟨_, rfl, .refl _⟩, ⟨_, rfl, .refl _⟩, trivial⟩ (fun R hR => hR)⟩
  · intro h
    conv => whnf
    refine CallVC.fn (c_Meet s t oks.sm okt.sm) rfl ?_
    rw [MeetV, if_neg (fun h => h.elim sd td)]
    generalize hm : meetV s.A.v s.B.v t.A.v t.B.v = o at za0 zx0 ⊢
    have zxx := zxk.mul zxk
    conv => whnf
    refine CallVC.fn (c_rMul (Q x) (Q x) (zxk.q.le (by decide)) (zxk.q.le (by decide))) rfl ?_
    rw [Q_v]
    conv => whnf
    refine CallVC.fn (c_rSign (Q a) (zak.q.le (by decide))) rfl ?_
    rw [Q_v]
    conv => whnf
    have hz : ∀ y : Rat, (y = 0 ↔ o.isSome = true) → (!((cmpQ y 0 == 0) == o.isSome)) = false := fun y hy => by
      cases ho : o.isSome with
      | true => rw [cmpQ_eq.2 (hy.2 ho)]; rfl
      | false =>
        have : cmpQ y 0 ≠ 0 := fun h => by rw [hy.1 (cmpQ_eq.1 h)] at ho; cases ho
        simp [this]
    refine br_false (hz a za0) ?_
    conv => whnf
    refine CallVC.fn (c_rSign (Q x) (zxk.q.le (by decide))) rfl ?_
    rw [Q_v]
    conv => whnf
    refine br_false (hz x zx0) ?_
    conv => whnf
    refine DrawVC.quiet (by kernel_rfl) ?_
    conv => whnf
    refine CallVCd.fn (c_rCompare (Q (x * x)) (Q a) (zxx.q.le (by decide)) (zak.q.le (by decide))) rfl ?_
    rw [Q_v, Q_v]
    conv => whnf
    refine br_true (decide_eq_true (cmpQ_le.2 e1)) ?_
    conv => whnf
    refine CallVCd.fn (c_rAdd (Q (x * x)) (Q (x * x)) (zxx.q.le (by decide)) (zxx.q.le (by decide))) rfl ?_
    rw [Q_v]
    conv => whnf
    refine CallVCd.fn (c_rCompare (Q a) (Q (x * x + x * x)) (zak.q.le (by decide)) ((zxx.add zxx).q.le (by decide))) rfl ?_
    rw [Q_v, Q_v]
    conv => whnf
    refine br_true (decide_eq_true (cmpQ_le.2 e2)) ?_
    conv => whnf
    refine CallVCd.fn c_awake rfl ?_
    conv => whnf
    exact postV_one rfl
end Go.Sx
end
section
/- What the arguments of the laws hold: numbers, points, segments; and the way from a law's walk to its statement. -/
set_option maxRecDepth 10000
set_option maxHeartbeats 2000000
set_option linter.unusedSimpArgs false
set_option linter.unusedVariables false
namespace Go.Sx
open Go Go.Proofs Go.ChangeShapes Go.WideShapes Go.RowKit
section
variable {H : Type} {enc : TypeId × Value → H} {w : World} {base : Nat} {spare : Nat → Bool} {held : Bool} {fuel : Nat} {cs : List Value} {x : DataW H × List MemPlace}
theorem cells_bool : PP.cellsOf t_bool = 1 := by kernel_rfl
theorem cells_string : PP.cellsOf t_string = 1 := by kernel_rfl
theorem cells_Rat : PP.cellsOf t_api_Rat = 3 := by kernel_rfl
theorem cells_Point : PP.cellsOf t_api_Point = 6 := by kernel_rfl
theorem cells_Segment : PP.cellsOf t_api_Segment = 12 := by kernel_rfl
theorem u_bool : PP.underlying t_bool = some .bool := (TBgood t_bool _ rfl).1.und
theorem u_string : PP.underlying t_string = some .string := (TBgood t_string _ rfl).1.und
theorem get_some {α : Type} {l : List α} {i : Nat} (h : i < l.length) : ∃ y, l[i]? = some y := ⟨_, List.getElem?_eq_getElem h⟩
theorem trod_rat (h : DataW.trod enc PP w base spare held fuel t_api_Rat cs = some x) : ∃ r : Raw, cs = ratC r := by
  obtain ⟨xs, n, _, _, hlen, hxl, hf⟩ := DataW.trod_struct (TBgood t_api_Rat _ rfl).1.und h
  rw [cells_Rat] at hlen
  match cs, hlen with
  | [a, b, c], _ =>
    obtain ⟨y0, h0⟩ := get_some (show 0 < xs.length by rw [hxl]; decide)
    obtain ⟨y1, h1⟩ := get_some (show 1 < xs.length by rw [hxl]; decide)
    obtain ⟨y2, h2⟩ := get_some (show 2 < xs.length by rw [hxl]; decide)
    have g0 : DataW.trod enc PP w base spare held n t_bool (([a, b, c].drop 0).take (PP.cellsOf t_bool)) = xs[0]? := hf 0 _ rfl
    have g1 : DataW.trod enc PP w base spare held n t_string (([a, b, c].drop 1).take (PP.cellsOf t_string)) = xs[1]? := hf 1 _ rfl
    have g2 : DataW.trod enc PP w base spare held n t_string (([a, b, c].drop 2).take (PP.cellsOf t_string)) = xs[2]? := hf 2 _ rfl
    rw [h0] at g0; rw [h1] at g1; rw [h2] at g2
    rw [cells_bool] at g0; rw [cells_string] at g1 g2
    obtain ⟨b0, e0, _⟩ := DataW.trod_bool u_bool g0
    obtain ⟨s1, e1, _⟩ := DataW.trod_string u_string g1
    obtain ⟨s2, e2, _⟩ := DataW.trod_string u_string g2
    cases e0; cases e1; cases e2
    exact ⟨⟨b0, s1.data.toList, s2.data.toList⟩, by rw [ratC, ← bs_surj, ← bs_surj]⟩
theorem trod_pt (h : DataW.trod enc PP w base spare held fuel t_api_Point cs = some x) : ∃ p : Pt, cs = ptC p := by
  obtain ⟨xs, n, _, _, hlen, hxl, hf⟩ := DataW.trod_struct (TBgood t_api_Point _ rfl).1.und h
  rw [cells_Point] at hlen
  match cs, hlen with
  | [a, b, c, a', b', c'], _ =>
    obtain ⟨y0, h0⟩ := get_some (show 0 < xs.length by rw [hxl]; decide)
    obtain ⟨y1, h1⟩ := get_some (show 1 < xs.length by rw [hxl]; decide)
    have g0 : DataW.trod enc PP w base spare held n t_api_Rat (([a, b, c, a', b', c'].drop 0).take (PP.cellsOf t_api_Rat)) = xs[0]? := hf 0 _ rfl
    have g1 : DataW.trod enc PP w base spare held n t_api_Rat (([a, b, c, a', b', c'].drop 3).take (PP.cellsOf t_api_Rat)) = xs[1]? := hf 1 _ rfl
    rw [h0] at g0; rw [h1] at g1
    rw [cells_Rat] at g0 g1
    obtain ⟨r, e0⟩ := trod_rat g0
    obtain ⟨s, e1⟩ := trod_rat g1
    exact ⟨⟨r, s⟩, by
      have e : [a, b, c, a', b', c'] = [a, b, c] ++ [a', b', c'] := rfl
      rw [e, show [a, b, c] = ratC r from e0, show [a', b', c'] = ratC s from e1]; rfl⟩
theorem trod_sg (h : DataW.trod enc PP w base spare held fuel t_api_Segment cs = some x) : ∃ e : Pt × Pt, cs = sgC e := by
  obtain ⟨xs, n, _, _, hlen, hxl, hf⟩ := DataW.trod_struct (TBgood t_api_Segment _ rfl).1.und h
  rw [cells_Segment] at hlen
  obtain ⟨y0, h0⟩ := get_some (show 0 < xs.length by rw [hxl]; decide)
  obtain ⟨y1, h1⟩ := get_some (show 1 < xs.length by rw [hxl]; decide)
  have g0 : DataW.trod enc PP w base spare held n t_api_Point ((cs.drop 0).take (PP.cellsOf t_api_Point)) = xs[0]? := hf 0 _ rfl
  have g1 : DataW.trod enc PP w base spare held n t_api_Point ((cs.drop 6).take (PP.cellsOf t_api_Point)) = xs[1]? := hf 1 _ rfl
  rw [h0] at g0; rw [h1] at g1
  rw [cells_Point] at g0 g1
  obtain ⟨p, e0⟩ := trod_pt g0
  obtain ⟨q, e1⟩ := trod_pt g1
  refine ⟨(p, q), ?_⟩
  rw [List.take_of_length_le (by rw [List.length_drop]; omega)] at e1
  rw [List.drop_zero] at e0
  rw [sgC, ← e0, ← e1, List.take_append_drop]
theorem open_rat {r : Reach} {b : Nat} {v : Value} {d : DataW H} {ps : List MemPlace} (hv : Value.okWide PP w r b t_api_Rat v) (h : DataW.Trod enc PP w base spare held t_api_Rat v d ps) : ∃ r : Raw, v = rawV r := by
  obtain ⟨cs, rfl, _⟩ := okWide_struct (TBgood t_api_Rat _ rfl).1.und hv
  obtain ⟨fuel, hf⟩ := h
  obtain ⟨r, hr⟩ := trod_rat hf
  exact ⟨r, by cases cs; exact congrArg (fun l : List Value => Value.agg ⟨l⟩) hr⟩
theorem open_pt {r : Reach} {b : Nat} {v : Value} {d : DataW H} {ps : List MemPlace} (hv : Value.okWide PP w r b t_api_Point v) (h : DataW.Trod enc PP w base spare held t_api_Point v d ps) : ∃ p : Pt, v = pV p := by
  obtain ⟨cs, rfl, _⟩ := okWide_struct (TBgood t_api_Point _ rfl).1.und hv
  obtain ⟨fuel, hf⟩ := h
  obtain ⟨r, hr⟩ := trod_pt hf
  exact ⟨r, by cases cs; exact congrArg (fun l : List Value => Value.agg ⟨l⟩) hr⟩
theorem open_sg {r : Reach} {b : Nat} {v : Value} {d : DataW H} {ps : List MemPlace} (hv : Value.okWide PP w r b t_api_Segment v) (h : DataW.Trod enc PP w base spare held t_api_Segment v d ps) : ∃ s : Sg, v = sV s := by
  obtain ⟨cs, rfl, _⟩ := okWide_struct (TBgood t_api_Segment _ rfl).1.und hv
  obtain ⟨fuel, hf⟩ := h
  obtain ⟨e, hr⟩ := trod_sg hf
  exact ⟨⟨e.1, e.2⟩, by cases cs; exact congrArg (fun l : List Value => Value.agg ⟨l⟩) hr⟩
end
theorem laidOut : laidOutB PP = true := by kernel_rfl
theorem ownP : ownKnob PP.godebug = none := by kernel_rfl
end Go.Sx
end
section
/-
  The law DistanceSymmetric of the program answers true for every input and leaves its arguments as they were; no conditions.
-/
set_option linter.unusedVariables false
namespace Go.Proofs.YtlnandkcoliejaaGreat
open Go.Sx Go.ChangeShapes Go.WideShapes Go.ChangeAt Go.RowKit
set_option maxRecDepth 100000 in
theorem lifted_distanceSymmetric (os : Os) (started : os.Started) (H : Type) (enc : TypeId × Value → H) :
    ReturnsInHanded {} Tryz.checked os 6 .any (Rows.distanceSymmetricSpec.pre6 enc Tryz.prog Tryz.f6 Rows.distanceSymmetricRow.domain false) (Rows.distanceSymmetricSpec.post enc Tryz.prog Tryz.f6 false true false false) := by
  refine returnsInHanded_of_change (C := Tryz.checked) ownP started (by kernel_rfl) Tryz.func6
    (ChangeSpec.witness6 (enc := enc) (C := Tryz.checked) false ⟨#[], #[.agg #[.bool false, .string ByteArray.empty, .string ByteArray.empty, .bool false, .string ByteArray.empty, .string ByteArray.empty, .bool false, .string ByteArray.empty, .string ByteArray.empty, .bool false, .string ByteArray.empty, .string ByteArray.empty], .agg #[.bool false, .string ByteArray.empty, .string ByteArray.empty, .bool false, .string ByteArray.empty, .string ByteArray.empty, .bool false, .string ByteArray.empty, .string ByteArray.empty, .bool false, .string ByteArray.empty, .string ByteArray.empty], .agg #[.bool false, .string ByteArray.empty, .string ByteArray.empty, .bool false, .string ByteArray.empty, .string ByteArray.empty]], []⟩ 8 (by kernel_rfl) (by kernel_rfl) (by kernel_rfl) (by kernel_rfl)) ?_
  intro W base args ds gs before hval0 hW hcnd _
  have hval : ∀ (j : Nat) t v, Tryz.f6.params[j]? = some t → args[j]? = some v → Value.okWide Tryz.prog W .any base t v := hval0
  have hW' := hW
  obtain ⟨p, q, hA0, hV, rfl, hfz, hnd⟩ := hW
  have hA : DataW.TrodAll enc Tryz.prog W 0 (fun _ => true) true Tryz.f6.params.toList args.toList ds p := hA0
  rw [Tryz.params6] at hA hval
  obtain ⟨v0, vs0, d0, ds0, p0, q0, hargs, rfl, rfl, h0, r0⟩ := trodAll_cons hA
  obtain ⟨v1, vs1, d1, ds1, p1, q1, rfl, rfl, rfl, h1, r1⟩ := trodAll_cons r0
  obtain ⟨v2, vs2, d2, ds2, p2, q2, rfl, rfl, rfl, h2, r2⟩ := trodAll_cons r1
  obtain ⟨rfl, rfl, rfl⟩ := trodAll_nil r2
  obtain rfl : args = #[v0, v1, v2] := by cases args; simp_all
  obtain ⟨rfl, rfl⟩ := trodVars_none hV
  have lt0 : ∀ x ∈ p0, x.block < W.heap.size := by obtain ⟨m, hm⟩ := h0; exact DataW.trod_lt m _ _ _ hm
  have k0 : DataW.Trod enc PP W 0 (fun _ => true) true t_api_Segment v0 d0 p0 := h0
  obtain ⟨a0, rfl⟩ := open_sg (hval 0 _ v0 rfl rfl) k0
  have lt1 : ∀ x ∈ p1, x.block < W.heap.size := by obtain ⟨m, hm⟩ := h1; exact DataW.trod_lt m _ _ _ hm
  have k1 : DataW.Trod enc PP W 0 (fun _ => true) true t_api_Segment v1 d1 p1 := h1
  obtain ⟨a1, rfl⟩ := open_sg (hval 1 _ v1 rfl rfl) k1
  have lt2 : ∀ x ∈ p2, x.block < W.heap.size := by obtain ⟨m, hm⟩ := h2; exact DataW.trod_lt m _ _ _ hm
  have k2 : DataW.Trod enc PP W 0 (fun _ => true) true t_api_Point v2 d2 p2 := h2
  obtain ⟨a2, rfl⟩ := open_pt (hval 2 _ v2 rfl rfl) k2
  clear hA0 hval0
  refine ((law_DistanceSymmetric a0 a1 a2).calls W trivial).mono fun e W' ⟨he, bel⟩ => ?_
  subst he
  exact ⟨_, rfl, _, _, _, [], _, [], hW', trodAll_mk1 (shut_bool u_bool _), (trodAll_cons_mk (Below.trod laidOut (by kernel_rfl) (of_decide_eq_true (by kernel_rfl)) k0 bel lt0) (trodAll_cons_mk (Below.trod laidOut (by kernel_rfl) (of_decide_eq_true (by kernel_rfl)) k1 bel lt1) (trodAll_cons_mk (Below.trod laidOut (by kernel_rfl) (of_decide_eq_true (by kernel_rfl)) k2 bel lt2) trodAll_mk0))), rfl, bel.frame _, fun h => by cases h⟩
/-- DistanceSymmetric, as it is said. -/
theorem distanceSymmetric_holds : Rows.DistanceSymmetricSaid :=
  OpenClaim.holds_of_wide 6 Tryz.f6 rfl rfl rfl rfl rfl rfl rfl ⟨rfl, rfl, rfl, rfl, rfl⟩ rfl rfl rfl rfl rfl (by kernel_rfl) Tryz.func6 (by kernel_rfl)
    (of_decide_eq_true (by kernel_rfl)) (by unfold Func.isWrapper; first | (rw [if_pos (by decide +kernel)]; kernel_rfl) | (rw [if_neg (by decide +kernel)]; exact ⟨rfl, rfl⟩))
    (fun os started H enc _ => lifted_distanceSymmetric os started H enc)
end Go.Proofs.YtlnandkcoliejaaGreat
end
#print axioms Go.Proofs.YtlnandkcoliejaaGreat.distanceSymmetric_holds
