/- A part of the proof of a law: the symbolic executor, contracts of functions of the program, plain laws. No conditions. -/
import Derived.Test.YtlnandkcoliejaaGreatM5
import Derived.Test.YtlnandkcoliejaaGreatM4
set_option linter.unusedVariables false
set_option linter.unusedSimpArgs false
section
set_option maxRecDepth 10000
set_option maxHeartbeats 2000000
set_option linter.unusedSimpArgs false
set_option linter.unusedVariables false
set_option pp.deepTerms false
set_option pp.deepTerms.threshold 6
namespace Go.Sx
open Go Go.Proofs
abbrev pt (x y : Int) : Pt := PQ ⟨(x : Rat), (y : Rat)⟩
theorem pt_sm {x y : Int} (h1 : x.natAbs < 256) (h2 : y.natAbs < 256) : (pt x y).sm KS := by
  have h : ∀ z : Int, z.natAbs < 256 → (Q (z : Rat)).sm KS := fun z hz => (show Sz 1 (z : Rat) from ⟨by simpa using hz, by simp⟩).q.le (by decide)
  exact ⟨h x h1, h y h2⟩
abbrev triP (b : Nat) (x y z : Pt) : Ply := ⟨⟨some ⟨b, 0, none⟩, 3, [x, y, z]⟩, none, 0, []⟩
theorem triP_wf {b : Nat} {x y z : Pt} (hx : x.sm KS) (hy : y.sm KS) (hz : z.sm KS) : (triP b x y z).wf := by
  refine ⟨fun p hp => ?_, by simp, by simp, by simp, by simp⟩
  simp only [List.mem_cons, List.not_mem_nil, or_false] at hp
  rcases hp with rfl | rfl | rfl
  · exact hx
  · exact hy
  · exact hz
theorem aw1 : dPt euPt ⟨pt 0 0, pt 4 0⟩ (pt 3 3) = (9, 0) := by decide +kernel
theorem aw2 : dPt sqPt ⟨pt 0 0, pt 4 0⟩ (pt 3 3) = (3, 0) := by decide +kernel
theorem aw3 : dPt euPt ⟨pt 0 0, pt 2 0⟩ (pt 3 3) = (10, 0) := by decide +kernel
theorem aw4 : dPt sqPt ⟨pt 0 0, pt 2 0⟩ (pt 3 3) = (3, 0) := by decide +kernel
theorem aw5 : polysD ⟨[pt 0 0, pt 2 0, pt 0 2], []⟩ ⟨[pt 3 3, pt 5 3, pt 3 5], []⟩ = (8, (pt 1 1, pt 3 3), 0) := by decide +kernel
theorem c_pt (x y : Int) (h1 : x.natAbs < 256) (h2 : y.natAbs < 256) : Fn PP f_vector_Of [.int .i64 x, .int .i64 y] (pV (pt x y)) := c_vOf x y (by omega) (by omega) (by omega) (by omega)
theorem c_awake : Fn PP f_narrowslaw26_awake [] (.bool true) := by
  have s00 := pt_sm (x := 0) (y := 0) (by decide) (by decide)
  have s40 := pt_sm (x := 4) (y := 0) (by decide) (by decide)
  have s20 := pt_sm (x := 2) (y := 0) (by decide) (by decide)
  have s02 := pt_sm (x := 0) (y := 2) (by decide) (by decide)
  have s33 := pt_sm (x := 3) (y := 3) (by decide) (by decide)
  have s53 := pt_sm (x := 5) (y := 3) (by decide) (by decide)
  have s35 := pt_sm (x := 3) (y := 5) (by decide) (by decide)
  refine Fn.ofF (FnM.ofS TBgood mixed h_narrowslaw26_awake rfl rfl (Nat.le_of_ble_eq_true rfl) (by simp) (fun w l st E w' hp hm => postV_ok hp hm) ?_)
  intro w hw
  refine WPS.peel TBgood mixed ?_
  conv => whnf
  refine WPS.peel TBgood mixed ?_
  conv => whnf
  refine CallVC.fn (c_pt 0 0 (by decide) (by decide)) rfl ?_
  conv => whnf
  refine CallVC.fn (c_pt 4 0 (by decide) (by decide)) rfl ?_
  conv => whnf
  refine CallVC.fn (c_pt 0 0 (by decide) (by decide)) rfl ?_
  conv => whnf
  refine CallVC.fn (c_pt 2 0 (by decide) (by decide)) rfl ?_
  conv => whnf
  refine WPS.peel TBgood mixed ?_
  conv => whnf
  refine DrawVC.late [(7, 3, [5])] (by kernel_rfl) ?_
  conv => whnf
  refine CallVCd.fn (c_pt 3 3 (by decide) (by decide)) rfl ?_
  conv => whnf
  refine CallVCd.fn (c_dPoint ⟨pt 0 0, pt 4 0⟩ (pt 3 3) ⟨s00, s40⟩ s33) rfl ?_
  rw [aw1]
  conv => whnf
  refine WPS.peel TBgood mixed ?_
  conv => whnf
  refine DrawVC.late [(7, 5, [5])] (by kernel_rfl) ?_
  conv => whnf
  refine CallVCd.fn (c_pt 3 3 (by decide) (by decide)) rfl ?_
  conv => whnf
  refine CallVCd.fn (c_dSquarePoint ⟨pt 0 0, pt 4 0⟩ (pt 3 3) ⟨s00, s40⟩ s33) rfl ?_
  rw [aw2]
  conv => whnf
  refine WPS.peel TBgood mixed ?_
  conv => whnf
  refine DrawVC.late [(7, 7, [5])] (by kernel_rfl) ?_
  conv => whnf
  refine CallVCd.fn (c_pt 3 3 (by decide) (by decide)) rfl ?_
  conv => whnf
  refine CallVCd.fn (c_dPoint ⟨pt 0 0, pt 2 0⟩ (pt 3 3) ⟨s00, s20⟩ s33) rfl ?_
  rw [aw3]
  conv => whnf
  refine WPS.peel TBgood mixed ?_
  conv => whnf
  refine DrawVC.late [(7, 9, [5])] (by kernel_rfl) ?_
  conv => whnf
  refine CallVCd.fn (c_pt 3 3 (by decide) (by decide)) rfl ?_
  conv => whnf
  refine CallVCd.fn (c_dSquarePoint ⟨pt 0 0, pt 2 0⟩ (pt 3 3) ⟨s00, s20⟩ s33) rfl ?_
  rw [aw4]
  conv => whnf
  refine WPS.peel TBgood mixed ?_
  conv => whnf
  refine CallVC.fn (c_pt 0 0 (by decide) (by decide)) rfl ?_
  conv => whnf
  refine CallVC.fn (c_pt 2 0 (by decide) (by decide)) rfl ?_
  conv => whnf
  refine CallVC.fn (c_pt 0 2 (by decide) (by decide)) rfl ?_
  conv => whnf
  refine WPS.peel TBgood mixed ?_
  conv => whnf
  refine CallVC.fn (c_pt 3 3 (by decide) (by decide)) rfl ?_
  conv => whnf
  refine CallVC.fn (c_pt 5 3 (by decide) (by decide)) rfl ?_
  conv => whnf
  refine CallVC.fn (c_pt 3 5 (by decide) (by decide)) rfl ?_
  conv => whnf
  refine WPS.freeze 50 rfl (fun b1 => ?_)
  refine WPS.freeze 55 rfl (fun b2 => ?_)
  have hcall := c_Polygons (triP b1 (pt 0 0) (pt 2 0) (pt 0 2)) (triP b2 (pt 3 3) (pt 5 3) (pt 3 5)) (triP_wf s00 s20 s02) (triP_wf s33 s53 s35)
  rw [show polysD (triP b1 (pt 0 0) (pt 2 0) (pt 0 2)).P (triP b2 (pt 3 3) (pt 5 3) (pt 3 5)).P = (8, (pt 1 1, pt 3 3), 0) from aw5] at hcall
  refine WPS.of TBgood mixed ?_
  conv => whnf
  refine CallVC.v hcall.enters (CallV.factsT hcall rfl (fun R hR => ?_)) ?_
  · rcases List.mem_append.1 hR with hR | hR
    · rcases List.mem_cons.1 hR with rfl | hR
      · exact .inl (List.mem_cons_of_mem _ (List.mem_cons_self ..))
      · rw [List.mem_singleton.1 hR]; exact .inr (fun w => .inl rfl)
    · rcases List.mem_cons.1 hR with rfl | hR
      · exact .inl (List.mem_cons_self ..)
      · rw [List.mem_singleton.1 hR]; exact .inr (fun w => .inl rfl)
  conv => whnf
  refine DrawVC.quiet (by kernel_rfl) ?_
  conv => whnf
  refine CallVCd.fn (c_rOf 9 (by decide) (by decide)) rfl ?_
  conv => whnf
  refine br_true ((eqR (Q 9) (Q ((9 : Int) : Rat))).trans (decide_eq_true rfl)) ?_
  conv => whnf
  refine CallVCd.fn (c_rOf 3 (by decide) (by decide)) rfl ?_
  conv => whnf
  refine br_true ((eqR (Q 3) (Q ((3 : Int) : Rat))).trans (decide_eq_true rfl)) ?_
  conv => whnf
  refine CallVCd.fn (c_rOf 10 (by decide) (by decide)) rfl ?_
  conv => whnf
  refine br_true ((eqR (Q 10) (Q ((10 : Int) : Rat))).trans (decide_eq_true rfl)) ?_
  conv => whnf
  refine CallVCd.fn (c_rOf 3 (by decide) (by decide)) rfl ?_
  conv => whnf
  refine br_true ((eqR (Q 3) (Q ((3 : Int) : Rat))).trans (decide_eq_true rfl)) ?_
  conv => whnf
  refine CallVCd.fn (c_rOf 8 (by decide) (by decide)) rfl ?_
  conv => whnf
  refine br_true ((eqR (Q 8) (Q ((8 : Int) : Rat))).trans (decide_eq_true rfl)) ?_
  conv => whnf
  refine CallVCd.fn (c_pt 1 1 (by decide) (by decide)) rfl ?_
  conv => whnf
  refine CallVCd.fn (c_pt 3 3 (by decide) (by decide)) rfl ?_
  conv => whnf
  refine postV_one (congrArg Value.bool ?_)
  simp
end Go.Sx
end
section
set_option maxRecDepth 10000
set_option maxHeartbeats 2000000
set_option linter.unusedSimpArgs false
set_option linter.unusedVariables false
set_option pp.deepTerms false
set_option pp.deepTerms.threshold 6
namespace Go.Sx
open Go Go.Proofs
/-- A part of an element of a row that lies outside. -/
theorem LoadVC.fld {α : Type} {st : SS} {A A' : Option Addr} {xs : List α} {j o m n : Nat} {agg : Bool} {K : SV → Prop} {x : α} (f : α → List Value) (hf : ∀ x, (f x).length = n) (hR : SlRes A (rowV f xs) ∈ st.re) (hx : xs[j]? = some x) (hA : A' = A.map (·.add (j * n + o)))
    (ho : o + m ≤ n) (h0 : 0 < m) (h1 : agg = false → m = 1) (hk : K (mkV agg (((f x).drop o).take m))) : LoadVC st m agg A' K := by
  have hj : j < xs.length := (List.getElem?_eq_some_iff.1 hx).1
  have hlen : (rowV f xs).length = xs.length * n := rowV_length hf xs
  have hle : j * n + n ≤ xs.length * n := by rw [← Nat.succ_mul]; exact Nat.mul_le_mul_right n hj
  refine LoadVC.row (off := j * n + o) hR hA (by omega) h0 h1 ?_
  have hp : ((rowV f xs).drop (j * n)).take n = f x := rowV_part hf hx
  have he : ((rowV f xs).drop (j * n + o)).take m = ((f x).drop o).take m := by
    rw [← hp, ← List.drop_drop, List.drop_take, List.take_take, Nat.min_eq_left (by omega)]
  rw [he]; exact hk
def bigP (k : Nat) (p : Pt) : Bool := decide (k < p.x.num.length) || (decide (k < p.x.den.length) || (decide (k < p.y.num.length) || decide (k < p.y.den.length)))
theorem bigP_sm {k : Nat} {p : Pt} (h : bigP k p = false) : p.sm k := by
  simp only [bigP, Bool.or_eq_false_iff, decide_eq_false_iff_not, Nat.not_lt] at h
  exact ⟨⟨h.1, h.2.1⟩, h.2.2.1, h.2.2.2⟩
theorem c_Great07 (A : Option Addr) (c : Nat) (l : List Pt) (hl : l.length ≤ 1000000) :
    FnM PP f_narrowsref07_Great [.slice A l.length c] (facts [SlRes A (rowV ptC l)]) (retsV (.bool (l.any (bigP 12)))) := by
  refine FnS.of TBgood mixed h_narrowsref07_Great rfl rfl (Nat.le_of_ble_eq_true rfl) (by simp [SlRes.ok]) ?_
  intro w hw
  obtain ⟨n, hn⟩ : ∃ n, n = l.length := ⟨_, rfl⟩
  have hA : 0 < n → ∃ b o, A = some ⟨b, o, none⟩ := fun h => by
    have h1 : A.isSome = true := slres_some (facts_one hw) (by rw [rowV_length ptC_len]; omega)
    obtain ⟨a, rfl⟩ := Option.isSome_iff_exists.1 h1
    obtain ⟨b, o, rfl⟩ := slf_addr (facts_one hw) (by intro h2; have := congrArg List.length h2; rw [rowV_length ptC_len] at this; simp at this; omega)
    exact ⟨b, o, rfl⟩
  rw [← hn] at hl ⊢
  conv => whnf
  refine sexec_loop (ι := Nat) (fun i => ⟨[(0, .o (.v (.slice A n c))), (3, .o (.v (.int .i64 i)))], [], [SlRes A (rowV ptC l)]⟩)
    (fun i => i ≤ n ∧ l.any (bigP 12) = (l.drop i).any (bigP 12)) (fun i => n - i) 0 ⟨Nat.zero_le _, rfl⟩
    (SLe.id ⟨rfl, rfl, trivial⟩ trivial (fun R hR => hR)) ?_
  rintro i ⟨hi, hx⟩
  conv => whnf
  refine br_split ?_ ?_
  · intro h
    have hi2 : i < n := by
      have : (i : Int) < (n : Int) := of_decide_eq_true h
      omega
    obtain ⟨b, o, rfl⟩ := hA (by omega)
    obtain ⟨p, hp⟩ : ∃ p, l[i]? = some p := ⟨_, List.getElem?_eq_getElem (by omega)⟩
    rw [drop_cons hp, List.any_cons] at hx
    conv => whnf
    have hadd : Option.map (fun a : Addr => a.add ((i : Int).toNat * ty25.size)) (some ⟨b, o, none⟩) = some ⟨b, o + i * 6, none⟩ := by
      show some ((⟨b, o, none⟩ : Addr).add ((i : Int).toNat * 6)) = _
      rw [Int.toNat_natCast, Addr.add_lit]
    have hfl : ∀ z, (some ⟨b, o + i * 6 + z, none⟩ : Option Addr) = (some (⟨b, o, none⟩ : Addr)).map (fun a => a.add (i * 6 + z)) := fun z => by
      rw [Option.map_some, Addr.add_lit, Nat.add_assoc]
    have hlast : bigP 12 p = true → l.any (bigP 12) = true := fun h => by rw [hx, h, Bool.true_or]
    refine ⟨⟨by omega, by omega, rfl⟩, ?_⟩
    rw [hadd]
    conv => whnf
    refine LoadVC.fld (o := 1) ptC ptC_len (List.mem_singleton.2 rfl) hp (hfl 1) (by decide) (by decide) (fun _ => rfl) ?_
    conv => whnf
    refine br_split ?_ ?_
    · intro h
      have h1 : 12 < p.x.num.length := by
        have : ((p.x.num.length : Nat) : Int) > 12 := of_decide_eq_true h
        omega
      conv => whnf
      refine postV_one (congrArg Value.bool (hlast ?_).symm)
      simp only [bigP, Bool.or_eq_true, decide_eq_true_eq]
      omega
    intro h
    have hf1 : ¬ 12 < p.x.num.length := by
      have : ¬ ((p.x.num.length : Nat) : Int) > 12 := of_decide_eq_false h
      omega
    conv => whnf
    refine ⟨⟨by omega, by omega, rfl⟩, ?_⟩
    rw [hadd]
    conv => whnf
    refine LoadVC.fld (o := 2) ptC ptC_len (List.mem_singleton.2 rfl) hp (hfl 2) (by decide) (by decide) (fun _ => rfl) ?_
    conv => whnf
    refine br_split ?_ ?_
    · intro h
      have h1 : 12 < p.x.den.length := by
        have : ((p.x.den.length : Nat) : Int) > 12 := of_decide_eq_true h
        omega
      conv => whnf
      refine postV_one (congrArg Value.bool (hlast ?_).symm)
      simp only [bigP, Bool.or_eq_true, decide_eq_true_eq]
      omega
    intro h
    have hf2 : ¬ 12 < p.x.den.length := by
      have : ¬ ((p.x.den.length : Nat) : Int) > 12 := of_decide_eq_false h
      omega
    conv => whnf
    refine ⟨⟨by omega, by omega, rfl⟩, ?_⟩
    rw [hadd]
    conv => whnf
    refine LoadVC.fld (o := 4) ptC ptC_len (List.mem_singleton.2 rfl) hp (hfl 4) (by decide) (by decide) (fun _ => rfl) ?_
    conv => whnf
    refine br_split ?_ ?_
    · intro h
      have h1 : 12 < p.y.num.length := by
        have : ((p.y.num.length : Nat) : Int) > 12 := of_decide_eq_true h
        omega
      conv => whnf
      refine postV_one (congrArg Value.bool (hlast ?_).symm)
      simp only [bigP, Bool.or_eq_true, decide_eq_true_eq]
      omega
    intro h
    have hf4 : ¬ 12 < p.y.num.length := by
      have : ¬ ((p.y.num.length : Nat) : Int) > 12 := of_decide_eq_false h
      omega
    conv => whnf
    refine ⟨⟨by omega, by omega, rfl⟩, ?_⟩
    rw [hadd]
    conv => whnf
    refine LoadVC.fld (o := 5) ptC ptC_len (List.mem_singleton.2 rfl) hp (hfl 5) (by decide) (by decide) (fun _ => rfl) ?_
    conv => whnf
    refine br_split ?_ ?_
    · intro h
      have h1 : 12 < p.y.den.length := by
        have : ((p.y.den.length : Nat) : Int) > 12 := of_decide_eq_true h
        omega
      conv => whnf
      refine postV_one (congrArg Value.bool (hlast ?_).symm)
      simp only [bigP, Bool.or_eq_true, decide_eq_true_eq]
      omega
    intro h
    have hf5 : ¬ 12 < p.y.den.length := by
      have : ¬ ((p.y.den.length : Nat) : Int) > 12 := of_decide_eq_false h
      omega
    conv => whnf
    have hno : bigP 12 p = false := by
      simp only [bigP, Bool.or_eq_false_iff, decide_eq_false_iff_not]
      exact ⟨hf1, hf2, hf4, hf5⟩
    rw [hno, Bool.false_or] at hx
    exact ⟨i + 1, ⟨by omega, hx⟩, by omega, SLe.id ⟨rfl, some_wrap hi2 (by omega), trivial⟩ trivial (fun R hR => hR)⟩
  · intro h
    have hi2 : i = n := by
      have : ¬ (i : Int) < (n : Int) := of_decide_eq_false h
      omega
    rw [hi2, hn, List.drop_length] at hx
    conv => whnf
    refine postV_one ?_
    rw [hx]; rfl
end Go.Sx
end
section
set_option maxRecDepth 10000
set_option maxHeartbeats 2000000
set_option linter.unusedSimpArgs false
set_option linter.unusedVariables false
set_option pp.deepTerms false
set_option pp.deepTerms.threshold 6
namespace Go.Sx
open Go Go.Proofs
theorem c_great (A : Option Addr) (c : Nat) (l : List Pt) (hl : l.length ≤ 1000000) :
    FnM PP f_narrowslaw26_great [.slice A l.length c] (facts [SlRes A (rowV ptC l)]) (retsV (.bool (l.any (bigP 12)))) := by
  refine FnS.of TBgood mixed h_narrowslaw26_great rfl rfl (Nat.le_of_ble_eq_true rfl) (by simp [SlRes.ok]) ?_
  intro w hw
  conv => whnf
  refine CallVC.v (c_Great07 A c l hl).enters (CallV.facts (c_Great07 A c l hl) rfl (fun R hR => hR)) ?_
  conv => whnf
  exact postV_one rfl
end Go.Sx
end
section
set_option linter.unusedVariables false
set_option linter.unusedSimpArgs false
namespace Go.Sx
theorem lt_step {a b t : Rat} (h0 : 0 < t) : a < a + (b - a) * t ↔ a < b := by
  constructor
  · intro h
    rcases Rat.le_total (a := b) (b := a) with h1 | h1
    · exfalso; have := Rat.mul_nonneg (show 0 ≤ a - b by grind) (show 0 ≤ t by grind); grind
    · by_cases he : a = b
      · exfalso; rw [he] at h; grind
      · grind
  · intro h
    have := Rat.mul_pos (show 0 < b - a by grind) h0; grind
theorem gt_step {a b t : Rat} (h0 : 0 < t) : a + (b - a) * t < a ↔ b < a := by
  constructor
  · intro h
    rcases Rat.le_total (a := a) (b := b) with h1 | h1
    · exfalso; have := Rat.mul_nonneg (show 0 ≤ b - a by grind) (show 0 ≤ t by grind); grind
    · by_cases he : a = b
      · exfalso; rw [he] at h; grind
      · grind
  · intro h
    have := Rat.mul_pos (show 0 < a - b by grind) h0; grind
theorem cmp_step {a b t : Rat} (h0 : 0 < t) : cmpQ a (a + (b - a) * t) = cmpQ a b := by
  unfold cmpQ; simp only [lt_step h0, gt_step h0]
theorem cmp_step' {a b t : Rat} (h1 : t < 1) : cmpQ (a + (b - a) * t) b = cmpQ a b := by
  have e : a + (b - a) * t = b + (a - b) * (1 - t) := by grind
  have h0 : 0 < 1 - t := by grind
  rw [e]; unfold cmpQ; simp only [lt_step h0, gt_step h0]
theorem cmpV_step {a b : V} {t : Rat} (h0 : 0 < t) : cmpV a (a.at b t) = cmpV a b := by
  unfold cmpV
  rw [show (a.at b t).x = a.x + (b.x - a.x) * t from rfl, show (a.at b t).y = a.y + (b.y - a.y) * t from rfl, cmp_step h0, cmp_step h0]
theorem cmpV_step' {a b : V} {t : Rat} (h1 : t < 1) : cmpV (a.at b t) b = cmpV a b := by
  unfold cmpV
  rw [show (a.at b t).x = a.x + (b.x - a.x) * t from rfl, show (a.at b t).y = a.y + (b.y - a.y) * t from rfl, cmp_step' h1, cmp_step' h1]
end Go.Sx
end
section
set_option maxRecDepth 10000
set_option maxHeartbeats 2000000
set_option linter.unusedSimpArgs false
set_option linter.unusedVariables false
set_option pp.deepTerms false
set_option pp.deepTerms.threshold 6
namespace Go.Sx
open Go Go.Proofs
end Go.Sx
end
section
set_option linter.unusedVariables false
set_option linter.unusedSimpArgs false
namespace Go.Sx
/-! ### the order of points -/
theorem cmpQ_val (x y : Rat) : (cmpQ x y = -1 ∧ x < y) ∨ (cmpQ x y = 0 ∧ x = y) ∨ (cmpQ x y = 1 ∧ y < x) := by
  unfold cmpQ; split
  · exact .inl ⟨rfl, by assumption⟩
  · split
    · exact .inr (.inr ⟨rfl, by assumption⟩)
    · exact .inr (.inl ⟨rfl, by grind⟩)
def ltP2 (a b : V) : Prop := a.x < b.x ∨ (a.x = b.x ∧ a.y < b.y)
theorem cmpV_val (a b : V) : (cmpV a b = -1 ∧ ltP2 a b) ∨ (cmpV a b = 0 ∧ a = b) ∨ (cmpV a b = 1 ∧ ltP2 b a) := by
  unfold cmpV ltP2
  rcases cmpQ_val a.x b.x with ⟨h1, h2⟩ | ⟨h1, h2⟩ | ⟨h1, h2⟩
  · rw [h1, if_pos (by decide)]; exact .inl ⟨rfl, .inl h2⟩
  · rw [h1, if_neg (by decide)]
    rcases cmpQ_val a.y b.y with ⟨h3, h4⟩ | ⟨h3, h4⟩ | ⟨h3, h4⟩
    · exact .inl ⟨h3, .inr ⟨h2, h4⟩⟩
    · exact .inr (.inl ⟨h3, V.ext' h2 h4⟩)
    · exact .inr (.inr ⟨h3, .inr ⟨h2.symm, h4⟩⟩)
  · rw [h1, if_pos (by decide)]; exact .inr (.inr ⟨rfl, .inl h2⟩)
theorem ltP2_irr {a : V} : ¬ ltP2 a a := by unfold ltP2; grind
theorem ltP2_trans {a b c : V} (h : ltP2 a b) (k : ltP2 b c) : ltP2 a c := by unfold ltP2 at *; grind
theorem cmpV_lt {a b : V} : cmpV a b < 0 ↔ ltP2 a b := by
  rcases cmpV_val a b with ⟨h1, h2⟩ | ⟨h1, h2⟩ | ⟨h1, h2⟩
  · rw [h1]; exact ⟨fun _ => h2, fun _ => by decide⟩
  · rw [h1, h2]; exact ⟨fun h => absurd h (by decide), fun h => absurd h ltP2_irr⟩
  · rw [h1]; exact ⟨fun h => absurd h (by decide), fun h => absurd (ltP2_trans h h2) ltP2_irr⟩
theorem cmpV_gt {a b : V} : cmpV a b > 0 ↔ ltP2 b a := by
  rcases cmpV_val a b with ⟨h1, h2⟩ | ⟨h1, h2⟩ | ⟨h1, h2⟩
  · rw [h1]; exact ⟨fun h => absurd h (by decide), fun h => absurd (ltP2_trans h h2) ltP2_irr⟩
  · rw [h1, h2]; exact ⟨fun h => absurd h (by decide), fun h => absurd h ltP2_irr⟩
  · rw [h1]; exact ⟨fun _ => h2, fun _ => by decide⟩
theorem ltP2_tri (a b : V) : ltP2 a b ∨ a = b ∨ ltP2 b a := by
  rcases cmpV_val a b with ⟨h1, h2⟩ | ⟨h1, h2⟩ | ⟨h1, h2⟩
  · exact .inl h2
  · exact .inr (.inl h2)
  · exact .inr (.inr h2)
/-- Not behind. -/
def leP2 (a b : V) : Prop := ¬ ltP2 b a
theorem leP2_refl (a : V) : leP2 a a := ltP2_irr
theorem leP2_trans {a b c : V} (h : leP2 a b) (k : leP2 b c) : leP2 a c := fun h2 => by
  rcases ltP2_tri a b with h3 | h3 | h3
  · exact k (ltP2_trans h2 h3)
  · rw [h3] at h2; exact k h2
  · exact h h3
theorem leP2_anti {a b : V} (h : leP2 a b) (k : leP2 b a) : a = b := by
  rcases ltP2_tri a b with h3 | h3 | h3
  · exact absurd h3 k
  · exact h3
  · exact absurd h3 h
theorem lt_le {a b : V} (h : ltP2 a b) : leP2 a b := fun k => ltP2_irr (ltP2_trans h k)
theorem cmpV_le {a b : V} : cmpV a b ≤ 0 ↔ leP2 a b := by
  rw [leP2, ← cmpV_gt]; omega
/-- A point of a segment lies between its ends in the order. -/
theorem at_le {a b : V} {t : Rat} (h0 : 0 ≤ t) (h1 : t ≤ 1) (h : leP2 a b) : leP2 a (a.at b t) ∧ leP2 (a.at b t) b := by
  by_cases e0 : t = 0
  · rw [e0, V.at_zero]; exact ⟨leP2_refl a, h⟩
  by_cases e1 : t = 1
  · rw [e1, V.at_one]; exact ⟨h, leP2_refl b⟩
  rw [← cmpV_le, ← cmpV_le, cmpV_step (by grind), cmpV_step' (by grind)]
  exact ⟨cmpV_le.2 h, cmpV_le.2 h⟩
/-- A point of the line that lies between the ends in the order is a point of the segment. -/
theorem le_at {a b p : V} (hab : a ≠ b) (hc : (b - a).cross (p - a) = 0) (h1 : leP2 a p) (h2 : leP2 p b) : ∃ t, (0 ≤ t ∧ t ≤ 1) ∧ p = a.at b t := by
  refine betw_at hab ?_
  unfold betwB
  have hm : 0 ≤ cmpV a p * cmpV p b := Int.mul_nonneg_of_nonpos_of_nonpos (cmpV_le.2 h1) (cmpV_le.2 h2)
  rw [hc, decide_eq_true (cmpQ_eq.2 rfl), decide_eq_true hm, decide_eq_true (show cmpV a b ≠ 0 from fun h => hab (cmpV_zero.1 h))]
  rfl
theorem at_swap (a b : V) (t : Rat) : b.at a t = a.at b (1 - t) := V.ext' (by simp only [V.at_x]; grind) (by simp only [V.at_y]; grind)
end Go.Sx
end
section
set_option linter.unusedVariables false
set_option linter.unusedSimpArgs false
namespace Go.Sx
/-! ### common points of two segments -/
/-- A point of a segment. -/
def onS (a b p : V) : Prop := ∃ t : Rat, (0 ≤ t ∧ t ≤ 1) ∧ p = a.at b t
theorem onS_swap {a b p : V} : onS a b p ↔ onS b a p := by
  constructor <;> rintro ⟨t, ⟨h0, h1⟩, rfl⟩ <;> exact ⟨1 - t, ⟨by grind, by grind⟩, by rw [at_swap]⟩
theorem ord_le (a b : V) : leP2 (ordV a b).1 (ordV a b).2 ∧ (∀ p, onS (ordV a b).1 (ordV a b).2 p ↔ onS a b p) ∧ ((ordV a b = (a, b)) ∨ (ordV a b = (b, a))) := by
  unfold ordV
  by_cases h : cmpV a b > 0
  · rw [if_pos h]; exact ⟨lt_le (cmpV_gt.1 h), fun p => onS_swap, .inr rfl⟩
  · rw [if_neg h]; exact ⟨cmpV_le.1 (by show cmpV a b ≤ 0; omega), fun p => Iff.rfl, .inl rfl⟩
theorem onS_le {a b p : V} (h : leP2 a b) (hp : onS a b p) : leP2 a p ∧ leP2 p b := by
  obtain ⟨t, ⟨h0, h1⟩, rfl⟩ := hp; exact at_le h0 h1 h
theorem gt_le (a b : V) : leP2 a (gtV a b) ∧ leP2 b (gtV a b) ∧ (gtV a b = a ∨ gtV a b = b) ∧ ∀ p, leP2 a p → leP2 b p → leP2 (gtV a b) p := by
  unfold gtV
  by_cases h : cmpV a b < 0
  · rw [if_pos h]; exact ⟨lt_le (cmpV_lt.1 h), leP2_refl b, .inr rfl, fun p _ h => h⟩
  · rw [if_neg h]
    exact ⟨leP2_refl a, fun k => h (cmpV_lt.2 k), .inl rfl, fun p h _ => h⟩
theorem lt_le' (a b : V) : leP2 (ltV a b) a ∧ leP2 (ltV a b) b ∧ (ltV a b = a ∨ ltV a b = b) ∧ ∀ p, leP2 p a → leP2 p b → leP2 p (ltV a b) := by
  unfold ltV
  by_cases h : cmpV a b < 0
  · rw [if_pos h]; exact ⟨leP2_refl a, lt_le (cmpV_lt.1 h), .inl rfl, fun p h _ => h⟩
  · rw [if_neg h]
    exact ⟨fun k => h (cmpV_lt.2 k), leP2_refl b, .inr rfl, fun p _ h => h⟩
theorem unitB_iff {t : Rat} : unitB t = true ↔ 0 ≤ t ∧ t ≤ 1 := by
  unfold unitB; rw [Bool.and_eq_true, decide_eq_true_eq, decide_eq_true_eq, cmpQ_ge, cmpQ_le]
theorem cramer {a b c d : V} (h : (b - a).cross (d - c) ≠ 0) (t s : Rat) :
    a.at b t = c.at d s ↔ t = (c - a).cross (d - c) / (b - a).cross (d - c) ∧ s = (c - a).cross (b - a) / (b - a).cross (d - c) := by
  have e1 : (c - a).cross (d - c) / (b - a).cross (d - c) * (b - a).cross (d - c) = (c - a).cross (d - c) := Rat.div_mul_cancel h
  have e2 : (c - a).cross (b - a) / (b - a).cross (d - c) * (b - a).cross (d - c) = (c - a).cross (b - a) := Rat.div_mul_cancel h
  generalize (c - a).cross (d - c) / (b - a).cross (d - c) = T at e1 ⊢
  generalize (c - a).cross (b - a) / (b - a).cross (d - c) = U at e2 ⊢
  simp only [V.cross, V.sub_x, V.sub_y] at h e1 e2
  constructor
  · intro he
    have hx : a.x + (b.x - a.x) * t = c.x + (d.x - c.x) * s := congrArg V.x he
    have hy : a.y + (b.y - a.y) * t = c.y + (d.y - c.y) * s := congrArg V.y he
    constructor
    · have : (t - T) * ((b.x - a.x) * (d.y - c.y) - (b.y - a.y) * (d.x - c.x)) = 0 := by grind
      rcases Rat.mul_eq_zero.1 this with h2 | h2
      · grind
      · exact absurd h2 h
    · have : (s - U) * ((b.x - a.x) * (d.y - c.y) - (b.y - a.y) * (d.x - c.x)) = 0 := by grind
      rcases Rat.mul_eq_zero.1 this with h2 | h2
      · grind
      · exact absurd h2 h
  · rintro ⟨rfl, rfl⟩
    have kx : (a.x + (b.x - a.x) * t - (c.x + (d.x - c.x) * s)) * ((b.x - a.x) * (d.y - c.y) - (b.y - a.y) * (d.x - c.x)) = 0 := by grind
    have ky : (a.y + (b.y - a.y) * t - (c.y + (d.y - c.y) * s)) * ((b.x - a.x) * (d.y - c.y) - (b.y - a.y) * (d.x - c.x)) = 0 := by grind
    refine V.ext' ?_ ?_
    · show a.x + (b.x - a.x) * t = c.x + (d.x - c.x) * s
      rcases Rat.mul_eq_zero.1 kx with h2 | h2
      · grind
      · exact absurd h2 h
    · show a.y + (b.y - a.y) * t = c.y + (d.y - c.y) * s
      rcases Rat.mul_eq_zero.1 ky with h2 | h2
      · grind
      · exact absurd h2 h
theorem cross_at (a b c : V) (t : Rat) : (b - a).cross (a.at b t - c) = (b - a).cross (a - c) := by
  show (b.x - a.x) * (a.y + (b.y - a.y) * t - c.y) - (b.y - a.y) * (a.x + (b.x - a.x) * t - c.x) = (b.x - a.x) * (a.y - c.y) - (b.y - a.y) * (a.x - c.x)
  grind
/-- What meets. -/
theorem meet_pts {a b c d : V} (hab : a ≠ b) (hcd : c ≠ d) : (∀ x, meetV a b c d = some x → onS a b x.1 ∧ onS c d x.1 ∧ onS a b x.2 ∧ onS c d x.2 ∧ leP2 x.1 x.2 ∧ ∀ p, onS a b p → onS c d p → leP2 x.1 p ∧ leP2 p x.2) ∧ (meetV a b c d = none → ∀ p, onS a b p → onS c d p → False) := by
  unfold meetV
  by_cases hx : cmpQ ((b - a).cross (d - c)) 0 ≠ 0
  · rw [if_pos hx]
    have hne : (b - a).cross (d - c) ≠ 0 := fun h => hx (cmpQ_eq.2 h)
    by_cases hu : (!unitB ((c - a).cross (d - c) / (b - a).cross (d - c)) || !unitB ((c - a).cross (b - a) / (b - a).cross (d - c))) = true
    · rw [if_pos hu]
      refine ⟨(fun x h => by cases h), fun _ p => ?_⟩
      rintro ⟨t, ⟨h0, h1⟩, rfl⟩ ⟨s, ⟨k0, k1⟩, he⟩
      obtain ⟨e1, e2⟩ := (cramer hne t s).1 he
      rw [← e1, ← e2, unitB_iff.2 ⟨h0, h1⟩, unitB_iff.2 ⟨k0, k1⟩] at hu
      exact absurd hu (by decide)
    · rw [if_neg hu]
      simp only [Bool.or_eq_true, Bool.not_eq_true', not_or, Bool.not_eq_false] at hu
      obtain ⟨u1, u2⟩ := hu
      refine ⟨fun x h => ?_, (fun h => by cases h)⟩
      cases h
      have hon1 : onS a b (a.at b ((c - a).cross (d - c) / (b - a).cross (d - c))) := ⟨_, unitB_iff.1 u1, rfl⟩
      have hon2 : onS c d (a.at b ((c - a).cross (d - c) / (b - a).cross (d - c))) := ⟨_, unitB_iff.1 u2, (cramer hne _ _).2 ⟨rfl, rfl⟩⟩
      refine ⟨hon1, hon2, hon1, hon2, leP2_refl _, fun p => ?_⟩
      rintro ⟨t, ⟨h0, h1⟩, rfl⟩ ⟨s, ⟨k0, k1⟩, he⟩
      obtain ⟨e1, e2⟩ := (cramer hne t s).1 he
      rw [← e1]; exact ⟨leP2_refl _, leP2_refl _⟩
  · rw [if_neg hx]
    have h0 : (b - a).cross (d - c) = 0 := cmpQ_eq.1 (Decidable.not_not.1 hx)
    by_cases hy : cmpQ ((b - a).cross (c - a)) 0 ≠ 0
    · rw [if_pos hy]
      refine ⟨(fun x h => by cases h), fun _ p => ?_⟩
      rintro ⟨t, _, rfl⟩ ⟨s, _, he⟩
      apply hy
      rw [cmpQ_eq]
      have hx : a.x + (b.x - a.x) * t = c.x + (d.x - c.x) * s := congrArg V.x he
      have hy : a.y + (b.y - a.y) * t = c.y + (d.y - c.y) * s := congrArg V.y he
      simp only [V.cross, V.sub_x, V.sub_y] at h0 ⊢
      grind
    · rw [if_neg hy]
      have h1 : (b - a).cross (c - a) = 0 := cmpQ_eq.1 (Decidable.not_not.1 hy)
      obtain ⟨o1, o2, o3⟩ := ord_le a b
      obtain ⟨q1, q2, q3⟩ := ord_le c d
      obtain ⟨g1, g2, g3, g4⟩ := gt_le (ordV a b).1 (ordV c d).1
      obtain ⟨l1, l2, l3, l4⟩ := lt_le' (ordV a b).2 (ordV c d).2
      have ra : (d - c).cross (a - c) = 0 := by
        have hd : b.x - a.x ≠ 0 ∨ b.y - a.y ≠ 0 := by
          by_cases k : b.x = a.x
          · right; intro k2; exact hab (V.ext' k.symm (by grind))
          · left; grind
        simp only [V.cross, V.sub_x, V.sub_y] at h0 h1 ⊢
        rcases hd with k | k
        · have : (b.x - a.x) * ((d.x - c.x) * (a.y - c.y) - (d.y - c.y) * (a.x - c.x)) = 0 := by grind
          rcases Rat.mul_eq_zero.1 this with k2 | k2
          · exact absurd k2 k
          · exact k2
        · have : (b.y - a.y) * ((d.x - c.x) * (a.y - c.y) - (d.y - c.y) * (a.x - c.x)) = 0 := by grind
          rcases Rat.mul_eq_zero.1 this with k2 | k2
          · exact absurd k2 k
          · exact k2
      have onl : ∀ p, (p = a ∨ p = b ∨ p = c ∨ p = d) → (b - a).cross (p - a) = 0 ∧ (d - c).cross (p - c) = 0 := by
        intro p hp
        simp only [V.cross, V.sub_x, V.sub_y] at h0 h1 ra ⊢
        rcases hp with rfl | rfl | rfl | rfl
        · exact ⟨by grind, ra⟩
        · exact ⟨by grind, by grind⟩
        · exact ⟨h1, by grind⟩
        · exact ⟨by grind, by grind⟩
      have ends : ∀ p, (p = (ordV a b).1 ∨ p = (ordV a b).2 ∨ p = (ordV c d).1 ∨ p = (ordV c d).2) → (p = a ∨ p = b ∨ p = c ∨ p = d) := by
        intro p hp
        rcases o3 with e | e <;> rcases q3 with f | f <;> rw [e, f] at hp <;> simp only at hp <;> grind
      have on2 : ∀ p, (p = (ordV a b).1 ∨ p = (ordV a b).2 ∨ p = (ordV c d).1 ∨ p = (ordV c d).2) → leP2 (ordV a b).1 p → leP2 p (ordV a b).2 → leP2 (ordV c d).1 p → leP2 p (ordV c d).2 → onS a b p ∧ onS c d p := by
        intro p hp k1 k2 k3 k4
        obtain ⟨c1, c2⟩ := onl p (ends p hp)
        constructor
        · rw [← o2]
          refine le_at ?_ ?_ k1 k2
          · rcases o3 with e | e <;> rw [e]
            · exact hab
            · exact fun h => hab h.symm
          · rcases o3 with e | e <;> rw [e]
            · exact c1
            · simp only [V.cross, V.sub_x, V.sub_y] at c1 ⊢; grind
        · rw [← q2]
          refine le_at ?_ ?_ k3 k4
          · rcases q3 with e | e <;> rw [e]
            · exact hcd
            · exact fun h => hcd h.symm
          · rcases q3 with e | e <;> rw [e]
            · exact c2
            · simp only [V.cross, V.sub_x, V.sub_y] at c2 ⊢; grind
      have both : ∀ p, onS a b p → onS c d p → leP2 (gtV (ordV a b).1 (ordV c d).1) p ∧ leP2 p (ltV (ordV a b).2 (ordV c d).2) := fun p p1 p2 => by
        obtain ⟨k1, k2⟩ := onS_le o1 ((o2 p).2 p1)
        obtain ⟨k3, k4⟩ := onS_le q1 ((q2 p).2 p2)
        exact ⟨g4 p k1 k3, l4 p k2 k4⟩
      by_cases hz : cmpV (gtV (ordV a b).1 (ordV c d).1) (ltV (ordV a b).2 (ordV c d).2) > 0
      · rw [if_pos hz]
        refine ⟨(fun x h => by cases h), fun _ p p1 p2 => ?_⟩
        obtain ⟨k1, k2⟩ := both p p1 p2
        exact leP2_trans k1 k2 (cmpV_gt.1 hz)
      · rw [if_neg hz]
        have hle : leP2 (gtV (ordV a b).1 (ordV c d).1) (ltV (ordV a b).2 (ordV c d).2) := cmpV_le.1 (by omega)
        refine ⟨fun x h => ?_, (fun h => by cases h)⟩
        cases h
        have e1 := on2 (gtV (ordV a b).1 (ordV c d).1) (by rcases g3 with e | e <;> rw [e] <;> simp) g1 (leP2_trans hle l1) g2 (leP2_trans hle l2)
        have e2 := on2 (ltV (ordV a b).2 (ordV c d).2) (by rcases l3 with e | e <;> rw [e] <;> simp) (leP2_trans g1 hle) l1 (leP2_trans g2 hle) l2
        exact ⟨e1.1, e1.2, e2.1, e2.2, hle, both⟩
end Go.Sx
end
section
set_option linter.unusedVariables false
set_option linter.unusedSimpArgs false
namespace Go.Sx
/-! ### distances of points, of points from segments, of segments -/
structure Met (D : V → V → V → Rat) (δ : V → V → Rat) : Prop where
  le : ∀ {a b p q : V}, a ≠ b → onS a b q → D a b p ≤ δ q p
  at_ : ∀ (a b p : V), ∃ q, onS a b q ∧ D a b p = δ q p
  comm : ∀ p q, δ p q = δ q p
  nn : ∀ p q, 0 ≤ δ p q
  zero : ∀ p q, δ p q = 0 → p = q
  self : ∀ p, δ p p = 0
  move : ∀ p q v, δ (p + v) (q + v) = δ p q
theorem at_move (a b v : V) (t : Rat) : (a + v).at (b + v) t = a.at b t + v := V.ext' (by simp only [V.at_x, V.add_x]; grind) (by simp only [V.at_y, V.add_y]; grind)
theorem onS_move {a b p v : V} : onS (a + v) (b + v) (p + v) ↔ onS a b p := by
  constructor
  · rintro ⟨t, h, e⟩
    refine ⟨t, h, ?_⟩
    rw [at_move] at e
    have e1 : p.x + v.x = (a.at b t).x + v.x := congrArg V.x e
    have e2 : p.y + v.y = (a.at b t).y + v.y := congrArg V.y e
    exact V.ext' (by grind) (by grind)
  · rintro ⟨t, h, rfl⟩; exact ⟨t, h, (at_move a b v t).symm⟩
theorem sub_add_v (q v : V) : q - v + v = q := V.ext' (by simp only [V.add_x, V.sub_x]; grind) (by simp only [V.add_y, V.sub_y]; grind)
theorem add_ne {a b v : V} (h : a ≠ b) : a + v ≠ b + v := fun e => h (V.ext' (by have := congrArg V.x e; simp only [V.add_x] at this; grind) (by have := congrArg V.y e; simp only [V.add_y] at this; grind))
section
variable {D : V → V → V → Rat} {δ : V → V → Rat}
theorem Met.shift (m : Met D δ) {a b : V} (h : a ≠ b) (p v : V) : D (a + v) (b + v) (p + v) = D a b p := by
  obtain ⟨q, h1, e1⟩ := m.at_ a b p
  obtain ⟨r, h2, e2⟩ := m.at_ (a + v) (b + v) (p + v)
  refine Rat.le_antisymm ?_ ?_
  · rw [e1, ← m.move q p v]; exact m.le (add_ne h) (onS_move.2 h1)
  · rw [e2, ← sub_add_v r v, m.move]
    rw [← sub_add_v r v] at h2
    exact m.le h (onS_move.1 h2)
end
/-- The least of four. -/
theorem ext4_le {a b c d m : Rat} : m ≤ extQ (-1) a [b, c, d] ↔ m ≤ a ∧ m ≤ b ∧ m ≤ c ∧ m ≤ d := by
  have one : ∀ x y : Rat, cmpQ y x = -1 ↔ y < x := fun x y => by
    rcases cmpQ_val y x with ⟨h1, h2⟩ | ⟨h1, h2⟩ | ⟨h1, h2⟩
    · exact ⟨fun _ => h2, fun _ => h1⟩
    · rw [h1]; exact ⟨fun h => absurd h (by decide), fun h => by grind⟩
    · rw [h1]; exact ⟨fun h => absurd h (by decide), fun h => by grind⟩
  simp only [extQ, one]
  split <;> split <;> split <;> constructor <;> intro h <;> grind
end Go.Sx
end
section
set_option linter.unusedVariables false
set_option linter.unusedSimpArgs false
namespace Go.Sx
section
variable {D : V → V → V → Rat} {δ : V → V → Rat} {a b c d : V}
end
end Go.Sx
end
section
set_option maxRecDepth 10000
set_option maxHeartbeats 2000000
set_option linter.unusedSimpArgs false
set_option linter.unusedVariables false
set_option pp.deepTerms false
set_option pp.deepTerms.threshold 6
namespace Go.Sx
open Go Go.Proofs
end Go.Sx
end
section
set_option maxRecDepth 10000
set_option maxHeartbeats 2000000
set_option linter.unusedSimpArgs false
set_option linter.unusedVariables false
set_option pp.deepTerms false
set_option pp.deepTerms.threshold 6
namespace Go.Sx
open Go Go.Proofs
/-! ### the reference of whole numbers -/
theorem bs_nil_iff {l : List UInt8} : ((bs l).toList == ByteArray.toList ⟨#[]⟩) = decide (l = []) := by
  rw [bs_toList, show ByteArray.toList ⟨#[]⟩ = [] from bs_toList []]
  cases l <;> simp
theorem r_trim (l : List UInt8) : Fn PP f_narrowsref01_trim [.string (bs l)] (.string (bs (stripL l))) := by
  refine Fn.of TBgood mixed h_narrowsref01_trim rfl rfl (Nat.le_of_ble_eq_true rfl) ?_
  intro w
  conv => whnf
  refine sexec_loop (ι := List UInt8) (fun k => ⟨[(0, .o (.v (.string (bs k))))], [], []⟩) (fun k => stripL k = stripL l) (fun k => k.length) l rfl (SLe.id ⟨rfl, trivial⟩ trivial (by simp)) ?_
  intro k hk
  conv => whnf
  refine br_split ?_ ?_
  · intro h
    rcases k with _ | ⟨x, r⟩
    · exact absurd (of_decide_eq_true h) (by decide)
    conv => whnf
    refine ⟨by simp [bs_size], ?_⟩
    conv => whnf
    refine br_split ?_ ?_
    · intro h2
      conv => whnf
      refine ⟨by simp [bs_size]; omega, ?_⟩
      conv => whnf
      refine ⟨r, ?_, by simp, ?_⟩
      · rw [← hk, stripL, if_pos]
        have h3 : x.toNat = 0 := by simpa [sb_bs] using h2
        exact UInt8.toNat_inj.1 h3
      · refine SLe.id ⟨?_, trivial⟩ trivial (by simp)
        show some _ = some _
        simp [SV.ren, AV.ren, bs_extract, bs_size]
    · intro h2
      conv => whnf
      refine postV_one ?_
      show Value.string (bs (x :: r)) = _
      rw [← hk, stripL, if_neg]
      intro h3
      subst h3
      simp [sb_bs] at h2
  · intro h
    conv => whnf
    refine postV_one ?_
    have : k = [] := by
      have h2 : ¬ ((k.length : Nat) : Int) > 0 := of_decide_eq_false h
      exact List.length_eq_zero_iff.1 (by omega)
    subst this
    show Value.string (bs []) = _
    rw [← hk]; rfl
theorem sg_neg {b : Bool} {m : Nat} (h : 0 < m) : decide (sg b m < 0) = b := by
  unfold sg; cases b <;> simp <;> omega
theorem nat_pos_head {x : UInt8} {r : List UInt8} (h : x ≠ 0) : 0 < nat (x :: r) := by
  rw [nat_cons]
  have h1 : 0 < x.toNat := by
    rcases Nat.eq_zero_or_pos x.toNat with h2 | h2
    · exact absurd (UInt8.toNat_inj.1 h2) h
    · exact h2
  have := Nat.mul_pos h1 (Nat.pow_pos (n := r.length) (show 0 < 256 by decide))
  omega
theorem r_Canonical (b : Bool) (l : List UInt8) : Fn PP f_narrowsref01_Canonical [intV b (bs l)] (zV (sg b (nat l))) := by
  refine Fn.of TBgood mixed h_narrowsref01_Canonical rfl rfl (Nat.le_of_ble_eq_true rfl) ?_
  intro w
  have hz : zV (sg b (nat l)) = intV (decide (sg b (nat l) < 0)) (bs (bytes (nat l))) := by rw [zV, sg_natAbs]
  have slow : stripL l = bytes (nat l) := stripL_eq l
  conv => whnf
  refine br_split ?_ ?_
  · intro h
    rcases l with _ | ⟨x, r⟩
    · exact absurd (of_decide_eq_true h) (by decide)
    conv => whnf
    refine ⟨by simp [bs_size], ?_⟩
    conv => whnf
    refine br_split ?_ ?_
    · intro h2
      have hx : x ≠ 0 := by
        intro h3
        subst h3
        simp [sb_bs] at h2
      conv => whnf
      refine postV_one ?_
      rw [hz, sg_neg (nat_pos_head hx), bytes_nat (by simpa using hx)]
    · intro h2
      conv => whnf
      refine CallVC.fn (r_trim (x :: r)) rfl ?_
      rw [slow]
      cases b with
      | false =>
        conv => whnf
        refine postV_one ?_
        rw [hz, show decide (sg false (nat (x :: r)) < 0) = false from decide_eq_false (by unfold sg; simp)]
      | true =>
        conv => whnf
        refine postV_one ?_
        rw [hz]
        show intV (!((bs (bytes (nat (x :: r)))).toList == ByteArray.toList ⟨#[]⟩)) _ = _
        rw [bs_nil_iff]
        rcases Nat.eq_zero_or_pos (nat (x :: r)) with h0 | h0
        · rw [h0, bytes_zero]; rfl
        · rw [sg_neg h0, decide_eq_false (fun h => by have := bytes_nil.1 h; omega)]; rfl
  · intro h
    have hl : l = [] := by
      have h2 : ¬ ((l.length : Nat) : Int) > 0 := of_decide_eq_false h
      exact List.length_eq_zero_iff.1 (by omega)
    conv => whnf
    refine CallVC.fn (r_trim l) rfl ?_
    rw [slow]
    cases b with
    | false =>
      conv => whnf
      refine postV_one ?_
      rw [hz, show decide (sg false (nat l) < 0) = false from decide_eq_false (by unfold sg; simp)]
    | true =>
      conv => whnf
      refine postV_one ?_
      rw [hz]
      show intV (!((bs (bytes (nat l))).toList == ByteArray.toList ⟨#[]⟩)) _ = _
      rw [bs_nil_iff]
      rcases Nat.eq_zero_or_pos (nat l) with h0 | h0
      · rw [h0, bytes_zero]; rfl
      · rw [sg_neg h0, decide_eq_false (fun h => by have := bytes_nil.1 h; omega)]; rfl
theorem r_small (l : List UInt8) (h1 : l.length ≤ 7) : Fn PP f_narrowsref01_small [.string (bs l)] (.int .i64 (nat l)) := by
  refine Fn.of TBgood mixed h_narrowsref01_small rfl rfl (Nat.le_of_ble_eq_true rfl) ?_
  intro w
  conv => whnf
  refine sexec_loop (ι := Nat) (fun i => ⟨[(0, .o (.v (.string (bs l)))), (3, .o (.v (.int .i64 (nat (l.take i))))), (4, .o (.v (.int .i64 i)))], [], []⟩)
    (fun i => i ≤ l.length) (fun i => l.length - i) 0 (Nat.zero_le _) (SLe.id ⟨rfl, rfl, rfl, trivial⟩ trivial (fun R hR => hR)) ?_
  intro i hi
  conv => whnf
  refine br_split ?_ ?_
  · intro h2
    have hi2 : i < l.length := by
      have : (i : Int) < (l.length : Int) := of_decide_eq_true h2
      omega
    conv => whnf
    refine ⟨by decide, ?_⟩
    conv => whnf
    refine ⟨⟨by omega, by show (i : Int) < (l.length : Int); omega⟩, ?_⟩
    conv => whnf
    obtain ⟨x, hx⟩ : ∃ x, x = l[i] := ⟨_, rfl⟩
    have hg : l.getD i 0 = x := by rw [hx, List.getD_eq_getElem?_getD, List.getElem?_eq_getElem hi2]; rfl
    have htk : l.take (i + 1) = l.take i ++ [x] := by rw [List.take_succ_eq_append_getElem hi2, hx]
    have hnat : nat (l.take (i + 1)) = x.toNat + 256 * nat (l.take i) := by rw [htk, nat_snoc]
    have hnb : nat (l.take i) < 256 ^ 6 := nat_bound (by rw [List.length_take]; omega)
    have hxb : x.toNat < 256 := x.toBitVec.isLt
    have hor : IntKind.i64.wrap (BitVec.toNat (w := 64) (BitVec.ofInt 64 (IntKind.i64.wrap ((nat (l.take i) : Int) * 2 ^ min (8 : Int).toNat IntKind.i64.bits)) ||| BitVec.ofInt 64 (IntKind.i64.wrap (sb (bs l) (i : Int)))) : Int) = (nat (l.take (i + 1)) : Int) := by
      have e1 : IntKind.i64.wrap ((nat (l.take i) : Int) * 2 ^ min (8 : Int).toNat IntKind.i64.bits) = ((nat (l.take i) * 2 ^ 8 : Nat) : Int) := by
        rw [show min (8 : Int).toNat IntKind.i64.bits = 8 from rfl, wrap_i64 (by omega) (by omega)]; omega
      have e2 : IntKind.i64.wrap (sb (bs l) (i : Int)) = (x.toNat : Int) := by
        rw [sb_bs, Int.toNat_natCast, hg, wrap_i64 (by omega) (by omega)]
      rw [e1, e2, BitVec.toNat_or, ofInt64_toNat (by omega), ofInt64_toNat (by omega), Nat.mul_comm, ← Nat.two_pow_add_eq_or_of_lt (show x.toNat < 2 ^ 8 by omega), hnat]
      rw [wrap_i64 (by omega) (by omega)]; omega
    refine ⟨i + 1, by omega, by omega, SLe.id ⟨rfl, ?_, ?_, trivial⟩ trivial (fun R hR => hR)⟩
    · show some (SV.o (.v (.int .i64 (IntKind.i64.wrap (BitVec.toNat (w := 64) (BitVec.ofInt 64 _ ||| BitVec.ofInt 64 _) : Int))))) = some (SV.o (.v (.int .i64 (nat (l.take (i + 1)) : Int))))
      rw [hor]
    · show some (SV.o (.v (.int _ (IntKind.i64.wrap ((i : Int) + 1))))) = some (SV.o (.v (.int _ ((i + 1 : Nat) : Int))))
      rw [wrap_i64 (by omega) (by omega)]; rfl
  · intro h2
    have hi2 : i = l.length := by
      have : ¬ (i : Int) < (l.length : Int) := of_decide_eq_false h2
      omega
    subst hi2
    rw [List.take_length]
    conv => whnf
    exact postV_one rfl
theorem neg_wrap {n : Nat} (h : n < 9223372036854775808) : IntKind.i64.wrap (0 - (n : Int)) = -(n : Int) := by rw [wrap_i64 (by omega) (by omega)]; omega
theorem nat7 {l : List UInt8} (h : l.length ≤ 7) : nat l < 72057594037927936 := by
  have := nat_bound h
  simpa using this
theorem r_value (b : Bool) (l : List UInt8) (h1 : l.length ≤ 7) : Fn PP f_narrowsref01_value [intV b (bs l)] (.int .i64 (sg b (nat l))) := by
  refine Fn.of TBgood mixed h_narrowsref01_value rfl rfl (Nat.le_of_ble_eq_true rfl) ?_
  intro w
  have hn := nat7 h1
  cases b with
  | true =>
    conv => whnf
    refine CallVC.fn (r_small l h1) rfl ?_
    conv => whnf
    refine postV_one ?_
    rw [neg_wrap (by omega)]; rfl
  | false =>
    conv => whnf
    refine CallVC.fn (r_small l h1) rfl ?_
    conv => whnf
    exact postV_one rfl
theorem byte_one {n : Nat} (h0 : 0 < n) (h : n < 256) : bytes n = [UInt8.ofNat n] := by
  rw [bytes_step h0, show n / 256 = 0 by omega, bytes_zero, Nat.mod_eq_of_lt h]; rfl
theorem r_mag (n : Nat) (hn : n < 9223372036854775808) : Fn PP f_narrowsref01_mag [.int .i64 n] (.string (bs (bytes n))) := by
  refine Fn.of TBgood mixed h_narrowsref01_mag rfl rfl (Nat.le_of_ble_eq_true rfl) ?_
  intro w
  conv => whnf
  refine br_split ?_ ?_
  · intro h
    have hn2 : n < 256 := by
      have : (n : Int) < 256 := of_decide_eq_true h
      omega
    conv => whnf
    refine br_split ?_ ?_
    · intro h0
      have hn0 : n = 0 := by
        have : (n : Int) = 0 := eq_of_beq h0
        omega
      subst hn0
      conv => whnf
      refine postV_one ?_
      rw [bytes_zero]; rfl
    · intro h0
      have hn0 : 0 < n := by
        have : ¬ (n : Int) = 0 := ne_of_beq_false h0
        omega
      conv => whnf
      have hw : IntKind.u8.wrap (n : Int) = ((UInt8.ofNat n).toNat : Int) := by
        rw [IntKind.wrap_u8]
        have : (UInt8.ofNat n).toNat = n := by simp; omega
        rw [this]; omega
      refine ⟨[UInt8.ofNat n], rfl, ?_, ?_⟩
      · show [Value.int .u8 (IntKind.u8.wrap (n : Int))] = _
        rw [hw]; rfl
      conv => whnf
      refine postV_one ?_
      rw [byte_one hn0 hn2]; rfl
  intro hbig
  conv => whnf
  refine sexec_loop (ι := Nat × Nat × List UInt8) (fun ⟨i, c, L⟩ => ⟨[(0, .o (.v (.int .i64 c))), (3, .o (.p 3 0)), (4, .o (.v (.int .i64 i)))], [(3, .sym (rowV u8c (List.replicate i 0 ++ L)) t_ar8_uint8)], []⟩)
    (fun ⟨i, c, L⟩ => i + L.length = 8 ∧ c < 256 ^ i ∧ bytes n = bytes c ++ L) (fun ⟨i, c, L⟩ => c) (8, n, []) ⟨rfl, by omega, by simp⟩ (SLe.id ⟨rfl, rfl, rfl, trivial⟩ ⟨⟨_, rfl, .sym _ rfl⟩, trivial⟩ (fun R hR => hR)) ?_
  rintro ⟨i, c, L⟩ ⟨hL, hc, hb⟩
  conv => whnf
  refine br_split ?_ ?_
  · intro h
    have hc0 : 0 < c := by
      have : (c : Int) > 0 := of_decide_eq_true h
      omega
    conv => whnf
    have hi0 : 0 < i := by
      rcases Nat.eq_zero_or_pos i with h2 | h2
      · rw [h2] at hc; omega
      · exact h2
    obtain ⟨j, rfl⟩ : ∃ j, i = j + 1 := ⟨i - 1, by omega⟩
    have hij : IntKind.i64.wrap (((j + 1 : Nat) : Int) - 1) = (j : Int) := by rw [wrap_i64 (by omega) (by omega)]; omega
    refine ⟨by rw [hij]; show 0 ≤ (j : Int) ∧ (j : Int) < ((8 : Nat) : Int); omega, ?_⟩
    conv => whnf
    refine ⟨by rw [hij, rowV_length u8c_len]; show 0 + j * 1 + 1 ≤ _; simp, ?_⟩
    conv => whnf
    refine ⟨by decide, ?_⟩
    conv => whnf
    have hcn : c ≤ n ∨ n < c := by omega
    have hcb : c < 9223372036854775808 := by
      have h8 : (256 : Nat) ^ (j + 1) ≤ 256 ^ 8 := Nat.pow_le_pow_right (by decide) (by omega)
      have hcm : nat (bytes c) ≤ nat (bytes n) := by
        rw [hb, nat_append]
        have : nat (bytes c) * 1 ≤ nat (bytes c) * 256 ^ L.length := Nat.mul_le_mul_left _ (Nat.pow_pos (by decide))
        omega
      rw [nat_bytes, nat_bytes] at hcm
      omega
    refine ⟨(j, c / 256, UInt8.ofNat (c % 256) :: L), ⟨by simp; omega, ?_, ?_⟩, by show c / 256 < c; omega, SLe.id ⟨?_, rfl, ?_, trivial⟩ ⟨⟨_, rfl, ?_⟩, trivial⟩ (fun R hR => hR)⟩
    · show c / 256 < 256 ^ j
      rw [Nat.pow_succ] at hc; omega
    · rw [hb, bytes_step hc0]; simp
    · show some (SV.o (.v (.int .i64 (Int.fdiv (c : Int) (2 ^ min (8 : Int).toNat IntKind.i64.bits))))) = some (SV.o (.v (.int .i64 ((c / 256 : Nat) : Int))))
      rw [show min (8 : Int).toNat IntKind.i64.bits = 8 from rfl, Int.fdiv_eq_ediv_of_nonneg _ (by decide)]; rfl
    · show some (SV.o (.v (.int .i64 (IntKind.i64.wrap (((j + 1 : Nat) : Int) - 1))))) = some (SV.o (.v (.int .i64 (j : Int))))
      rw [hij]
    · show MEle (ME.sym (putN (0 + (IntKind.i64.wrap (((j + 1 : Nat) : Int) - 1)).toNat * 1) [Value.int .u8 (IntKind.u8.wrap (c : Int))] (rowV u8c (List.replicate (j + 1) 0 ++ L))) _) (ME.sym (rowV u8c (List.replicate j 0 ++ (UInt8.ofNat (c % 256) :: L))) _)
      have hw : IntKind.u8.wrap (c : Int) = ((UInt8.ofNat (c % 256)).toNat : Int) := by
        rw [IntKind.wrap_u8]
        have : (UInt8.ofNat (c % 256)).toNat = c % 256 := by simp
        rw [this]; omega
      have hput := rowV_put (f := u8c) u8c_len (k := j) (l := List.replicate (j + 1) 0 ++ L) (UInt8.ofNat (c % 256)) (by simp; omega)
      have hset : (List.replicate (j + 1) 0 ++ L).set j (UInt8.ofNat (c % 256)) = List.replicate j 0 ++ (UInt8.ofNat (c % 256) :: L) := by
        rw [List.replicate_succ', List.append_assoc, List.set_append_right _ _ (by simp)]
        simp
      rw [hset] at hput
      rw [hij, hw, Int.toNat_natCast, Nat.zero_add, ← hput]
      exact .refl _
  · intro h
    have hc0 : c = 0 := by
      have : ¬ (c : Int) > 0 := of_decide_eq_false h
      omega
    subst hc0
    rw [bytes_zero, List.nil_append] at hb
    conv => whnf
    refine ⟨by show 0 ≤ (i : Int) ∧ (i : Int) ≤ ((8 : Nat) : Int) ∧ ((8 : Nat) : Int) ≤ ((8 : Nat) : Int); omega, ?_⟩
    conv => whnf
    have hdrop : ((rowV u8c (List.replicate i 0 ++ L)).drop (bif Nat.beq 8 ((i : Int).toNat) then 0 else 0 + (i : Int).toNat * 1)).take (((8 : Nat) : Int).toNat - (i : Int).toNat) = bytV L := by
      rw [Int.toNat_natCast, Int.toNat_natCast]
      cases hb8 : Nat.beq 8 i with
      | true =>
        have h8 := Nat.eq_of_beq_eq_true hb8
        have hL0 : L = [] := List.length_eq_zero_iff.1 (by omega)
        rw [hL0, ← h8]; rfl
      | false =>
        rw [cond_false, Nat.zero_add, rowV_drop u8c_len]
        have : (List.replicate i 0 ++ L).drop i = L := by
          have := List.drop_left (l₁ := List.replicate i (0 : UInt8)) (l₂ := L)
          rwa [List.length_replicate] at this
        rw [this, rowV_u8, show 8 - i = L.length by omega]
        have : (bytV L).length = L.length := by simp [bytV]
        rw [← this, List.take_length]
    refine ⟨L, by rw [Int.toNat_natCast, Int.toNat_natCast]; omega, hdrop, ?_⟩
    conv => whnf
    refine postV_one ?_
    rw [hb]; rfl
theorem r_Of (n : Int) (h1 : -9223372036854775808 ≤ n) (h2 : n ≤ 9223372036854775807) : Fn PP f_narrowsref01_Of [.int .i64 n] (zV n) := by
  refine Fn.of TBgood mixed h_narrowsref01_Of rfl rfl (Nat.le_of_ble_eq_true rfl) ?_
  intro w
  conv => whnf
  refine br_split ?_ ?_
  · intro h
    have h0 : 0 ≤ n := of_decide_eq_true h
    obtain ⟨m, rfl⟩ := Int.eq_ofNat_of_zero_le h0
    conv => whnf
    refine CallVC.fn (r_mag m (by omega)) rfl ?_
    conv => whnf
    refine postV_one ?_
    rw [zV, decide_eq_false (by omega), Int.natAbs_natCast]
  · intro h
    have h0 : ¬ 0 ≤ n := of_decide_eq_false h
    conv => whnf
    refine br_split ?_ ?_
    · intro he
      have he2 : n = IntKind.i64.wrap (0 - n) := eq_of_beq he
      have hm : n = -9223372036854775808 := by
        by_cases hm : n = -9223372036854775808
        · exact hm
        · rw [wrap_i64 (by omega) (by omega)] at he2; omega
      subst hm
      conv => whnf
      refine postV_one ?_
      show intV true ⟨#[128, 0, 0, 0, 0, 0, 0, 0]⟩ = zV (-9223372036854775808)
      rw [zV, decide_eq_true (by decide)]
      have : bytes (-9223372036854775808 : Int).natAbs = [128, 0, 0, 0, 0, 0, 0, 0] := by decide +kernel
      rw [this]; rfl
    · intro he
      have hm : ¬ n = -9223372036854775808 := fun hm => by
        subst hm
        exact absurd he (by decide)
      obtain ⟨m, rfl⟩ : ∃ m : Nat, n = -(m : Int) := ⟨n.natAbs, by omega⟩
      conv => whnf
      have hw : IntKind.i64.wrap (0 - -(m : Int)) = (m : Int) := by rw [wrap_i64 (by omega) (by omega)]; omega
      refine CallVC.fn (r_mag m (by omega)) (by show [SV.o (.v (.int .i64 (IntKind.i64.wrap (0 - -(m : Int)))))] = _; rw [hw]; rfl) ?_
      conv => whnf
      refine postV_one ?_
      rw [zV, decide_eq_true (by omega), Int.natAbs_neg, Int.natAbs_natCast]
end Go.Sx
end
section
set_option maxRecDepth 10000
set_option maxHeartbeats 2000000
set_option linter.unusedSimpArgs false
set_option linter.unusedVariables false
set_option pp.deepTerms false
set_option pp.deepTerms.threshold 6
namespace Go.Sx
open Go Go.Proofs
theorem bytesLess_nat : ∀ (a b : List UInt8), a.length = b.length → Op.bytesLess a b = decide (nat a < nat b)
  | [], [], _ => rfl
  | x :: a, [], h => by cases h
  | [], y :: b, h => by cases h
  | x :: a, y :: b, h => by
    have hl : a.length = b.length := by simpa using h
    have ih := bytesLess_nat a b hl
    have ha := nat_lt a
    have hb := nat_lt b
    rw [Op.bytesLess, ih, nat_cons, nat_cons, ← hl]
    rw [← hl] at hb
    rw [Bool.eq_iff_iff]
    simp only [Bool.or_eq_true, Bool.and_eq_true, decide_eq_true_eq, beq_iff_eq, UInt8.lt_iff_toNat_lt]
    generalize 256 ^ a.length = B at *
    constructor
    · rintro (h1 | ⟨rfl, h1⟩)
      · have : (x.toNat + 1) * B ≤ y.toNat * B := Nat.mul_le_mul_right _ h1
        rw [Nat.add_mul] at this; omega
      · omega
    · intro h1
      rcases Nat.lt_trichotomy x.toNat y.toNat with h2 | h2 | h2
      · exact .inl h2
      · right; exact ⟨UInt8.toNat_inj.1 h2, by rw [h2] at h1; omega⟩
      · exfalso
        have : (y.toNat + 1) * B ≤ x.toNat * B := Nat.mul_le_mul_right _ h2
        rw [Nat.add_mul] at this; omega
theorem bytes_lt_of_len {m n : Nat} (h : (bytes m).length < (bytes n).length) : m < n := by
  have h1 := nat_lt (bytes m)
  rw [nat_bytes] at h1
  have h2 : ¬ n < 256 ^ (bytes m).length := fun h2 => by have := bytes_len h2; omega
  omega
theorem r_compareMag (m n : Nat) : Fn PP f_narrowsref01_compareMag [.string (bs (bytes m)), .string (bs (bytes n))] (.int .i64 (cmpN m n)) := by
  refine Fn.of TBgood mixed h_narrowsref01_compareMag rfl rfl (Nat.le_of_ble_eq_true rfl) ?_
  intro w
  conv => whnf
  refine br_split ?_ ?_
  · intro h
    have hne : (bytes m).length ≠ (bytes n).length := by
      intro he
      have h2 : (((bytes m).length : Int) != ((bytes n).length : Int)) = true := h
      rw [he] at h2
      simp at h2
    conv => whnf
    refine br_split ?_ ?_
    · intro h2
      have h3 : (bytes m).length < (bytes n).length := by
        have : ((bytes m).length : Int) < ((bytes n).length : Int) := of_decide_eq_true h2
        omega
      conv => whnf
      refine postV_one ?_
      rw [cmpN, if_pos (bytes_lt_of_len h3)]
    · intro h2
      have h3 : (bytes n).length < (bytes m).length := by
        have : ¬ ((bytes m).length : Int) < ((bytes n).length : Int) := of_decide_eq_false h2
        omega
      have h4 := bytes_lt_of_len h3
      conv => whnf
      refine postV_one ?_
      rw [cmpN, if_neg (by omega), if_pos h4]
  · intro h
    have he : (bytes m).length = (bytes n).length := by
      have h2 : (((bytes m).length : Int) != ((bytes n).length : Int)) = false := h
      simp at h2; omega
    conv => whnf
    have hb1 := bytesLess_nat (bytes m) (bytes n) he
    rw [nat_bytes, nat_bytes] at hb1
    rcases Nat.lt_trichotomy m n with h1 | h1 | h1
    · refine br_true (by rw [bs_toList, bs_toList, hb1]; exact decide_eq_true h1) ?_
      conv => whnf
      refine postV_one ?_
      rw [cmpN, if_pos h1]
    · refine br_false (by rw [bs_toList, bs_toList, hb1]; exact decide_eq_false (by omega)) ?_
      conv => whnf
      refine br_false (by rw [bs_toList, bs_toList, hb1, h1]; simp) ?_
      conv => whnf
      refine postV_one ?_
      rw [cmpN, if_neg (by omega), if_neg (by omega)]
    · refine br_false (by rw [bs_toList, bs_toList, hb1]; exact decide_eq_false (by omega)) ?_
      conv => whnf
      refine br_true (by
        rw [bs_toList, bs_toList, hb1, decide_eq_false (show ¬ m < n by omega)]
        have : bytes m ≠ bytes n := fun h => by have := bytes_inj h; omega
        simp [this]) ?_
      conv => whnf
      refine postV_one ?_
      rw [cmpN, if_neg (by omega), if_pos h1]
/-! ### digit by digit -/
def dgt (l : List UInt8) (j : Nat) : Nat := if j < l.length then (l.getD (l.length - 1 - j) 0).toNat else 0
def low (l : List UInt8) (j : Nat) : Nat := nat (l.drop (l.length - j))
theorem low_zero (l : List UInt8) : low l 0 = 0 := by unfold low; rw [Nat.sub_zero, List.drop_length]; rfl
theorem low_all {l : List UInt8} {j : Nat} (h : l.length ≤ j) : low l j = nat l := by unfold low; rw [show l.length - j = 0 by omega, List.drop_zero]
theorem low_succ (l : List UInt8) (j : Nat) : low l (j + 1) = dgt l j * 256 ^ j + low l j := by
  unfold low dgt
  by_cases h : j < l.length
  · rw [if_pos h]
    have e : l.length - (j + 1) = l.length - 1 - j := by omega
    have hlt : l.length - 1 - j < l.length := by omega
    rw [e, List.drop_eq_getElem_cons hlt, nat_cons, show l.length - 1 - j + 1 = l.length - j by omega]
    have : (l.drop (l.length - j)).length = j := by rw [List.length_drop]; omega
    rw [this, List.getD_eq_getElem?_getD, List.getElem?_eq_getElem hlt]; rfl
  · rw [if_neg h, show l.length - (j + 1) = l.length - j by omega]; omega
theorem dgt_lt (l : List UInt8) (j : Nat) : dgt l j < 256 := by
  unfold dgt; split
  · exact (l.getD (l.length - 1 - j) 0).toBitVec.isLt
  · decide
theorem set_front {k : Nat} {L : List UInt8} (x : UInt8) : (List.replicate (k + 1) 0 ++ L).set k x = List.replicate k 0 ++ (x :: L) := by
  rw [List.replicate_succ', List.append_assoc, List.set_append_right _ _ (by simp)]
  simp
theorem sb_dgt (l : List UInt8) {j : Nat} (h : j < l.length) {z : Int} (hz : z = (l.length : Int) - ((j + 1 : Nat) : Int)) : sb (bs l) z = (dgt l j : Int) := by
  rw [sb_bs, hz]
  unfold dgt
  rw [if_pos h, show ((l.length : Int) - ((j + 1 : Nat) : Int)).toNat = l.length - 1 - j by omega]
theorem nat_cons_lt {x : Nat} (hx : x < 256) (L : List UInt8) : nat (UInt8.ofNat x :: L) = x * 256 ^ L.length + nat L := by
  rw [nat_cons, UInt8.toNat_ofNat', Nat.mod_eq_of_lt hx]
theorem max_eq (a b : Nat) : (if (b : Int) > (a : Int) then (b : Int) else (a : Int)) = ((max a b : Nat) : Int) := by
  by_cases h : (b : Int) > (a : Int)
  · rw [if_pos h]; omega
  · rw [if_neg h]; omega
theorem rep_front (n : Nat) : repl n [Value.int .u8 0] = rowV u8c (List.replicate n 0) := by rw [rowV_repl]; rfl
theorem add_step {P c da db nL A B : Nat} (h : nL + c * P = A + B) : (c + da + db) % 256 * P + nL + (c + da + db) / 256 * (P * 256) = (da * P + A) + (db * P + B) := by
  have h1 : (c + da + db) * P = (c + da + db) % 256 * P + (c + da + db) / 256 * (P * 256) := by
    have := Nat.mod_add_div (c + da + db) 256
    rw [Nat.mul_comm P 256, ← Nat.mul_assoc, ← Nat.add_mul, Nat.mul_comm _ 256, this]
  rw [Nat.add_mul, Nat.add_mul] at h1
  omega
theorem u8_mod {x : Nat} : IntKind.u8.wrap (x : Int) = ((UInt8.ofNat (x % 256)).toNat : Int) := by
  rw [IntKind.wrap_u8, UInt8.toNat_ofNat']; omega
theorem put_front {N k : Nat} {L : List UInt8} {x : Nat} {z : Int} {v : Value} (hk : N = k + 1) (hz : z = (k : Int)) (hv : v = .int .u8 (x : Int)) :
    putN (z.toNat * 1) [Value.int .u8 (IntKind.u8.wrap (x : Int))] (rowV u8c (List.replicate N 0 ++ L)) = rowV u8c (List.replicate k 0 ++ (UInt8.ofNat (x % 256) :: L)) := by
  have hput := rowV_put (f := u8c) u8c_len (k := k) (l := List.replicate (k + 1) 0 ++ L) (UInt8.ofNat (x % 256)) (by simp; omega)
  rw [set_front] at hput
  rw [hz, hk, Int.toNat_natCast, ← hput, u8_mod]; rfl
theorem fdiv8 (x : Nat) : Int.fdiv (x : Int) (2 ^ min (8 : Int).toNat IntKind.i64.bits) = ((x / 256 : Nat) : Int) := by
  rw [show min (8 : Int).toNat IntKind.i64.bits = 8 from rfl, Int.fdiv_eq_ediv_of_nonneg _ (by decide)]; rfl
theorem r_addMag (a b : List UInt8) (ha : a.length ≤ 500000000) (hb : b.length ≤ 500000000) : Fn PP f_narrowsref01_addMag [.string (bs a), .string (bs b)] (.string (bs (bytes (nat a + nat b)))) := by
  refine Fn.of TBgood mixed h_narrowsref01_addMag rfl rfl (Nat.le_of_ble_eq_true rfl) ?_
  intro w
  obtain ⟨m, hm⟩ : ∃ m, m = max a.length b.length := ⟨_, rfl⟩
  have hmx : (if ((b.length : Nat) : Int) > ((a.length : Nat) : Int) then ((b.length : Nat) : Int) else ((a.length : Nat) : Int)) = (m : Int) := by rw [hm]; exact max_eq _ _
  obtain ⟨N, hN⟩ : ∃ N, N = m + 1 := ⟨_, rfl⟩
  have hw1 : IntKind.i64.wrap ((if ((b.length : Nat) : Int) > ((a.length : Nat) : Int) then ((b.length : Nat) : Int) else ((a.length : Nat) : Int)) + 1) = (N : Int) := by rw [hmx, wrap_i64 (by omega) (by omega)]; omega
  conv => whnf
  refine ⟨?_, ?_⟩
  · show 0 ≤ IntKind.i64.wrap ((if ((b.length : Nat) : Int) > ((a.length : Nat) : Int) then ((b.length : Nat) : Int) else ((a.length : Nat) : Int)) + 1) ∧ IntKind.i64.wrap ((if ((b.length : Nat) : Int) > ((a.length : Nat) : Int) then ((b.length : Nat) : Int) else ((a.length : Nat) : Int)) + 1) ≤ IntKind.i64.wrap ((if ((b.length : Nat) : Int) > ((a.length : Nat) : Int) then ((b.length : Nat) : Int) else ((a.length : Nat) : Int)) + 1) ∧ ((1 : Nat) : Int) * IntKind.i64.wrap ((if ((b.length : Nat) : Int) > ((a.length : Nat) : Int) then ((b.length : Nat) : Int) else ((a.length : Nat) : Int)) + 1) ≤ 281474976710656 ∧ IntKind.i64.wrap ((if ((b.length : Nat) : Int) > ((a.length : Nat) : Int) then ((b.length : Nat) : Int) else ((a.length : Nat) : Int)) + 1) ≤ 9223372036854775807
    rw [hw1]; omega
  conv => whnf
  refine sexec_loop (ι := Nat × Nat × List UInt8) (fun ⟨j, c, L⟩ => ⟨[(0, .o (.v (.string (bs a)))), (1, .o (.v (.string (bs b)))), (5, .o (.v (.int .i64 N))), (6, .o (.w 16)), (7, .o (.v (.int .i64 c))), (8, .o (.v (.int .i64 (j + 1 : Nat))))], [(16, .own t_uint8 1 N (rowV u8c (List.replicate (N - j) 0 ++ L)))], []⟩)
    (fun ⟨j, c, L⟩ => j ≤ N ∧ L.length = j ∧ c ≤ 1 ∧ nat L + c * 256 ^ j = low a j + low b j) (fun ⟨j, c, L⟩ => N - j) (0, 0, []) ⟨Nat.zero_le _, rfl, by decide, by rw [low_zero, low_zero]; rfl⟩ (SLe.id ⟨rfl, rfl, ?_, rfl, rfl, rfl, trivial⟩ ⟨⟨_, rfl, ?_⟩, trivial⟩ (fun R hR => hR)) ?_
  · show some (SV.o (.v (.int .i64 (IntKind.i64.wrap ((if ((b.length : Nat) : Int) > ((a.length : Nat) : Int) then ((b.length : Nat) : Int) else ((a.length : Nat) : Int)) + 1))))) = _
    rw [hw1]; rfl
  · show MEle (ME.own t_uint8 1 (IntKind.i64.wrap ((if ((b.length : Nat) : Int) > ((a.length : Nat) : Int) then ((b.length : Nat) : Int) else ((a.length : Nat) : Int)) + 1)).toNat (repl (IntKind.i64.wrap ((if ((b.length : Nat) : Int) > ((a.length : Nat) : Int) then ((b.length : Nat) : Int) else ((a.length : Nat) : Int)) + 1)).toNat [Value.int .u8 0])) (ME.own t_uint8 1 N (rowV u8c (List.replicate (N - 0) 0 ++ [])))
    rw [hw1, Int.toNat_natCast, rep_front, List.append_nil]; exact .refl _
  rintro ⟨j, c, L⟩ ⟨hj, hL, hc, hinv⟩
  conv => whnf
  refine br_split ?_ ?_
  · intro h
    have hj2 : j < N := by
      have : ((j + 1 : Nat) : Int) ≤ (N : Int) := of_decide_eq_true h
      omega
    obtain ⟨k, hk⟩ : ∃ k, N - j = k + 1 := ⟨N - j - 1, by omega⟩
    have hwk : IntKind.i64.wrap ((N : Int) - ((j + 1 : Nat) : Int)) = (k : Int) := by rw [wrap_i64 (by omega) (by omega)]; omega
    have hwa : ∀ x : List UInt8, x.length ≤ 500000000 → IntKind.i64.wrap ((x.length : Int) - ((j + 1 : Nat) : Int)) = (x.length : Int) - ((j + 1 : Nat) : Int) := fun x hx => wrap_i64 (by omega) (by omega)
    have hda := dgt_lt a j
    have hdb := dgt_lt b j
    have hcv : ∀ x : List UInt8, x.length ≤ 500000000 → j < x.length → IntKind.i64.wrap (sb (bs x) (IntKind.i64.wrap ((x.length : Int) - ((j + 1 : Nat) : Int)))) = (dgt x j : Int) := fun x hx hlt => by
      rw [hwa x hx, sb_dgt x hlt rfl]
      have := dgt_lt x j
      exact wrap_i64 (by omega) (by omega)
    have hidx : ∀ x : List UInt8, x.length ≤ 500000000 → j < x.length → 0 ≤ IntKind.i64.wrap ((x.length : Int) - ((j + 1 : Nat) : Int)) ∧ IntKind.i64.wrap ((x.length : Int) - ((j + 1 : Nat) : Int)) < (((bs x).size : Nat) : Int) := fun x hx hlt => by
      rw [hwa x hx]; show _ ∧ _ < ((x.length : Nat) : Int); omega
    have d0 : ∀ x : List UInt8, ¬ j < x.length → dgt x j = 0 := fun x hx => by unfold dgt; rw [if_neg hx]
    have hstep := add_step (da := dgt a j) (db := dgt b j) hinv
    rw [← low_succ, ← low_succ] at hstep
    conv => whnf
    refine br_split ?_ ?_
    · intro h1
      have la : j < a.length := by
        have : ((j + 1 : Nat) : Int) ≤ ((a.length : Nat) : Int) := of_decide_eq_true h1
        omega
      conv => whnf
      refine ⟨hidx a ha la, ?_⟩
      conv => whnf
      refine br_split ?_ ?_
      · intro h2
        have lb : j < b.length := by
          have : ((j + 1 : Nat) : Int) ≤ ((b.length : Nat) : Int) := of_decide_eq_true h2
          omega
        conv => whnf
        refine ⟨hidx b hb lb, ?_⟩
        have hE : IntKind.i64.wrap (IntKind.i64.wrap ((c : Int) + IntKind.i64.wrap (sb (bs a) (IntKind.i64.wrap ((a.length : Int) - ((j + 1 : Nat) : Int))))) + IntKind.i64.wrap (sb (bs b) (IntKind.i64.wrap ((b.length : Int) - ((j + 1 : Nat) : Int))))) = ((c + dgt a j + dgt b j : Nat) : Int) := by
          rw [hcv a ha la, hcv b hb lb, wrap_i64 (n := (c : Int) + _) (by omega) (by omega), wrap_i64 (by omega) (by omega)]; omega
        conv => whnf
        refine ⟨by rw [hwk]; show 0 ≤ (k : Int) ∧ (k : Int) < (N : Int); omega, ?_⟩
        conv => whnf
        refine ⟨⟨by rw [hwk, rowV_length u8c_len]; show (k : Int).toNat * 1 + 1 ≤ _; simp; omega, by decide⟩, ?_⟩
        conv => whnf
        refine ⟨by decide, ?_⟩
        conv => whnf
        refine ⟨(j + 1, (c + dgt a j + dgt b j) / 256, UInt8.ofNat ((c + dgt a j + dgt b j) % 256) :: L), ⟨by omega, by simp [hL], by omega, ?_⟩, by show N - (j + 1) < N - j; omega, SLe.id ⟨rfl, rfl, rfl, rfl, ?_, some_wrap (i := j + 1) (n := N + 1) (by omega) (by omega), trivial⟩ ⟨⟨_, rfl, ?_⟩, trivial⟩ (fun R hR => hR)⟩
        · rw [nat_cons_lt (Nat.mod_lt _ (by decide)), hL, Nat.pow_succ]; exact hstep
        · show some (SV.o (.v (.int .i64 (Int.fdiv (IntKind.i64.wrap (IntKind.i64.wrap ((c : Int) + IntKind.i64.wrap (sb (bs a) (IntKind.i64.wrap ((a.length : Int) - ((j + 1 : Nat) : Int))))) + IntKind.i64.wrap (sb (bs b) (IntKind.i64.wrap ((b.length : Int) - ((j + 1 : Nat) : Int)))))) (2 ^ min (8 : Int).toNat IntKind.i64.bits))))) = _
          rw [hE, fdiv8]; rfl
        · show MEle (ME.own t_uint8 1 N (putN ((IntKind.i64.wrap ((N : Int) - ((j + 1 : Nat) : Int))).toNat * 1) [Value.int .u8 (IntKind.u8.wrap (IntKind.i64.wrap (IntKind.i64.wrap ((c : Int) + IntKind.i64.wrap (sb (bs a) (IntKind.i64.wrap ((a.length : Int) - ((j + 1 : Nat) : Int))))) + IntKind.i64.wrap (sb (bs b) (IntKind.i64.wrap ((b.length : Int) - ((j + 1 : Nat) : Int)))))))] (rowV u8c (List.replicate (N - j) 0 ++ L)))) (ME.own t_uint8 1 N (rowV u8c (List.replicate (N - (j + 1)) 0 ++ (UInt8.ofNat ((c + dgt a j + dgt b j) % 256) :: L))))
          rw [hE, put_front hk hwk rfl, show N - (j + 1) = k by omega]; exact .refl _
      · intro h2
        have lb : ¬ j < b.length := by
          have : ¬ ((j + 1 : Nat) : Int) ≤ ((b.length : Nat) : Int) := of_decide_eq_false h2
          omega
        have z := d0 b lb
        have hE : IntKind.i64.wrap ((c : Int) + IntKind.i64.wrap (sb (bs a) (IntKind.i64.wrap ((a.length : Int) - ((j + 1 : Nat) : Int))))) = ((c + dgt a j + dgt b j : Nat) : Int) := by
          rw [hcv a ha la, wrap_i64 (by omega) (by omega)]; omega
        conv => whnf
        refine ⟨by rw [hwk]; show 0 ≤ (k : Int) ∧ (k : Int) < (N : Int); omega, ?_⟩
        conv => whnf
        refine ⟨⟨by rw [hwk, rowV_length u8c_len]; show (k : Int).toNat * 1 + 1 ≤ _; simp; omega, by decide⟩, ?_⟩
        conv => whnf
        refine ⟨by decide, ?_⟩
        conv => whnf
        refine ⟨(j + 1, (c + dgt a j + dgt b j) / 256, UInt8.ofNat ((c + dgt a j + dgt b j) % 256) :: L), ⟨by omega, by simp [hL], by omega, ?_⟩, by show N - (j + 1) < N - j; omega, SLe.id ⟨rfl, rfl, rfl, rfl, ?_, some_wrap (i := j + 1) (n := N + 1) (by omega) (by omega), trivial⟩ ⟨⟨_, rfl, ?_⟩, trivial⟩ (fun R hR => hR)⟩
        · rw [nat_cons_lt (Nat.mod_lt _ (by decide)), hL, Nat.pow_succ]; exact hstep
        · show some (SV.o (.v (.int .i64 (Int.fdiv (IntKind.i64.wrap ((c : Int) + IntKind.i64.wrap (sb (bs a) (IntKind.i64.wrap ((a.length : Int) - ((j + 1 : Nat) : Int)))))) (2 ^ min (8 : Int).toNat IntKind.i64.bits))))) = _
          rw [hE, fdiv8]; rfl
        · show MEle (ME.own t_uint8 1 N (putN ((IntKind.i64.wrap ((N : Int) - ((j + 1 : Nat) : Int))).toNat * 1) [Value.int .u8 (IntKind.u8.wrap (IntKind.i64.wrap ((c : Int) + IntKind.i64.wrap (sb (bs a) (IntKind.i64.wrap ((a.length : Int) - ((j + 1 : Nat) : Int)))))))] (rowV u8c (List.replicate (N - j) 0 ++ L)))) (ME.own t_uint8 1 N (rowV u8c (List.replicate (N - (j + 1)) 0 ++ (UInt8.ofNat ((c + dgt a j + dgt b j) % 256) :: L))))
          rw [hE, put_front hk hwk rfl, show N - (j + 1) = k by omega]; exact .refl _
    · intro h1
      have la : ¬ j < a.length := by
        have : ¬ ((j + 1 : Nat) : Int) ≤ ((a.length : Nat) : Int) := of_decide_eq_false h1
        omega
      have z := d0 a la
      conv => whnf
      refine br_split ?_ ?_
      · intro h2
        have lb : j < b.length := by
          have : ((j + 1 : Nat) : Int) ≤ ((b.length : Nat) : Int) := of_decide_eq_true h2
          omega
        conv => whnf
        refine ⟨hidx b hb lb, ?_⟩
        have hE : IntKind.i64.wrap ((c : Int) + IntKind.i64.wrap (sb (bs b) (IntKind.i64.wrap ((b.length : Int) - ((j + 1 : Nat) : Int))))) = ((c + dgt a j + dgt b j : Nat) : Int) := by
          rw [hcv b hb lb, wrap_i64 (by omega) (by omega)]; omega
        conv => whnf
        refine ⟨by rw [hwk]; show 0 ≤ (k : Int) ∧ (k : Int) < (N : Int); omega, ?_⟩
        conv => whnf
        refine ⟨⟨by rw [hwk, rowV_length u8c_len]; show (k : Int).toNat * 1 + 1 ≤ _; simp; omega, by decide⟩, ?_⟩
        conv => whnf
        refine ⟨by decide, ?_⟩
        conv => whnf
        refine ⟨(j + 1, (c + dgt a j + dgt b j) / 256, UInt8.ofNat ((c + dgt a j + dgt b j) % 256) :: L), ⟨by omega, by simp [hL], by omega, ?_⟩, by show N - (j + 1) < N - j; omega, SLe.id ⟨rfl, rfl, rfl, rfl, ?_, some_wrap (i := j + 1) (n := N + 1) (by omega) (by omega), trivial⟩ ⟨⟨_, rfl, ?_⟩, trivial⟩ (fun R hR => hR)⟩
        · rw [nat_cons_lt (Nat.mod_lt _ (by decide)), hL, Nat.pow_succ]; exact hstep
        · show some (SV.o (.v (.int .i64 (Int.fdiv (IntKind.i64.wrap ((c : Int) + IntKind.i64.wrap (sb (bs b) (IntKind.i64.wrap ((b.length : Int) - ((j + 1 : Nat) : Int)))))) (2 ^ min (8 : Int).toNat IntKind.i64.bits))))) = _
          rw [hE, fdiv8]; rfl
        · show MEle (ME.own t_uint8 1 N (putN ((IntKind.i64.wrap ((N : Int) - ((j + 1 : Nat) : Int))).toNat * 1) [Value.int .u8 (IntKind.u8.wrap (IntKind.i64.wrap ((c : Int) + IntKind.i64.wrap (sb (bs b) (IntKind.i64.wrap ((b.length : Int) - ((j + 1 : Nat) : Int)))))))] (rowV u8c (List.replicate (N - j) 0 ++ L)))) (ME.own t_uint8 1 N (rowV u8c (List.replicate (N - (j + 1)) 0 ++ (UInt8.ofNat ((c + dgt a j + dgt b j) % 256) :: L))))
          rw [hE, put_front hk hwk rfl, show N - (j + 1) = k by omega]; exact .refl _
      · intro h2
        have lb : ¬ j < b.length := by
          have : ¬ ((j + 1 : Nat) : Int) ≤ ((b.length : Nat) : Int) := of_decide_eq_false h2
          omega
        have z2 := d0 b lb
        have hE : (c : Int) = ((c + dgt a j + dgt b j : Nat) : Int) := by
          omega
        conv => whnf
        refine ⟨by rw [hwk]; show 0 ≤ (k : Int) ∧ (k : Int) < (N : Int); omega, ?_⟩
        conv => whnf
        refine ⟨⟨by rw [hwk, rowV_length u8c_len]; show (k : Int).toNat * 1 + 1 ≤ _; simp; omega, by decide⟩, ?_⟩
        conv => whnf
        refine ⟨by decide, ?_⟩
        conv => whnf
        refine ⟨(j + 1, (c + dgt a j + dgt b j) / 256, UInt8.ofNat ((c + dgt a j + dgt b j) % 256) :: L), ⟨by omega, by simp [hL], by omega, ?_⟩, by show N - (j + 1) < N - j; omega, SLe.id ⟨rfl, rfl, rfl, rfl, ?_, some_wrap (i := j + 1) (n := N + 1) (by omega) (by omega), trivial⟩ ⟨⟨_, rfl, ?_⟩, trivial⟩ (fun R hR => hR)⟩
        · rw [nat_cons_lt (Nat.mod_lt _ (by decide)), hL, Nat.pow_succ]; exact hstep
        · show some (SV.o (.v (.int .i64 (Int.fdiv ((c : Int)) (2 ^ min (8 : Int).toNat IntKind.i64.bits))))) = _
          rw [hE, fdiv8]; rfl
        · show MEle (ME.own t_uint8 1 N (putN ((IntKind.i64.wrap ((N : Int) - ((j + 1 : Nat) : Int))).toNat * 1) [Value.int .u8 (IntKind.u8.wrap ((c : Int)))] (rowV u8c (List.replicate (N - j) 0 ++ L)))) (ME.own t_uint8 1 N (rowV u8c (List.replicate (N - (j + 1)) 0 ++ (UInt8.ofNat ((c + dgt a j + dgt b j) % 256) :: L))))
          rw [hE, put_front hk hwk rfl, show N - (j + 1) = k by omega]; exact .refl _
  · intro h
    have hj2 : j = N := by
      have : ¬ ((j + 1 : Nat) : Int) ≤ (N : Int) := of_decide_eq_false h
      omega
    subst hj2
    rw [low_all (by omega), low_all (by omega)] at hinv
    have hc0 : c = 0 := by
      have h1 := nat_bound (l := a) (k := j - 1) (by omega)
      have h2 := nat_bound (l := b) (k := j - 1) (by omega)
      rcases Nat.eq_zero_or_pos c with h3 | h3
      · exact h3
      · exfalso
        have h4 : 256 ^ j = 256 ^ (j - 1) * 256 := by rw [← Nat.pow_succ, show (j - 1).succ = j by omega]
        have : 1 * 256 ^ j ≤ c * 256 ^ j := Nat.mul_le_mul_right _ h3
        omega
    rw [hc0, Nat.zero_mul, Nat.add_zero] at hinv
    conv => whnf
    refine ⟨L, hL, by show (rowV u8c (List.replicate (j - j) 0 ++ L)).take j = bytV L; rw [Nat.sub_self, List.replicate_zero, List.nil_append, rowV_u8]; exact List.take_of_length_le (by simp [bytV, hL]), ?_⟩
    conv => whnf
    refine CallVC.fn (r_trim L) rfl ?_
    rw [stripL_eq, hinv]
    conv => whnf
    exact postV_one rfl
end Go.Sx
end
section
set_option maxRecDepth 10000
set_option maxHeartbeats 2000000
set_option linter.unusedSimpArgs false
set_option linter.unusedVariables false
set_option pp.deepTerms false
set_option pp.deepTerms.threshold 6
namespace Go.Sx
open Go Go.Proofs
theorem sub_step {P d da db bw bw' nL A B : Nat} (h : nL + B = A + bw * P) (hd : d + db + bw = da + 256 * bw') : d * P + nL + (db * P + B) = (da * P + A) + bw' * (P * 256) := by
  have h1 : (d + db + bw) * P = (da + 256 * bw') * P := by rw [hd]
  rw [Nat.add_mul, Nat.add_mul, Nat.add_mul, Nat.mul_comm 256 bw', Nat.mul_assoc, Nat.mul_comm 256 P] at h1
  omega
theorem r_subMag (a b : List UInt8) (ha : a.length ≤ 500000000) (hb : b.length ≤ a.length) (hle : nat b ≤ nat a) : Fn PP f_narrowsref01_subMag [.string (bs a), .string (bs b)] (.string (bs (bytes (nat a - nat b)))) := by
  refine Fn.of TBgood mixed h_narrowsref01_subMag rfl rfl (Nat.le_of_ble_eq_true rfl) ?_
  intro w
  obtain ⟨N, hN⟩ : ∃ N, N = a.length := ⟨_, rfl⟩
  conv => whnf
  refine ⟨by show 0 ≤ ((a.length : Nat) : Int) ∧ ((a.length : Nat) : Int) ≤ ((a.length : Nat) : Int) ∧ ((1 : Nat) : Int) * ((a.length : Nat) : Int) ≤ 281474976710656 ∧ ((a.length : Nat) : Int) ≤ 9223372036854775807; omega, ?_⟩
  conv => whnf
  refine sexec_loop (ι := Nat × Nat × List UInt8) (fun ⟨j, c, L⟩ => ⟨[(0, .o (.v (.string (bs a)))), (1, .o (.v (.string (bs b)))), (5, .o (.w 11)), (6, .o (.v (.int .i64 c))), (7, .o (.v (.int .i64 (j + 1 : Nat))))], [(11, .own t_uint8 1 N (rowV u8c (List.replicate (N - j) 0 ++ L)))], []⟩)
    (fun ⟨j, c, L⟩ => j ≤ N ∧ L.length = j ∧ c ≤ 1 ∧ nat L + low b j = low a j + c * 256 ^ j) (fun ⟨j, c, L⟩ => N - j) (0, 0, []) ⟨Nat.zero_le _, rfl, by decide, by rw [low_zero, low_zero]; rfl⟩ (SLe.id ⟨rfl, rfl, rfl, rfl, rfl, trivial⟩ ⟨⟨_, rfl, ?_⟩, trivial⟩ (fun R hR => hR)) ?_
  · show MEle (ME.own t_uint8 1 ((a.length : Nat) : Int).toNat (repl ((a.length : Nat) : Int).toNat [Value.int .u8 0])) (ME.own t_uint8 1 N (rowV u8c (List.replicate (N - 0) 0 ++ [])))
    rw [← hN, Int.toNat_natCast, rep_front, List.append_nil]; exact .refl _
  rintro ⟨j, c, L⟩ ⟨hj, hL, hc, hinv⟩
  conv => whnf
  refine br_split ?_ ?_
  · intro h
    have hj2 : j < N := by
      have : ((j + 1 : Nat) : Int) ≤ ((a.length : Nat) : Int) := of_decide_eq_true h
      omega
    obtain ⟨k, hk⟩ : ∃ k, N - j = k + 1 := ⟨N - j - 1, by omega⟩
    have hwk : IntKind.i64.wrap ((a.length : Int) - ((j + 1 : Nat) : Int)) = (k : Int) := by rw [wrap_i64 (by omega) (by omega)]; omega
    have hwk2 : IntKind.i64.wrap ((((bs a).size : Nat) : Int) - ((j + 1 : Nat) : Int)) = (k : Int) := hwk
    have hwa : ∀ x : List UInt8, x.length ≤ 500000000 → IntKind.i64.wrap ((x.length : Int) - ((j + 1 : Nat) : Int)) = (x.length : Int) - ((j + 1 : Nat) : Int) := fun x hx => wrap_i64 (by omega) (by omega)
    have hda := dgt_lt a j
    have hdb := dgt_lt b j
    have hcv : ∀ x : List UInt8, x.length ≤ 500000000 → j < x.length → IntKind.i64.wrap (sb (bs x) (IntKind.i64.wrap ((x.length : Int) - ((j + 1 : Nat) : Int)))) = (dgt x j : Int) := fun x hx hlt => by
      rw [hwa x hx, sb_dgt x hlt rfl]
      have := dgt_lt x j
      exact wrap_i64 (by omega) (by omega)
    have hidx : ∀ x : List UInt8, x.length ≤ 500000000 → j < x.length → 0 ≤ IntKind.i64.wrap ((x.length : Int) - ((j + 1 : Nat) : Int)) ∧ IntKind.i64.wrap ((x.length : Int) - ((j + 1 : Nat) : Int)) < (((bs x).size : Nat) : Int) := fun x hx hlt => by
      rw [hwa x hx]; show _ ∧ _ < ((x.length : Nat) : Int); omega
    have d0 : ¬ j < b.length → dgt b j = 0 := fun hx => by unfold dgt; rw [if_neg hx]
    have la : j < a.length := by omega
    conv => whnf
    refine ⟨hidx a ha la, ?_⟩
    conv => whnf
    refine br_split ?_ ?_
    · intro h2
      have lb : j < b.length := by
        have : ((j + 1 : Nat) : Int) ≤ ((b.length : Nat) : Int) := of_decide_eq_true h2
        omega
      conv => whnf
      refine ⟨hidx b (by omega) lb, ?_⟩
      have hE : IntKind.i64.wrap (IntKind.i64.wrap (IntKind.i64.wrap (sb (bs a) (IntKind.i64.wrap ((a.length : Int) - ((j + 1 : Nat) : Int)))) - (c : Int)) - IntKind.i64.wrap (sb (bs b) (IntKind.i64.wrap ((b.length : Int) - ((j + 1 : Nat) : Int))))) = (dgt a j : Int) - (c : Int) - (dgt b j : Int) := by
        rw [hcv a ha la, hcv b (by omega) lb, wrap_i64 (n := (dgt a j : Int) - (c : Int)) (by omega) (by omega), wrap_i64 (by omega) (by omega)]
      conv => whnf
      refine br_split ?_ ?_
      · intro h3
        have h4 : IntKind.i64.wrap (IntKind.i64.wrap (IntKind.i64.wrap (sb (bs a) (IntKind.i64.wrap ((a.length : Int) - ((j + 1 : Nat) : Int)))) - (c : Int)) - IntKind.i64.wrap (sb (bs b) (IntKind.i64.wrap ((b.length : Int) - ((j + 1 : Nat) : Int))))) < 0 := of_decide_eq_true h3
        rw [hE] at h4
        obtain ⟨d, hd⟩ : ∃ d : Nat, (d : Int) = (dgt a j : Int) - (c : Int) - (dgt b j : Int) + 256 := ⟨((dgt a j : Int) - (c : Int) - (dgt b j : Int) + 256).toNat, by omega⟩
        have hD : IntKind.i64.wrap (IntKind.i64.wrap (IntKind.i64.wrap (IntKind.i64.wrap (sb (bs a) (IntKind.i64.wrap ((a.length : Int) - ((j + 1 : Nat) : Int)))) - (c : Int)) - IntKind.i64.wrap (sb (bs b) (IntKind.i64.wrap ((b.length : Int) - ((j + 1 : Nat) : Int))))) + 256) = (d : Int) := by
          rw [hE, wrap_i64 (by omega) (by omega)]; omega
        conv => whnf
        refine ⟨by rw [hwk2]; show 0 ≤ (k : Int) ∧ (k : Int) < (N : Int); omega, ?_⟩
        conv => whnf
        refine ⟨⟨by rw [hwk2, rowV_length u8c_len]; show (k : Int).toNat * 1 + 1 ≤ _; simp; omega, by decide⟩, ?_⟩
        conv => whnf
        refine ⟨(j + 1, 1, UInt8.ofNat (d % 256) :: L), ⟨by omega, by simp [hL], by decide, ?_⟩, by show N - (j + 1) < N - j; omega, SLe.id ⟨rfl, rfl, rfl, rfl, some_wrap (i := j + 1) (n := N + 1) (by omega) (by omega), trivial⟩ ⟨⟨_, rfl, ?_⟩, trivial⟩ (fun R hR => hR)⟩
        · rw [Nat.mod_eq_of_lt (by omega), nat_cons_lt (by omega), hL, Nat.pow_succ, low_succ, low_succ]
          exact sub_step hinv (by omega)
        · show MEle (ME.own t_uint8 1 N (putN ((IntKind.i64.wrap ((a.length : Int) - ((j + 1 : Nat) : Int))).toNat * 1) [Value.int .u8 (IntKind.u8.wrap (IntKind.i64.wrap (IntKind.i64.wrap (IntKind.i64.wrap (IntKind.i64.wrap (sb (bs a) (IntKind.i64.wrap ((a.length : Int) - ((j + 1 : Nat) : Int)))) - (c : Int)) - IntKind.i64.wrap (sb (bs b) (IntKind.i64.wrap ((b.length : Int) - ((j + 1 : Nat) : Int))))) + 256)))] (rowV u8c (List.replicate (N - j) 0 ++ L)))) (ME.own t_uint8 1 N (rowV u8c (List.replicate (N - (j + 1)) 0 ++ (UInt8.ofNat (d % 256) :: L))))
          rw [hD, put_front hk hwk rfl, show N - (j + 1) = k by omega]; exact .refl _
      · intro h3
        have h4 : ¬ IntKind.i64.wrap (IntKind.i64.wrap (IntKind.i64.wrap (sb (bs a) (IntKind.i64.wrap ((a.length : Int) - ((j + 1 : Nat) : Int)))) - (c : Int)) - IntKind.i64.wrap (sb (bs b) (IntKind.i64.wrap ((b.length : Int) - ((j + 1 : Nat) : Int))))) < 0 := of_decide_eq_false h3
        rw [hE] at h4
        obtain ⟨d, hd⟩ : ∃ d : Nat, (d : Int) = (dgt a j : Int) - (c : Int) - (dgt b j : Int) := ⟨((dgt a j : Int) - (c : Int) - (dgt b j : Int)).toNat, by omega⟩
        have hD : IntKind.i64.wrap (IntKind.i64.wrap (IntKind.i64.wrap (sb (bs a) (IntKind.i64.wrap ((a.length : Int) - ((j + 1 : Nat) : Int)))) - (c : Int)) - IntKind.i64.wrap (sb (bs b) (IntKind.i64.wrap ((b.length : Int) - ((j + 1 : Nat) : Int))))) = (d : Int) := by
          rw [hE, hd]
        conv => whnf
        refine ⟨by rw [hwk2]; show 0 ≤ (k : Int) ∧ (k : Int) < (N : Int); omega, ?_⟩
        conv => whnf
        refine ⟨⟨by rw [hwk2, rowV_length u8c_len]; show (k : Int).toNat * 1 + 1 ≤ _; simp; omega, by decide⟩, ?_⟩
        conv => whnf
        refine ⟨(j + 1, 0, UInt8.ofNat (d % 256) :: L), ⟨by omega, by simp [hL], by decide, ?_⟩, by show N - (j + 1) < N - j; omega, SLe.id ⟨rfl, rfl, rfl, rfl, some_wrap (i := j + 1) (n := N + 1) (by omega) (by omega), trivial⟩ ⟨⟨_, rfl, ?_⟩, trivial⟩ (fun R hR => hR)⟩
        · rw [Nat.mod_eq_of_lt (by omega), nat_cons_lt (by omega), hL, Nat.pow_succ, low_succ, low_succ]
          exact sub_step hinv (by omega)
        · show MEle (ME.own t_uint8 1 N (putN ((IntKind.i64.wrap ((a.length : Int) - ((j + 1 : Nat) : Int))).toNat * 1) [Value.int .u8 (IntKind.u8.wrap (IntKind.i64.wrap (IntKind.i64.wrap (IntKind.i64.wrap (sb (bs a) (IntKind.i64.wrap ((a.length : Int) - ((j + 1 : Nat) : Int)))) - (c : Int)) - IntKind.i64.wrap (sb (bs b) (IntKind.i64.wrap ((b.length : Int) - ((j + 1 : Nat) : Int)))))))] (rowV u8c (List.replicate (N - j) 0 ++ L)))) (ME.own t_uint8 1 N (rowV u8c (List.replicate (N - (j + 1)) 0 ++ (UInt8.ofNat (d % 256) :: L))))
          rw [hD, put_front hk hwk rfl, show N - (j + 1) = k by omega]; exact .refl _
    · intro h2
      have lb : ¬ j < b.length := by
        have : ¬ ((j + 1 : Nat) : Int) ≤ ((b.length : Nat) : Int) := of_decide_eq_false h2
        omega
      have z := d0 lb
      have hE : IntKind.i64.wrap (IntKind.i64.wrap (sb (bs a) (IntKind.i64.wrap ((a.length : Int) - ((j + 1 : Nat) : Int)))) - (c : Int)) = (dgt a j : Int) - (c : Int) - (dgt b j : Int) := by
        rw [hcv a ha la, wrap_i64 (by omega) (by omega)]; omega
      conv => whnf
      refine br_split ?_ ?_
      · intro h3
        have h4 : IntKind.i64.wrap (IntKind.i64.wrap (sb (bs a) (IntKind.i64.wrap ((a.length : Int) - ((j + 1 : Nat) : Int)))) - (c : Int)) < 0 := of_decide_eq_true h3
        rw [hE] at h4
        obtain ⟨d, hd⟩ : ∃ d : Nat, (d : Int) = (dgt a j : Int) - (c : Int) - (dgt b j : Int) + 256 := ⟨((dgt a j : Int) - (c : Int) - (dgt b j : Int) + 256).toNat, by omega⟩
        have hD : IntKind.i64.wrap (IntKind.i64.wrap (IntKind.i64.wrap (sb (bs a) (IntKind.i64.wrap ((a.length : Int) - ((j + 1 : Nat) : Int)))) - (c : Int)) + 256) = (d : Int) := by
          rw [hE, wrap_i64 (by omega) (by omega)]; omega
        conv => whnf
        refine ⟨by rw [hwk2]; show 0 ≤ (k : Int) ∧ (k : Int) < (N : Int); omega, ?_⟩
        conv => whnf
        refine ⟨⟨by rw [hwk2, rowV_length u8c_len]; show (k : Int).toNat * 1 + 1 ≤ _; simp; omega, by decide⟩, ?_⟩
        conv => whnf
        refine ⟨(j + 1, 1, UInt8.ofNat (d % 256) :: L), ⟨by omega, by simp [hL], by decide, ?_⟩, by show N - (j + 1) < N - j; omega, SLe.id ⟨rfl, rfl, rfl, rfl, some_wrap (i := j + 1) (n := N + 1) (by omega) (by omega), trivial⟩ ⟨⟨_, rfl, ?_⟩, trivial⟩ (fun R hR => hR)⟩
        · rw [Nat.mod_eq_of_lt (by omega), nat_cons_lt (by omega), hL, Nat.pow_succ, low_succ, low_succ]
          exact sub_step hinv (by omega)
        · show MEle (ME.own t_uint8 1 N (putN ((IntKind.i64.wrap ((a.length : Int) - ((j + 1 : Nat) : Int))).toNat * 1) [Value.int .u8 (IntKind.u8.wrap (IntKind.i64.wrap (IntKind.i64.wrap (IntKind.i64.wrap (sb (bs a) (IntKind.i64.wrap ((a.length : Int) - ((j + 1 : Nat) : Int)))) - (c : Int)) + 256)))] (rowV u8c (List.replicate (N - j) 0 ++ L)))) (ME.own t_uint8 1 N (rowV u8c (List.replicate (N - (j + 1)) 0 ++ (UInt8.ofNat (d % 256) :: L))))
          rw [hD, put_front hk hwk rfl, show N - (j + 1) = k by omega]; exact .refl _
      · intro h3
        have h4 : ¬ IntKind.i64.wrap (IntKind.i64.wrap (sb (bs a) (IntKind.i64.wrap ((a.length : Int) - ((j + 1 : Nat) : Int)))) - (c : Int)) < 0 := of_decide_eq_false h3
        rw [hE] at h4
        obtain ⟨d, hd⟩ : ∃ d : Nat, (d : Int) = (dgt a j : Int) - (c : Int) - (dgt b j : Int) := ⟨((dgt a j : Int) - (c : Int) - (dgt b j : Int)).toNat, by omega⟩
        have hD : IntKind.i64.wrap (IntKind.i64.wrap (sb (bs a) (IntKind.i64.wrap ((a.length : Int) - ((j + 1 : Nat) : Int)))) - (c : Int)) = (d : Int) := by
          rw [hE, hd]
        conv => whnf
        refine ⟨by rw [hwk2]; show 0 ≤ (k : Int) ∧ (k : Int) < (N : Int); omega, ?_⟩
        conv => whnf
        refine ⟨⟨by rw [hwk2, rowV_length u8c_len]; show (k : Int).toNat * 1 + 1 ≤ _; simp; omega, by decide⟩, ?_⟩
        conv => whnf
        refine ⟨(j + 1, 0, UInt8.ofNat (d % 256) :: L), ⟨by omega, by simp [hL], by decide, ?_⟩, by show N - (j + 1) < N - j; omega, SLe.id ⟨rfl, rfl, rfl, rfl, some_wrap (i := j + 1) (n := N + 1) (by omega) (by omega), trivial⟩ ⟨⟨_, rfl, ?_⟩, trivial⟩ (fun R hR => hR)⟩
        · rw [Nat.mod_eq_of_lt (by omega), nat_cons_lt (by omega), hL, Nat.pow_succ, low_succ, low_succ]
          exact sub_step hinv (by omega)
        · show MEle (ME.own t_uint8 1 N (putN ((IntKind.i64.wrap ((a.length : Int) - ((j + 1 : Nat) : Int))).toNat * 1) [Value.int .u8 (IntKind.u8.wrap (IntKind.i64.wrap (IntKind.i64.wrap (sb (bs a) (IntKind.i64.wrap ((a.length : Int) - ((j + 1 : Nat) : Int)))) - (c : Int))))] (rowV u8c (List.replicate (N - j) 0 ++ L)))) (ME.own t_uint8 1 N (rowV u8c (List.replicate (N - (j + 1)) 0 ++ (UInt8.ofNat (d % 256) :: L))))
          rw [hD, put_front hk hwk rfl, show N - (j + 1) = k by omega]; exact .refl _
  · intro h
    have hj2 : j = N := by
      have : ¬ ((j + 1 : Nat) : Int) ≤ ((a.length : Nat) : Int) := of_decide_eq_false h
      omega
    subst hj2
    rw [low_all (show b.length ≤ j by omega), low_all (show a.length ≤ j by omega)] at hinv
    have hc0 : c = 0 := by
      have h1 := nat_bound (l := L) (k := j) (by omega)
      rcases Nat.eq_zero_or_pos c with h3 | h3
      · exact h3
      · exfalso
        have : 1 * 256 ^ j ≤ c * 256 ^ j := Nat.mul_le_mul_right _ h3
        omega
    rw [hc0, Nat.zero_mul, Nat.add_zero] at hinv
    have hnl : nat L = nat a - nat b := by omega
    conv => whnf
    refine ⟨L, hL, by show (rowV u8c (List.replicate (j - j) 0 ++ L)).take j = bytV L; rw [Nat.sub_self, List.replicate_zero, List.nil_append, rowV_u8]; exact List.take_of_length_le (by simp [bytV, hL]), ?_⟩
    conv => whnf
    refine CallVC.fn (r_trim L) rfl ?_
    rw [stripL_eq, hnl]
    conv => whnf
    exact postV_one rfl
end Go.Sx
end
section
set_option maxRecDepth 10000
set_option maxHeartbeats 2000000
set_option linter.unusedSimpArgs false
set_option linter.unusedVariables false
set_option pp.deepTerms false
set_option pp.deepTerms.threshold 6
namespace Go.Sx
open Go Go.Proofs
def i64c (x : Nat) : List Value := [.int .i64 (x : Int)]
theorem i64c_len (x : Nat) : (i64c x).length = 1 := rfl
/-- Digits to the base 256, the greatest one first. -/
def nvB : List Nat → Nat
  | [] => 0
  | x :: l => x * 256 ^ l.length + nvB l
theorem nvB_zeros (k : Nat) (l : List Nat) : nvB (List.replicate k 0 ++ l) = nvB l := by
  induction k with
  | zero => rfl
  | succ k ih => rw [List.replicate_succ, List.cons_append, nvB, ih]; omega
theorem nvB_drop {l : List Nat} {q : Nat} (h : q < l.length) : nvB (l.drop q) = l.getD q 0 * 256 ^ (l.length - q - 1) + nvB (l.drop (q + 1)) := by
  rw [List.drop_eq_getElem_cons h, nvB, List.length_drop, List.getD_eq_getElem?_getD, List.getElem?_eq_getElem h, show l.length - (q + 1) = l.length - q - 1 by omega]; rfl
theorem nat_drop {l : List UInt8} {q : Nat} (h : q < l.length) : nat (l.drop q) = (l.getD q 0).toNat * 256 ^ (l.length - q - 1) + nat (l.drop (q + 1)) := by
  rw [List.drop_eq_getElem_cons h, nat_cons, List.length_drop, List.getD_eq_getElem?_getD, List.getElem?_eq_getElem h, show l.length - (q + 1) = l.length - q - 1 by omega]; rfl
theorem nvB_bytes : ∀ {l : List Nat}, (∀ x ∈ l, x < 256) → nat (l.map UInt8.ofNat) = nvB l
  | [], _ => rfl
  | x :: l, h => by
    rw [List.map_cons, nat_cons_lt (h x (List.mem_cons_self ..)), nvB, List.length_map, nvB_bytes (fun y hy => h y (List.mem_cons_of_mem _ hy))]
theorem and255 {e : Nat} (h : e < 9223372036854775808) : IntKind.i64.wrap (BitVec.toNat (w := 64) (BitVec.ofInt 64 (e : Int) &&& BitVec.ofInt 64 255) : Int) = ((e % 256 : Nat) : Int) := by
  rw [BitVec.toNat_and, ofInt64_toNat (by omega), show (BitVec.ofInt 64 255).toNat = 2 ^ 8 - 1 from rfl, Nat.and_two_pow_sub_one_eq_mod, wrap_i64 (by omega) (by omega)]
theorem mul_step {e c m ab nU nM nb P R S : Nat} (hP : P = R * S) (he : e = c + m + ab) (h : nU + c * P = nM + nb * R) {a b : Nat} (hab : ab = a * b) {nb' : Nat} (hn : nb = a * nb') :
    e % 256 * P + nU + e / 256 * (P * 256) = (m * P + nM) + (a * (b * S + nb')) * R := by
  have h1 : e * P = e % 256 * P + e / 256 * (P * 256) := by
    have := Nat.mod_add_div e 256
    rw [Nat.mul_comm P 256, ← Nat.mul_assoc, ← Nat.add_mul, Nat.mul_comm _ 256, this]
  have h2 : (a * (b * S + nb')) * R = ab * P + nb * R := by
    rw [hab, hn, hP, Nat.mul_add, Nat.add_mul, Nat.mul_comm R S, ← Nat.mul_assoc a b S, Nat.mul_assoc (a * b) S R]
  have h3 : e * P = c * P + m * P + ab * P := by rw [he, Nat.add_mul, Nat.add_mul]
  omega
theorem set_fr {k : Nat} {M : List Nat} (x y : Nat) : (List.replicate (k + 1) 0 ++ M).set k x = List.replicate k 0 ++ (x :: M) := by
  rw [List.replicate_succ', List.append_assoc, List.set_append_right _ _ (by simp)]
  simp
theorem set_in {k q : Nat} {M U : List Nat} (h : q < M.length) (x : Nat) : (List.replicate k 0 ++ (M.take (q + 1) ++ U)).set (k + q) x = List.replicate k 0 ++ (M.take q ++ (x :: U)) := by
  rw [List.set_append_right _ _ (by simp), List.length_replicate, Nat.add_sub_cancel_left, List.set_append_left _ _ (by rw [List.length_take]; omega)]
  congr 1
  rw [List.take_add_one, List.getElem?_eq_getElem h, Option.toList_some, List.set_append_right _ _ (by rw [List.length_take]; omega), List.append_assoc]
  congr 1
  rw [List.length_take, Nat.min_eq_left (by omega), Nat.sub_self]; rfl
theorem get_in {k q : Nat} {M U : List Nat} (h : q < M.length) : (List.replicate k 0 ++ (M.take (q + 1) ++ U))[k + q]? = some (M.getD q 0) := by
  rw [List.getElem?_append_right (by simp), List.length_replicate, Nat.add_sub_cancel_left, List.getElem?_append_left (by rw [List.length_take]; omega), List.getElem?_take, if_pos (by omega), List.getElem?_eq_getElem h, List.getD_eq_getElem?_getD, List.getElem?_eq_getElem h]; rfl
theorem sb_get (l : List UInt8) (k : Nat) : sb (bs l) (k : Int) = ((l.getD k 0).toNat : Int) := by rw [sb_bs, Int.toNat_natCast]
theorem repl_i64 (n : Nat) : repl n [Value.int .i64 0] = rowV i64c (List.replicate n 0) := by rw [rowV_repl]; rfl
theorem mul_bound {a b : Nat} (ha : a < 256) (hb : b < 256) : a * b ≤ 65025 := by
  have := Nat.mul_le_mul (show a ≤ 255 by omega) (show b ≤ 255 by omega); omega
theorem r_mulMag (a b : List UInt8) (ha : a.length ≤ 500000000) (hb : b.length ≤ 400000000) : Fn PP f_narrowsref01_mulMag [.string (bs a), .string (bs b)] (.string (bs (bytes (nat a * nat b)))) := by
  refine Fn.of TBgood mixed h_narrowsref01_mulMag rfl rfl (Nat.le_of_ble_eq_true rfl) ?_
  intro w
  obtain ⟨n, hn⟩ : ∃ n, n = a.length + b.length := ⟨_, rfl⟩
  have hw0 : IntKind.i64.wrap (((bs a).size : Int) + ((bs b).size : Int)) = (n : Int) := by
    show IntKind.i64.wrap ((a.length : Int) + (b.length : Int)) = _
    rw [wrap_i64 (by omega) (by omega)]; omega
  conv => whnf
  refine ⟨by rw [hw0]; show 0 ≤ (n : Int) ∧ (n : Int) ≤ (n : Int) ∧ ((8 : Nat) : Int) * (n : Int) ≤ 281474976710656 ∧ (n : Int) ≤ 9223372036854775807; omega, ?_⟩
  conv => whnf
  refine sexec_loop (ι := Nat × List Nat × Int) (fun ⟨p, M, z⟩ => ⟨[(0, .o (.v (.string (bs a)))), (1, .o (.v (.string (bs b)))), (5, .o (.w 16)), (6, .o (.v (.int .i64 z)))], [(16, .own t_int 1 n (rowV i64c (List.replicate p 0 ++ M)))], []⟩)
    (fun ⟨p, M, z⟩ => z = (p : Int) - 1 ∧ p ≤ a.length ∧ M.length = n - p ∧ (∀ x ∈ M, x < 256) ∧ nvB M = nat (a.drop p) * nat b) (fun ⟨p, M, z⟩ => p) (a.length, List.replicate b.length 0, (a.length : Int) - 1) ⟨rfl, Nat.le_refl _, by rw [List.length_replicate]; omega, fun x hx => by rw [List.eq_of_mem_replicate hx]; decide, by
      rw [List.drop_length, nat_nil, Nat.zero_mul]
      have := nvB_zeros b.length []
      rw [List.append_nil] at this; exact this⟩ (SLe.id ⟨rfl, rfl, rfl, ?_, trivial⟩ ⟨⟨_, rfl, ?_⟩, trivial⟩ (fun R hR => hR)) ?_
  · show some (SV.o (.v (.int .i64 (IntKind.i64.wrap ((a.length : Int) - 1))))) = some (SV.o (.v (.int .i64 ((a.length : Int) - 1))))
    rw [wrap_i64 (by omega) (by omega)]
  · show MEle (ME.own t_int 1 (IntKind.i64.wrap (((bs a).size : Int) + ((bs b).size : Int))).toNat (repl (IntKind.i64.wrap (((bs a).size : Int) + ((bs b).size : Int))).toNat [Value.int .i64 0])) (ME.own t_int 1 n (rowV i64c (List.replicate a.length 0 ++ List.replicate b.length 0)))
    rw [hw0, Int.toNat_natCast, repl_i64, List.replicate_append_replicate, ← hn]; exact .refl _
  rintro ⟨p1, M, z⟩ ⟨hz, hp, hM, hMb, hv⟩
  conv => whnf
  refine br_split ?_ ?_
  · intro h
    obtain ⟨p, rfl⟩ : ∃ p, p1 = p + 1 := ⟨p1 - 1, by
      have : z ≥ 0 := of_decide_eq_true h
      omega⟩
    obtain rfl : z = (p : Int) := by omega
    have hap : (a.getD p 0).toNat < 256 := (a.getD p 0).toBitVec.isLt
    obtain ⟨x, hx⟩ : ∃ x, x = (a.getD p 0).toNat := ⟨_, rfl⟩
    rw [← hx] at hap
    conv => whnf
    refine sexec_loop (ι := Nat × List Nat × Nat × Int) (fun ⟨q, U, c, z⟩ => ⟨[(0, .o (.v (.string (bs a)))), (1, .o (.v (.string (bs b)))), (5, .o (.w 16)), (6, .o (.v (.int .i64 (p : Int)))), (7, .o (.v (.int .i64 c))), (8, .o (.v (.int .i64 z)))], [(16, .own t_int 1 n (rowV i64c (List.replicate (p + 1) 0 ++ (M.take q ++ U))))], []⟩)
      (fun ⟨q, U, c, z⟩ => z = (q : Int) - 1 ∧ q ≤ b.length ∧ U.length = M.length - q ∧ (∀ x ∈ U, x < 256) ∧ c < 256 ∧ nvB U + c * 256 ^ (M.length - q) = nvB (M.drop q) + x * nat (b.drop q) * 256 ^ (a.length - p - 1)) (fun ⟨q, U, c, z⟩ => q) (b.length, M.drop b.length, 0, (b.length : Int) - 1) ⟨rfl, Nat.le_refl _, by rw [List.length_drop], fun x hx => hMb x (List.mem_of_mem_drop hx), by decide, by
        rw [List.drop_length, nat_nil, Nat.mul_zero, Nat.zero_mul, Nat.zero_mul]⟩ (SLe.id ⟨rfl, rfl, rfl, rfl, rfl, ?_, trivial⟩ ⟨⟨_, rfl, ?_⟩, trivial⟩ (fun R hR => hR)) ?_
    · show some (SV.o (.v (.int .i64 (IntKind.i64.wrap ((b.length : Int) - 1))))) = some (SV.o (.v (.int .i64 ((b.length : Int) - 1))))
      rw [wrap_i64 (by omega) (by omega)]
    · show MEle (ME.own t_int 1 n (rowV i64c (List.replicate (p + 1) 0 ++ M))) (ME.own t_int 1 n (rowV i64c (List.replicate (p + 1) 0 ++ (M.take b.length ++ M.drop b.length))))
      rw [List.take_append_drop]; exact .refl _
    rintro ⟨q1, U, c, z⟩ ⟨hz, hq, hU, hUb, hc, hinv⟩
    conv => whnf
    refine br_split ?_ ?_
    · intro h
      obtain ⟨q, rfl⟩ : ∃ q, q1 = q + 1 := ⟨q1 - 1, by
        have : z ≥ 0 := of_decide_eq_true h
        omega⟩
      obtain rfl : z = (q : Int) := by omega
      have hbq : (b.getD q 0).toNat < 256 := (b.getD q 0).toBitVec.isLt
      obtain ⟨y, hy⟩ : ∃ y, y = (b.getD q 0).toNat := ⟨_, rfl⟩
      rw [← hy] at hbq
      have hqM : q < M.length := by omega
      have hpq : IntKind.i64.wrap (IntKind.i64.wrap ((p : Int) + (q : Int)) + 1) = ((p + 1 + q : Nat) : Int) := by
        rw [wrap_i64 (n := (p : Int) + (q : Int)) (by omega) (by omega), wrap_i64 (by omega) (by omega)]; omega
      have hlen : (List.replicate (p + 1) 0 ++ (M.take (q + 1) ++ U)).length = n := by
        simp only [List.length_append, List.length_replicate, List.length_take]; omega
      conv => whnf
      refine DrawVC.quiet (by kernel_rfl) ?_
      conv => whnf
      refine ⟨by rw [hpq]; show 0 ≤ ((p + 1 + q : Nat) : Int) ∧ ((p + 1 + q : Nat) : Int) < (n : Int); omega, ?_⟩
      conv => whnf
      refine RowVC.elem i64c i64c_len (k := p + 1 + q) (by show (IntKind.i64.wrap (IntKind.i64.wrap ((p : Int) + (q : Int)) + 1)).toNat * 1 = _; rw [hpq, Int.toNat_natCast]) (by omega) (by decide) (fun _ => rfl) ?_
      intro m hm
      rw [get_in hqM] at hm
      have hmb : m < 256 := by
        rw [← Option.some.inj hm, List.getD_eq_getElem?_getD, List.getElem?_eq_getElem hqM]
        exact hMb _ (List.getElem_mem hqM)
      conv => whnf
      refine ⟨by show 0 ≤ (p : Int) ∧ (p : Int) < ((a.length : Nat) : Int); omega, ?_⟩
      conv => whnf
      refine ⟨by show 0 ≤ (q : Int) ∧ (q : Int) < ((b.length : Nat) : Int); omega, ?_⟩
      have hxy := mul_bound hap hbq
      obtain ⟨e, he⟩ : ∃ e, e = c + m + x * y := ⟨_, rfl⟩
      have hE : IntKind.i64.wrap ((c : Int) + IntKind.i64.wrap ((m : Int) + IntKind.i64.wrap (IntKind.i64.wrap (sb (bs a) (p : Int)) * IntKind.i64.wrap (sb (bs b) (q : Int))))) = (e : Int) := by
        rw [sb_get, sb_get, ← hx, ← hy, wrap_i64 (n := (x : Int)) (by omega) (by omega), wrap_i64 (n := (y : Int)) (by omega) (by omega), ← Int.natCast_mul, wrap_i64 (n := ((x * y : Nat) : Int)) (by omega) (by omega), wrap_i64 (n := (m : Int) + ((x * y : Nat) : Int)) (by omega) (by omega), wrap_i64 (by omega) (by omega)]
        omega
      conv => whnf
      refine ⟨by rw [hpq]; show 0 ≤ ((p + 1 + q : Nat) : Int) ∧ ((p + 1 + q : Nat) : Int) < (n : Int); omega, ?_⟩
      conv => whnf
      refine ⟨⟨by rw [hpq, rowV_length i64c_len, hlen]; show ((p + 1 + q : Nat) : Int).toNat * 1 + 1 ≤ n * 1; omega, by decide⟩, ?_⟩
      conv => whnf
      refine ⟨by decide, ?_⟩
      conv => whnf
      refine ⟨(q, e % 256 :: U, e / 256, (q : Int) - 1), ⟨rfl, by omega, by simp [hU]; omega, fun z hz => ?_, by omega, ?_⟩, by show q < q + 1; omega, SLe.id ⟨rfl, rfl, rfl, rfl, ?_, ?_, trivial⟩ ⟨⟨_, rfl, ?_⟩, trivial⟩ (fun R hR => hR)⟩
      · rcases List.mem_cons.1 hz with rfl | hz
        · omega
        · exact hUb z hz
      · have hPl : M.length - (q + 1) = (a.length - p - 1) + (b.length - q - 1) := by omega
        rw [nvB, hU, nvB_drop hqM, Option.some.inj hm, show M.length - q - 1 = M.length - (q + 1) by omega, nat_drop (show q < b.length by omega), ← hy, show M.length - q = M.length - (q + 1) + 1 by omega, Nat.pow_succ]
        exact mul_step (by rw [hPl, Nat.pow_add]) he hinv rfl rfl
      · show some (SV.o (.v (.int .i64 (Int.fdiv (IntKind.i64.wrap ((c : Int) + IntKind.i64.wrap ((m : Int) + IntKind.i64.wrap (IntKind.i64.wrap (sb (bs a) (p : Int)) * IntKind.i64.wrap (sb (bs b) (q : Int)))))) (2 ^ min (8 : Int).toNat IntKind.i64.bits))))) = _
        rw [hE, fdiv8]; rfl
      · show some (SV.o (.v (.int .i64 (IntKind.i64.wrap ((q : Int) - 1))))) = _
        rw [wrap_i64 (by omega) (by omega)]; rfl
      · show MEle (ME.own t_int 1 n (putN ((IntKind.i64.wrap (IntKind.i64.wrap ((p : Int) + (q : Int)) + 1)).toNat * 1) [Value.int .i64 (IntKind.i64.wrap (BitVec.toNat (w := 64) (BitVec.ofInt 64 (IntKind.i64.wrap ((c : Int) + IntKind.i64.wrap ((m : Int) + IntKind.i64.wrap (IntKind.i64.wrap (sb (bs a) (p : Int)) * IntKind.i64.wrap (sb (bs b) (q : Int)))))) &&& BitVec.ofInt 64 255) : Int))] (rowV i64c (List.replicate (p + 1) 0 ++ (M.take (q + 1) ++ U))))) (ME.own t_int 1 n (rowV i64c (List.replicate (p + 1) 0 ++ (M.take q ++ (e % 256 :: U)))))
        rw [hE, and255 (by omega), hpq, Int.toNat_natCast, ← set_in hqM (e % 256), ← rowV_put i64c_len (e % 256) (by omega)]; exact .refl _
    · intro h
      have hq0 : q1 = 0 := by
        have : ¬ z ≥ 0 := of_decide_eq_false h
        omega
      subst hq0
      rw [List.drop_zero, List.drop_zero, Nat.sub_zero] at hinv
      have hdrop := nat_drop (l := a) (q := p) (by omega)
      rw [← hx] at hdrop
      have hval : nvB U + c * 256 ^ M.length = nat (a.drop p) * nat b := by
        rw [hinv, hv, hdrop, Nat.add_mul, Nat.mul_assoc x, Nat.mul_assoc x, Nat.mul_comm (nat b), Nat.add_comm]
      have hlen : (List.replicate (p + 1) 0 ++ ([] ++ U)).length = n := by
        simp only [List.length_append, List.length_replicate, List.length_nil, List.nil_append]; omega
      conv => whnf
      refine ⟨by show 0 ≤ (p : Int) ∧ (p : Int) < (n : Int); omega, ?_⟩
      conv => whnf
      refine RowVC.elem i64c i64c_len (k := p) (by show (p : Int).toNat * 1 = _; rw [Int.toNat_natCast]) (by show p < (List.replicate (p + 1) 0 ++ ([] ++ U)).length; omega) (by decide) (fun _ => rfl) ?_
      intro m hm
      have hm0 : m = 0 := by
        have h2 : (List.replicate (p + 1) 0 ++ ([] ++ U))[p]? = some m := hm
        rw [List.getElem?_append_left (by simp)] at h2
        rw [List.getElem?_replicate, if_pos (by omega)] at h2
        exact (Option.some.inj h2).symm
      subst hm0
      conv => whnf
      refine ⟨by show 0 ≤ (p : Int) ∧ (p : Int) < (n : Int); omega, ?_⟩
      conv => whnf
      refine ⟨⟨by show (p : Int).toNat * 1 + 1 ≤ (rowV i64c (List.replicate (p + 1) 0 ++ ([] ++ U))).length; rw [rowV_length i64c_len, hlen]; omega, by decide⟩, ?_⟩
      conv => whnf
      refine ⟨(p, c :: U, (p : Int) - 1), ⟨rfl, by omega, by simp [hU]; omega, fun z hz => ?_, ?_⟩, by show p < p + 1; omega, SLe.id ⟨rfl, rfl, rfl, ?_, trivial⟩ ⟨⟨_, rfl, ?_⟩, trivial⟩ (fun R hR => hR)⟩
      · rcases List.mem_cons.1 hz with rfl | hz
        · exact hc
        · exact hUb z hz
      · rw [nvB, hU, Nat.sub_zero, Nat.add_comm]; exact hval
      · show some (SV.o (.v (.int .i64 (IntKind.i64.wrap ((p : Int) - 1))))) = _
        rw [wrap_i64 (by omega) (by omega)]; rfl
      · show MEle (ME.own t_int 1 n (putN ((p : Int).toNat * 1) [Value.int .i64 (IntKind.i64.wrap (((0 : Nat) : Int) + (c : Int)))] (rowV i64c (List.replicate (p + 1) 0 ++ ([] ++ U))))) (ME.own t_int 1 n (rowV i64c (List.replicate p 0 ++ (c :: U))))
        rw [wrap_i64 (by omega) (by omega), Int.toNat_natCast, List.nil_append, ← set_fr c 0, ← rowV_put i64c_len c (by simp; omega), show ((0 : Nat) : Int) + (c : Int) = (c : Int) by omega]; exact .refl _
  · intro h
    have hp0 : p1 = 0 := by
      have : ¬ z ≥ 0 := of_decide_eq_false h
      omega
    subst hp0
    rw [List.drop_zero] at hv
    have hMn : M.length = n := by omega
    conv => whnf
    refine ⟨by show 0 ≤ (n : Int) ∧ (n : Int) ≤ (n : Int) ∧ ((1 : Nat) : Int) * (n : Int) ≤ 281474976710656 ∧ (n : Int) ≤ 9223372036854775807; omega, ?_⟩
    conv => whnf
    refine sexec_loop (ι := Nat) (fun i => ⟨[(5, .o (.w 16)), (9, .o (.w 69)), (10, .o (.v (.int .i64 i)))], [(16, .own t_int 1 n (rowV i64c M)), (69, .own t_uint8 1 n (rowV u8c ((M.take i).map UInt8.ofNat ++ List.replicate (n - i) 0)))], []⟩)
      (fun i => i ≤ n) (fun i => n - i) 0 (Nat.zero_le _) (SLe.id ⟨rfl, rfl, rfl, trivial⟩ ⟨⟨_, rfl, .refl _⟩, ⟨_, rfl, ?_⟩, trivial⟩ (fun R hR => hR)) ?_
    · show MEle (ME.own t_uint8 1 (n : Int).toNat (repl (n : Int).toNat [Value.int .u8 0])) (ME.own t_uint8 1 n (rowV u8c (List.replicate (n - 0) 0)))
      rw [Int.toNat_natCast, rep_front]; exact .refl _
    intro i hi
    conv => whnf
    refine br_split ?_ ?_
    · intro h
      have hi2 : i < n := by
        have : (i : Int) < (n : Int) := of_decide_eq_true h
        omega
      conv => whnf
      refine ⟨by show 0 ≤ (i : Int) ∧ (i : Int) < (n : Int); omega, ?_⟩
      conv => whnf
      refine RowVC.elem i64c i64c_len (k := i) (by show (i : Int).toNat * 1 = _; rw [Int.toNat_natCast]) (by omega) (by decide) (fun _ => rfl) ?_
      intro m hm
      have hmb := hMb m (List.mem_of_getElem? hm)
      conv => whnf
      refine ⟨by show 0 ≤ (i : Int) ∧ (i : Int) < (n : Int); omega, ?_⟩
      conv => whnf
      refine ⟨⟨by show (i : Int).toNat * 1 + 1 ≤ (rowV u8c ((M.take i).map UInt8.ofNat ++ List.replicate (n - i) 0)).length; rw [rowV_length u8c_len]; simp; omega, by decide⟩, ?_⟩
      conv => whnf
      refine ⟨i + 1, by omega, by omega, SLe.id ⟨rfl, rfl, some_wrap hi2 (by omega), trivial⟩ ⟨⟨_, rfl, .refl _⟩, ⟨_, rfl, ?_⟩, trivial⟩ (fun R hR => hR)⟩
      show MEle (ME.own t_uint8 1 n (putN ((i : Int).toNat * 1) [Value.int .u8 (IntKind.u8.wrap (m : Int))] (rowV u8c ((M.take i).map UInt8.ofNat ++ List.replicate (n - i) 0)))) (ME.own t_uint8 1 n (rowV u8c ((M.take (i + 1)).map UInt8.ofNat ++ List.replicate (n - (i + 1)) 0)))
      have hput := rowV_put (f := u8c) u8c_len (k := i) (l := (M.take i).map UInt8.ofNat ++ List.replicate (n - i) 0) (UInt8.ofNat (m % 256)) (by simp; omega)
      have hset : ((M.take i).map UInt8.ofNat ++ List.replicate (n - i) 0).set i (UInt8.ofNat (m % 256)) = (M.take (i + 1)).map UInt8.ofNat ++ List.replicate (n - (i + 1)) 0 := by
        rw [List.set_append_right _ _ (by simp; omega), List.length_map, List.length_take, Nat.min_eq_left (by omega), Nat.sub_self, show n - i = (n - (i + 1)) + 1 by omega, List.replicate_succ, List.set_cons_zero, take_snoc' hm, List.map_append, List.append_assoc, Nat.mod_eq_of_lt hmb]; rfl
      rw [hset] at hput
      rw [Int.toNat_natCast, u8_mod, ← hput]; exact .refl _
    · intro h
      have hi2 : i = n := by
        have : ¬ (i : Int) < (n : Int) := of_decide_eq_false h
        omega
      subst hi2
      conv => whnf
      refine ⟨M.map UInt8.ofNat, by rw [List.length_map, hMn], ?_, ?_⟩
      · show (rowV u8c ((M.take i).map UInt8.ofNat ++ List.replicate (i - i) 0)).take i = _
        rw [show M.take i = M from List.take_of_length_le (by omega), Nat.sub_self, List.replicate_zero, List.append_nil, rowV_u8]
        exact List.take_of_length_le (by simp [bytV, hMn])
      conv => whnf
      refine CallVC.fn (r_trim (M.map UInt8.ofNat)) rfl ?_
      rw [stripL_eq, nvB_bytes hMb, hv]
      conv => whnf
      exact postV_one rfl
end Go.Sx
end
section
set_option maxRecDepth 10000
set_option maxHeartbeats 2000000
set_option linter.unusedSimpArgs false
set_option linter.unusedVariables false
set_option pp.deepTerms false
set_option pp.deepTerms.threshold 6
namespace Go.Sx
open Go Go.Proofs
def strC (n : Nat) : List Value := [.string (bs (bytes n))]
theorem strC_len (n : Nat) : (strC n).length = 1 := rfl
def timesL (y i : Nat) : List Nat := (List.range 8).map fun j => if j < i then y * 2 ^ j else 0
theorem timesL_len (y i : Nat) : (timesL y i).length = 8 := by simp [timesL]
theorem timesL_get (y i j : Nat) (h : j < 8) : (timesL y i)[j]? = some (if j < i then y * 2 ^ j else 0) := by
  unfold timesL; rw [List.getElem?_map, List.getElem?_range h]; rfl
theorem timesL_set (y i : Nat) (h : i < 8) : (timesL y i).set i (y * 2 ^ i) = timesL y (i + 1) := by
  apply List.ext_getElem?
  intro j
  rw [List.getElem?_set]
  by_cases hj : j < 8
  · rw [timesL_get y (i + 1) j hj]
    by_cases e : i = j
    · subst e; rw [if_pos rfl, if_pos (by rw [timesL_len]; exact h), if_pos (by omega)]
    · rw [if_neg e, timesL_get y i j hj]
      by_cases h2 : j < i
      · rw [if_pos h2, if_pos (by omega)]
      · rw [if_neg h2, if_neg (by omega)]
  · rw [List.getElem?_eq_none (by rw [timesL_len]; omega), List.getElem?_eq_none (by rw [timesL_len]; omega), if_neg (by omega)]
theorem bytes_mono {m n : Nat} (h : m ≤ n) : (bytes m).length ≤ (bytes n).length := by
  rcases Nat.lt_or_ge (bytes n).length (bytes m).length with h1 | h1
  · have := bytes_lt_of_len h1; omega
  · exact h1
theorem bytes_len_mul {n k : Nat} : (bytes (n * 256 ^ k)).length ≤ (bytes n).length + k := by
  refine bytes_len ?_
  have := nat_lt (bytes n)
  rw [nat_bytes] at this
  rw [Nat.pow_add]
  exact Nat.mul_lt_mul_of_pos_right this (Nat.pow_pos (by decide))
theorem r_divMag (x y : Nat) (hx : (bytes x).length ≤ 300000000) (hy : (bytes y).length ≤ 300000000) (hy0 : 0 < y) :
    Fn PP f_narrowsref01_divMag [.string (bs (bytes x)), .string (bs (bytes y))] (.tuple #[.string (bs (bytes (x / y))), .string (bs (bytes (x % y)))]) := by
  refine Fn.of TBgood mixed h_narrowsref01_divMag rfl rfl (Nat.le_of_ble_eq_true rfl) ?_
  intro w
  obtain ⟨a, ha⟩ : ∃ a, a = bytes x := ⟨_, rfl⟩
  have hax : nat a = x := by rw [ha, nat_bytes]
  rw [← ha] at hx ⊢
  have hty : ∀ j, j ≤ 8 → (bytes (y * 2 ^ j)).length ≤ 300000001 := fun j hj => by
    have h1 : y * 2 ^ j ≤ y * 256 ^ 1 := Nat.mul_le_mul_left _ (Nat.le_trans (Nat.pow_le_pow_right (by decide) hj) (by decide))
    have := bytes_mono h1
    have := bytes_len_mul (n := y) (k := 1)
    omega
  conv => whnf
  refine ⟨by decide, ?_⟩
  conv => whnf
  refine sexec_loop (ι := Nat) (fun i => ⟨[(0, .o (.v (.string (bs a)))), (6, .o (.p 6 0)), (7, .o (.v (.int .i64 i)))], [(6, .sym (rowV strC (timesL y i)) t_ar8_string)], []⟩)
    (fun i => 1 ≤ i ∧ i ≤ 8) (fun i => 8 - i) 1 ⟨Nat.le_refl _, by decide⟩ (SLe.id ⟨rfl, rfl, rfl, trivial⟩ ⟨⟨_, rfl, .sym _ ?_⟩, trivial⟩ (fun R hR => hR)) ?_
  · have e : timesL y 1 = [y, 0, 0, 0, 0, 0, 0, 0] := by simp [timesL, List.range_succ]
    rw [e]
    simp only [rowV, strC, bytes_zero]
    rfl
  rintro i ⟨hi1, hi⟩
  conv => whnf
  refine br_split ?_ ?_
  · intro h
    have hi2 : i < 8 := by
      have : (i : Int) < 8 := of_decide_eq_true h
      omega
    obtain ⟨j, rfl⟩ : ∃ j, i = j + 1 := ⟨i - 1, by omega⟩
    have hw : IntKind.i64.wrap (((j + 1 : Nat) : Int) - 1) = (j : Int) := by rw [wrap_i64 (by omega) (by omega)]; omega
    have hg := timesL_get y (j + 1) j (by omega)
    rw [if_pos (by omega)] at hg
    conv => whnf
    refine DrawVC.quiet (by kernel_rfl) ?_
    conv => whnf
    refine ⟨by rw [hw]; show 0 ≤ (j : Int) ∧ (j : Int) < ((8 : Nat) : Int); omega, ?_⟩
    conv => whnf
    refine RowVC.elem strC strC_len (k := j) (by show 0 + (IntKind.i64.wrap (((j + 1 : Nat) : Int) - 1)).toNat * 1 = _; rw [hw, Int.toNat_natCast]; omega) (by rw [timesL_len]; omega) (by decide) (fun _ => rfl) ?_
    intro m hm
    obtain rfl : m = y * 2 ^ j := by rw [hg] at hm; exact (Option.some.inj hm).symm
    conv => whnf
    refine ⟨by rw [hw]; show 0 ≤ (j : Int) ∧ (j : Int) < ((8 : Nat) : Int); omega, ?_⟩
    conv => whnf
    refine RowVC.elem strC strC_len (k := j) (by show 0 + (IntKind.i64.wrap (((j + 1 : Nat) : Int) - 1)).toNat * 1 = _; rw [hw, Int.toNat_natCast]; omega) (by rw [timesL_len]; omega) (by decide) (fun _ => rfl) ?_
    intro m hm
    obtain rfl : m = y * 2 ^ j := by rw [hg] at hm; exact (Option.some.inj hm).symm
    conv => whnf
    have hl := hty j (by omega)
    refine CallVCd.fn (r_addMag (bytes (y * 2 ^ j)) (bytes (y * 2 ^ j)) (by omega) (by omega)) rfl ?_
    rw [nat_bytes, show y * 2 ^ j + y * 2 ^ j = y * 2 ^ (j + 1) by rw [Nat.pow_succ, ← Nat.mul_assoc]; omega]
    conv => whnf
    refine ⟨by show 0 ≤ ((j + 1 : Nat) : Int) ∧ ((j + 1 : Nat) : Int) < ((8 : Nat) : Int); omega, ?_⟩
    conv => whnf
    refine ⟨by show 0 + ((j + 1 : Nat) : Int).toNat * 1 + 1 ≤ (rowV strC (timesL y (j + 1))).length; rw [rowV_length strC_len, timesL_len, Int.toNat_natCast]; omega, ?_⟩
    conv => whnf
    refine ⟨j + 2, ⟨by omega, by omega⟩, by omega, SLe.id ⟨rfl, rfl, some_wrap hi2 (by omega), trivial⟩ ⟨⟨_, rfl, ?_⟩, trivial⟩ (fun R hR => hR)⟩
    show MEle (ME.sym (putN (0 + ((j + 1 : Nat) : Int).toNat * 1) (strC (y * 2 ^ (j + 1))) (rowV strC (timesL y (j + 1)))) _) (ME.sym (rowV strC (timesL y (j + 2))) _)
    rw [Int.toNat_natCast, Nat.zero_add, rowV_put strC_len (y * 2 ^ (j + 1)) (by rw [timesL_len]; omega), timesL_set y (j + 1) hi2]
    exact .refl _
  intro h
  have hi2 : i = 8 := by
    have : ¬ (i : Int) < 8 := of_decide_eq_false h
    omega
  subst hi2
  have hts : ∀ k, k < 8 → (timesL y 8)[k]? = some (y * 2 ^ k) := fun k hk => by rw [timesL_get y 8 k hk, if_pos hk]
  obtain ⟨n, hn⟩ : ∃ n, n = a.length := ⟨_, rfl⟩
  conv => whnf
  refine ⟨by show 0 ≤ ((a.length : Nat) : Int) ∧ ((a.length : Nat) : Int) ≤ ((a.length : Nat) : Int) ∧ ((1 : Nat) : Int) * ((a.length : Nat) : Int) ≤ 281474976710656 ∧ ((a.length : Nat) : Int) ≤ 9223372036854775807; omega, ?_⟩
  conv => whnf
  refine sexec_loop (ι := Nat × List UInt8 × Nat) (fun ⟨i, L, r⟩ => ⟨[(0, .o (.v (.string (bs a)))), (6, .o (.p 6 0)), (8, .o (.w 32)), (9, .o (.v (.string (bs (bytes r))))), (10, .o (.v (.int .i64 i)))], [(6, .sym (rowV strC (timesL y 8)) t_ar8_string), (32, .own t_uint8 1 n (rowV u8c (L ++ List.replicate (n - i) 0)))], []⟩)
    (fun ⟨i, L, r⟩ => i ≤ n ∧ L.length = i ∧ nat L = nat (a.take i) / y ∧ r = nat (a.take i) % y) (fun ⟨i, L, r⟩ => n - i) (0, [], 0) ⟨Nat.zero_le _, rfl, by rw [List.take_zero, nat_nil, Nat.zero_div], by rw [List.take_zero, nat_nil, Nat.zero_mod]⟩ (SLe.id ⟨rfl, rfl, rfl, ?_, rfl, trivial⟩ ⟨⟨_, rfl, .refl _⟩, ⟨_, rfl, ?_⟩, trivial⟩ (fun R hR => hR)) ?_
  · rw [bytes_zero]; rfl
  · show MEle (ME.own t_uint8 1 ((a.length : Nat) : Int).toNat (repl ((a.length : Nat) : Int).toNat [Value.int .u8 0])) (ME.own t_uint8 1 n (rowV u8c ([] ++ List.replicate (n - 0) 0)))
    rw [← hn, Int.toNat_natCast, rep_front]; exact .refl _
  rintro ⟨i, L, r⟩ ⟨hi, hL, hq, hr⟩
  conv => whnf
  refine br_split ?_ ?_
  · intro h
    have hi2 : i < n := by
      have : (i : Int) < ((a.length : Nat) : Int) := of_decide_eq_true h
      omega
    obtain ⟨d0, hd0⟩ : ∃ d0, a[i]? = some d0 := ⟨_, List.getElem?_eq_getElem (by omega)⟩
    have hwi : IntKind.i64.wrap ((i : Int) + 1) = ((i + 1 : Nat) : Int) := wrap_succ hi2 (by omega)
    have hry : r < y := by rw [hr]; exact Nat.mod_lt _ hy0
    have hlr := bytes_mono (Nat.le_of_lt hry)
    have hd0b : d0.toNat < 256 := d0.toBitVec.isLt
    have hext : (bs a).extract (i : Int).toNat (IntKind.i64.wrap ((i : Int) + 1)).toNat = bs [d0] := by
      rw [hwi, Int.toNat_natCast, Int.toNat_natCast, bs_extract, take_snoc' hd0, List.drop_append_of_le_length (by rw [List.length_take]; omega), List.drop_of_length_le (by rw [List.length_take]; omega)]; rfl
    obtain ⟨V, hV⟩ : ∃ V, V = r * 256 + d0.toNat := ⟨_, rfl⟩
    have hnatV : nat (bytes r ++ [d0]) = V := by rw [nat_snoc, nat_bytes]; omega
    conv => whnf
    refine ⟨by rw [hwi]; show 0 ≤ (i : Int) ∧ (i : Int) ≤ ((i + 1 : Nat) : Int) ∧ ((i + 1 : Nat) : Int) ≤ ((a.length : Nat) : Int); omega, ?_⟩
    rw [hext]
    conv => whnf
    refine ⟨by show (((bytes r).length + 1 : Nat) : Int) ≤ 9223372036854775807; omega, ?_⟩
    rw [bs_append]
    conv => whnf
    refine CallVC.fn (r_trim (bytes r ++ [d0])) rfl ?_
    rw [stripL_eq, hnatV]
    conv => whnf
    refine sexec_loop (ι := Nat × Nat × Nat × Int) (fun ⟨k, R, d, z⟩ => ⟨[(0, .o (.v (.string (bs a)))), (6, .o (.p 6 0)), (8, .o (.w 32)), (9, .o (.v (.string (bs (bytes R))))), (10, .o (.v (.int .i64 i))), (11, .o (.v (.int .i64 d))), (12, .o (.v (.int .i64 z)))], [(6, .sym (rowV strC (timesL y 8)) t_ar8_string), (32, .own t_uint8 1 n (rowV u8c (L ++ List.replicate (n - i) 0)))], []⟩)
      (fun ⟨k, R, d, z⟩ => z = (k : Int) - 1 ∧ k ≤ 8 ∧ R + d * y = V ∧ R < y * 2 ^ k ∧ d + 2 ^ k ≤ 256) (fun ⟨k, R, d, z⟩ => k) (8, V, 0, 7) ⟨rfl, Nat.le_refl _, by omega, by rw [hV]; omega, by decide⟩ (SLe.id ⟨rfl, rfl, rfl, rfl, rfl, rfl, rfl, trivial⟩ ⟨⟨_, rfl, .refl _⟩, ⟨_, rfl, .refl _⟩, trivial⟩ (fun R hR => hR)) ?_
    rintro ⟨k1, R, d, z⟩ ⟨hz, hk8, hRV, hRy, hd⟩
    conv => whnf
    refine br_split ?_ ?_
    · intro h
      obtain ⟨k, rfl⟩ : ∃ k, k1 = k + 1 := ⟨k1 - 1, by
        have : z ≥ 0 := of_decide_eq_true h
        omega⟩
      obtain rfl : z = (k : Int) := by omega
      have hR9 : (bytes R).length ≤ 300000001 := by
        have h1 : R ≤ y * 2 ^ 8 := Nat.le_trans (Nat.le_of_lt hRy) (Nat.mul_le_mul_left _ (Nat.pow_le_pow_right (by decide) hk8))
        have := bytes_mono h1
        have := hty 8 (Nat.le_refl _)
        omega
      have hpow : 2 ^ (k + 1) = 2 ^ k + 2 ^ k := by rw [Nat.pow_succ]; omega
      rw [hpow] at hRy hd
      rw [Nat.mul_add] at hRy
      have hdec : IntKind.i64.wrap ((k : Int) - 1) = (k : Int) - 1 := wrap_i64 (by omega) (by omega)
      conv => whnf
      refine ⟨by show 0 ≤ (k : Int) ∧ (k : Int) < ((8 : Nat) : Int); omega, ?_⟩
      conv => whnf
      refine RowVC.elem strC strC_len (k := k) (by show 0 + (k : Int).toNat * 1 = _; rw [Int.toNat_natCast]; omega) (by rw [timesL_len]; omega) (by decide) (fun _ => rfl) ?_
      intro m hm
      obtain rfl : m = y * 2 ^ k := by rw [hts k (by omega)] at hm; exact (Option.some.inj hm).symm
      conv => whnf
      refine CallVC.fn (r_compareMag R (y * 2 ^ k)) rfl ?_
      by_cases hge : y * 2 ^ k ≤ R
      · have hcmp : cmpN R (y * 2 ^ k) = 0 ∨ cmpN R (y * 2 ^ k) = 1 := by
          unfold cmpN; rw [if_neg (by omega)]; split
          · exact .inr rfl
          · exact .inl rfl
        conv => whnf
        refine br_true (decide_eq_true (by rcases hcmp with e | e <;> rw [e] <;> decide)) ?_
        conv => whnf
        refine ⟨by show 0 ≤ (k : Int) ∧ (k : Int) < ((8 : Nat) : Int); omega, ?_⟩
        conv => whnf
        refine RowVC.elem strC strC_len (k := k) (by show 0 + (k : Int).toNat * 1 = _; rw [Int.toNat_natCast]; omega) (by rw [timesL_len]; omega) (by decide) (fun _ => rfl) ?_
        intro m hm
        obtain rfl : m = y * 2 ^ k := by rw [hts k (by omega)] at hm; exact (Option.some.inj hm).symm
        conv => whnf
        refine CallVC.fn (r_subMag (bytes R) (bytes (y * 2 ^ k)) (by omega) (bytes_mono hge) (by rw [nat_bytes, nat_bytes]; exact hge)) rfl ?_
        rw [nat_bytes, nat_bytes]
        conv => whnf
        have hkw : IntKind.u64.wrap (k : Int) = (k : Int) := by rw [IntKind.wrap_u64]; omega
        refine ⟨by rw [hkw]; omega, ?_⟩
        conv => whnf
        have hgen : ∀ (P : Nat), d + (P + P) ≤ 256 → IntKind.i64.wrap ((d : Int) + IntKind.i64.wrap (P : Int)) = ((d + P : Nat) : Int) := fun P hP => by
          rw [wrap_i64 (n := (P : Int)) (by omega) (by omega), wrap_i64 (by omega) (by omega)]; omega
        have hsh : IntKind.i64.wrap ((d : Int) + IntKind.i64.wrap (1 * 2 ^ min (IntKind.u64.wrap (k : Int)).toNat IntKind.i64.bits)) = ((d + 2 ^ k : Nat) : Int) := by
          rw [hkw, Int.toNat_natCast, Nat.min_eq_left (show k ≤ IntKind.i64.bits by show k ≤ 64; omega), Int.one_mul, show ((2 : Int) ^ k) = ((2 ^ k : Nat) : Int) by rw [Int.natCast_pow]; rfl, hgen _ hd]
        refine ⟨(k, R - y * 2 ^ k, d + 2 ^ k, (k : Int) - 1), ⟨rfl, by omega, ?_, by omega, by omega⟩, by show k < k + 1; omega, SLe.id ⟨rfl, rfl, rfl, rfl, rfl, ?_, ?_, trivial⟩ ⟨⟨_, rfl, .refl _⟩, ⟨_, rfl, .refl _⟩, trivial⟩ (fun R hR => hR)⟩
        · rw [Nat.add_mul, Nat.mul_comm (2 ^ k) y]; omega
        · show some (SV.o (.v (.int .i64 (IntKind.i64.wrap ((d : Int) + IntKind.i64.wrap (1 * 2 ^ min (IntKind.u64.wrap (k : Int)).toNat IntKind.i64.bits)))))) = _
          rw [hsh]; rfl
        · show some (SV.o (.v (.int .i64 (IntKind.i64.wrap ((k : Int) - 1))))) = _
          rw [hdec]; rfl
      · have hcmp : cmpN R (y * 2 ^ k) = -1 := by unfold cmpN; rw [if_pos (by omega)]
        rw [hcmp]
        conv => whnf
        refine ⟨(k, R, d, (k : Int) - 1), ⟨rfl, by omega, hRV, by omega, Nat.le_trans (Nat.add_le_add_left (Nat.le_add_right _ _) _) hd⟩, by show k < k + 1; omega, SLe.id ⟨rfl, rfl, rfl, rfl, rfl, rfl, ?_, trivial⟩ ⟨⟨_, rfl, .refl _⟩, ⟨_, rfl, .refl _⟩, trivial⟩ (fun R hR => hR)⟩
        show some (SV.o (.v (.int .i64 (IntKind.i64.wrap ((k : Int) - 1))))) = _
        rw [hdec]; rfl
    · intro h
      have hk0 : k1 = 0 := by
        have : ¬ z ≥ 0 := of_decide_eq_false h
        omega
      subst hk0
      rw [Nat.pow_zero, Nat.mul_one] at hRy
      have hR2 : R = V % y := by rw [← hRV, Nat.add_mul_mod_self_right, Nat.mod_eq_of_lt hRy]
      have hd2 : d = V / y := by rw [← hRV, Nat.add_mul_div_right _ _ hy0, Nat.div_eq_of_lt hRy, Nat.zero_add]
      have hA : nat (a.take (i + 1)) = nat (a.take i) / y * 256 * y + V := by
        rw [take_snoc' hd0, nat_snoc, hV, hr]
        have := Nat.div_add_mod (nat (a.take i)) y
        generalize nat (a.take i) / y = Q at *
        generalize nat (a.take i) % y = M at *
        rw [← this, Nat.mul_assoc Q 256 y, Nat.mul_comm 256 y, ← Nat.mul_assoc, Nat.mul_comm Q y, Nat.mul_add]; omega
      have hm2 : nat (a.take (i + 1)) % y = R := by rw [hA, Nat.add_comm, Nat.add_mul_mod_self_right, hR2]
      have hq2 : nat (a.take (i + 1)) / y = nat (a.take i) / y * 256 + d := by rw [hA, Nat.add_comm, Nat.add_mul_div_right _ _ hy0, hd2, Nat.add_comm]
      have hdb : d < 256 := by omega
      conv => whnf
      refine ⟨by show 0 ≤ (i : Int) ∧ (i : Int) < ((n : Nat) : Int); omega, ?_⟩
      conv => whnf
      refine ⟨⟨by show (i : Int).toNat * 1 + 1 ≤ (rowV u8c (L ++ List.replicate (n - i) 0)).length; rw [rowV_length u8c_len]; simp; omega, by decide⟩, ?_⟩
      conv => whnf
      refine ⟨(i + 1, L ++ [UInt8.ofNat (d % 256)], R), ⟨by omega, by simp [hL], ?_, hm2.symm⟩, by show n - (i + 1) < n - i; omega, SLe.id ⟨rfl, rfl, rfl, rfl, some_wrap hi2 (by omega), trivial⟩ ⟨⟨_, rfl, .refl _⟩, ⟨_, rfl, ?_⟩, trivial⟩ (fun R hR => hR)⟩
      · rw [nat_snoc, hq, hq2, UInt8.toNat_ofNat', Nat.mod_mod, Nat.mod_eq_of_lt hdb]; omega
      · show MEle (ME.own t_uint8 1 n (putN ((i : Int).toNat * 1) [Value.int .u8 (IntKind.u8.wrap (d : Int))] (rowV u8c (L ++ List.replicate (n - i) 0)))) (ME.own t_uint8 1 n (rowV u8c ((L ++ [UInt8.ofNat (d % 256)]) ++ List.replicate (n - (i + 1)) 0)))
        have hput := rowV_put (f := u8c) u8c_len (k := i) (l := L ++ List.replicate (n - i) 0) (UInt8.ofNat (d % 256)) (by simp; omega)
        have hset : (L ++ List.replicate (n - i) 0).set i (UInt8.ofNat (d % 256)) = (L ++ [UInt8.ofNat (d % 256)]) ++ List.replicate (n - (i + 1)) 0 := by
          rw [List.set_append_right _ _ (by omega), hL, Nat.sub_self, show n - i = (n - (i + 1)) + 1 by omega, List.replicate_succ, List.set_cons_zero, List.append_assoc]; rfl
        rw [hset] at hput
        rw [Int.toNat_natCast, u8_mod, ← hput]; exact .refl _
  · intro h
    have hi2 : i = n := by
      have : ¬ (i : Int) < ((a.length : Nat) : Int) := of_decide_eq_false h
      omega
    subst hi2
    have hall : a.take i = a := List.take_of_length_le (by omega)
    rw [hall, hax] at hq hr
    conv => whnf
    refine ⟨L, hL, ?_, ?_⟩
    · show (rowV u8c (L ++ List.replicate (i - i) 0)).take i = _
      rw [Nat.sub_self, List.replicate_zero, List.append_nil, rowV_u8]
      exact List.take_of_length_le (by simp [bytV, hL])
    conv => whnf
    refine CallVC.fn (r_trim L) rfl ?_
    rw [stripL_eq, hq]
    conv => whnf
    subst hr
    exact postV_two rfl
end Go.Sx
end
section
set_option maxRecDepth 10000
set_option maxHeartbeats 2000000
set_option linter.unusedSimpArgs false
set_option linter.unusedVariables false
set_option pp.deepTerms false
set_option pp.deepTerms.threshold 6
namespace Go.Sx
open Go Go.Proofs
theorem lt8 {z : Int} (h : (bytes z.natAbs).length ≤ 7) : z.natAbs < 72057594037927936 := by
  have := nat7 h
  rwa [nat_bytes] at this
theorem r_valueZ (z : Int) (h : (bytes z.natAbs).length ≤ 7) : Fn PP f_narrowsref01_value [zV z] (.int .i64 z) := by
  have := r_value (decide (z < 0)) (bytes z.natAbs) h
  rw [nat_bytes, sg_z] at this
  exact this
theorem zV_same {z : Int} {b : Bool} {n : Nat} (h : z = sg b n) (hb : n = 0 → b = false) : zV z = intV b (bs (bytes n)) := by
  subst h
  rw [zV, sg_natAbs]
  rcases Nat.eq_zero_or_pos n with h0 | h0
  · rw [hb h0, h0]; rfl
  · rw [sg_neg h0]
theorem beqB {x y : Bool} (h : (x == y) = true) : x = y := by simpa using h
theorem bneB {x y : Bool} (h : (x == y) = false) : x ≠ y := by simpa using h
theorem r_Add (a b : Bool) (l m : List UInt8) (hl : l.length ≤ 500000000) (hm : m.length ≤ 500000000) : Fn PP f_narrowsref01_Add [intV a (bs l), intV b (bs m)] (zV (sg a (nat l) + sg b (nat m))) := by
  refine Fn.of TBgood mixed h_narrowsref01_Add rfl rfl (Nat.le_of_ble_eq_true rfl) ?_
  intro w
  obtain ⟨X, hX⟩ : ∃ X, X = sg a (nat l) := ⟨_, rfl⟩
  obtain ⟨Y, hY⟩ : ∃ Y, Y = sg b (nat m) := ⟨_, rfl⟩
  have hXl : (bytes X.natAbs).length ≤ 500000000 := by rw [hX, sg_natAbs]; exact Nat.le_trans (bytes_nat_len _) hl
  have hYl : (bytes Y.natAbs).length ≤ 500000000 := by rw [hY, sg_natAbs]; exact Nat.le_trans (bytes_nat_len _) hm
  have cX := r_Canonical a l
  have cY := r_Canonical b m
  rw [← hX] at cX ⊢
  rw [← hY] at cY ⊢
  conv => whnf
  refine DrawVC.quiet (by kernel_rfl) ?_
  conv => whnf
  refine CallVCd.fn cX rfl ?_
  conv => whnf
  refine CallVCd.fn cY rfl ?_
  conv => whnf
  by_cases hs : (bytes X.natAbs).length ≤ 7 ∧ (bytes Y.natAbs).length ≤ 7
  · refine br_true (decide_eq_true (show ((bytes X.natAbs).length : Int) < 8 by omega)) ?_
    conv => whnf
    refine br_true (decide_eq_true (show ((bytes Y.natAbs).length : Int) < 8 by omega)) ?_
    have h1 := lt8 hs.1
    have h2 := lt8 hs.2
    conv => whnf
    refine DrawVC.quiet (by kernel_rfl) ?_
    conv => whnf
    refine CallVCd.fn (r_valueZ X hs.1) rfl ?_
    conv => whnf
    refine CallVCd.fn (r_valueZ Y hs.2) rfl ?_
    conv => whnf
    have hw : IntKind.i64.wrap (X + Y) = X + Y := wrap_i64 (by omega) (by omega)
    refine CallVCd.fn (r := zV (X + Y)) (r_Of (X + Y) (by omega) (by omega)) (congrArg (fun z => [SV.o (.v (.int .i64 z))]) hw) ?_
    conv => whnf
    exact postV_one rfl
  have hc : ¬ (bytes X.natAbs).length ≤ 7 ∨ ((bytes X.natAbs).length ≤ 7 ∧ ¬ (bytes Y.natAbs).length ≤ 7) := by omega
  have hsame : decide (X < 0) = decide (Y < 0) → intV (decide (X < 0)) (bs (bytes (X.natAbs + Y.natAbs))) = zV (X + Y) := fun h => by
    refine (zV_same ?_ ?_).symm
    · have h1 := decide_eq_decide.1 h
      unfold sg
      by_cases h2 : X < 0
      · rw [decide_eq_true h2, if_pos rfl]; omega
      · rw [decide_eq_false h2, if_neg (by decide)]; omega
    · intro h0; exact decide_eq_false (by omega)
  have hleft : decide (X < 0) ≠ decide (Y < 0) → Y.natAbs < X.natAbs → intV (decide (X < 0)) (bs (bytes (X.natAbs - Y.natAbs))) = zV (X + Y) := fun h hlt => by
    refine (zV_same ?_ (by omega)).symm
    unfold sg
    by_cases h2 : X < 0 <;> by_cases h3 : Y < 0
    · exact absurd (by rw [decide_eq_true h2, decide_eq_true h3]) h
    · rw [decide_eq_true h2, if_pos rfl]; omega
    · rw [decide_eq_false h2, if_neg (by decide)]; omega
    · exact absurd (by rw [decide_eq_false h2, decide_eq_false h3]) h
  have hright : decide (X < 0) ≠ decide (Y < 0) → X.natAbs < Y.natAbs → intV (decide (Y < 0)) (bs (bytes (Y.natAbs - X.natAbs))) = zV (X + Y) := fun h hlt => by
    refine (zV_same ?_ (by omega)).symm
    unfold sg
    by_cases h2 : X < 0 <;> by_cases h3 : Y < 0
    · exact absurd (by rw [decide_eq_true h2, decide_eq_true h3]) h
    · rw [decide_eq_false h3, if_neg (by decide)]; omega
    · rw [decide_eq_true h3, if_pos rfl]; omega
    · exact absurd (by rw [decide_eq_false h2, decide_eq_false h3]) h
  have hz : decide (X < 0) ≠ decide (Y < 0) → X.natAbs = Y.natAbs → intV false ⟨#[]⟩ = zV (X + Y) := fun h he => by
    have : X + Y = 0 := by
      by_cases h2 : X < 0 <;> by_cases h3 : Y < 0
      · exact absurd (by rw [decide_eq_true h2, decide_eq_true h3]) h
      · omega
      · omega
      · exact absurd (by rw [decide_eq_false h2, decide_eq_false h3]) h
    rw [this, zV, Int.natAbs_zero, bytes_zero]; rfl
  rcases hc with h1 | ⟨h1, h2⟩
  · refine br_false (decide_eq_false (show ¬ ((bytes X.natAbs).length : Int) < 8 by omega)) ?_
    conv => whnf
    refine br_split ?_ ?_
    · intro h
      have hs := beqB h
      conv => whnf
      refine DrawVC.quiet (by kernel_rfl) ?_
      conv => whnf
      refine CallVCd.fn (r_addMag (bytes X.natAbs) (bytes Y.natAbs) hXl hYl) rfl ?_
      rw [nat_bytes, nat_bytes]
      conv => whnf
      exact postV_one (hsame hs)
    · intro h
      have hs := bneB h
      conv => whnf
      refine CallVC.fn (r_compareMag X.natAbs Y.natAbs) rfl ?_
      rcases Nat.lt_trichotomy X.natAbs Y.natAbs with hc | hc | hc
      · rw [show cmpN X.natAbs Y.natAbs = -1 by rw [cmpN, if_pos hc]]
        conv => whnf
        refine DrawVC.quiet (by kernel_rfl) ?_
        conv => whnf
        refine CallVCd.fn (r_subMag (bytes Y.natAbs) (bytes X.natAbs) hYl (bytes_mono (Nat.le_of_lt hc)) (by rw [nat_bytes, nat_bytes]; omega)) rfl ?_
        rw [nat_bytes, nat_bytes]
        conv => whnf
        exact postV_one (hright hs hc)
      · rw [show cmpN X.natAbs Y.natAbs = 0 by rw [cmpN, if_neg (by omega), if_neg (by omega)]]
        conv => whnf
        exact postV_one (hz hs hc)
      · rw [show cmpN X.natAbs Y.natAbs = 1 by rw [cmpN, if_neg (by omega), if_pos hc]]
        conv => whnf
        refine DrawVC.quiet (by kernel_rfl) ?_
        conv => whnf
        refine CallVCd.fn (r_subMag (bytes X.natAbs) (bytes Y.natAbs) hXl (bytes_mono (Nat.le_of_lt hc)) (by rw [nat_bytes, nat_bytes]; omega)) rfl ?_
        rw [nat_bytes, nat_bytes]
        conv => whnf
        exact postV_one (hleft hs hc)
  · refine br_true (decide_eq_true (show ((bytes X.natAbs).length : Int) < 8 by omega)) ?_
    conv => whnf
    refine br_false (decide_eq_false (show ¬ ((bytes Y.natAbs).length : Int) < 8 by omega)) ?_
    conv => whnf
    refine br_split ?_ ?_
    · intro h
      have hs := beqB h
      conv => whnf
      refine DrawVC.quiet (by kernel_rfl) ?_
      conv => whnf
      refine CallVCd.fn (r_addMag (bytes X.natAbs) (bytes Y.natAbs) hXl hYl) rfl ?_
      rw [nat_bytes, nat_bytes]
      conv => whnf
      exact postV_one (hsame hs)
    · intro h
      have hs := bneB h
      conv => whnf
      refine CallVC.fn (r_compareMag X.natAbs Y.natAbs) rfl ?_
      rcases Nat.lt_trichotomy X.natAbs Y.natAbs with hc | hc | hc
      · rw [show cmpN X.natAbs Y.natAbs = -1 by rw [cmpN, if_pos hc]]
        conv => whnf
        refine DrawVC.quiet (by kernel_rfl) ?_
        conv => whnf
        refine CallVCd.fn (r_subMag (bytes Y.natAbs) (bytes X.natAbs) hYl (bytes_mono (Nat.le_of_lt hc)) (by rw [nat_bytes, nat_bytes]; omega)) rfl ?_
        rw [nat_bytes, nat_bytes]
        conv => whnf
        exact postV_one (hright hs hc)
      · rw [show cmpN X.natAbs Y.natAbs = 0 by rw [cmpN, if_neg (by omega), if_neg (by omega)]]
        conv => whnf
        exact postV_one (hz hs hc)
      · rw [show cmpN X.natAbs Y.natAbs = 1 by rw [cmpN, if_neg (by omega), if_pos hc]]
        conv => whnf
        refine DrawVC.quiet (by kernel_rfl) ?_
        conv => whnf
        refine CallVCd.fn (r_subMag (bytes X.natAbs) (bytes Y.natAbs) hXl (bytes_mono (Nat.le_of_lt hc)) (by rw [nat_bytes, nat_bytes]; omega)) rfl ?_
        rw [nat_bytes, nat_bytes]
        conv => whnf
        exact postV_one (hleft hs hc)
theorem r_AddZ (x y : Int) (hx : (bytes x.natAbs).length ≤ 500000000) (hy : (bytes y.natAbs).length ≤ 500000000) : Fn PP f_narrowsref01_Add [zV x, zV y] (zV (x + y)) := by
  have := r_Add (decide (x < 0)) (decide (y < 0)) (bytes x.natAbs) (bytes y.natAbs) hx hy
  rw [nat_bytes, nat_bytes, sg_z, sg_z] at this
  exact this
theorem r_Neg (b : Bool) (l : List UInt8) : Fn PP f_narrowsref01_Neg [intV b (bs l)] (zV (-(sg b (nat l)))) := by
  refine Fn.of TBgood mixed h_narrowsref01_Neg rfl rfl (Nat.le_of_ble_eq_true rfl) ?_
  intro w
  obtain ⟨X, hX⟩ : ∃ X, X = sg b (nat l) := ⟨_, rfl⟩
  have cX := r_Canonical b l
  rw [← hX] at cX ⊢
  conv => whnf
  refine CallVC.fn cX rfl ?_
  conv => whnf
  by_cases h : X < 0
  · refine br_false (by rw [decide_eq_true h]; rfl) ?_
    conv => whnf
    refine postV_one ?_
    rw [zV, Int.natAbs_neg, decide_eq_false (show ¬ -X < 0 by omega)]
  · refine br_true (by rw [decide_eq_false h]; rfl) ?_
    conv => whnf
    refine postV_one ?_
    show intV (!((bs (bytes X.natAbs)).toList == ByteArray.toList ⟨#[]⟩)) _ = _
    rw [bs_nil_iff, zV, Int.natAbs_neg]
    congr 1
    by_cases h0 : X = 0
    · rw [h0, Int.natAbs_zero, bytes_zero]; rfl
    · rw [decide_eq_false (fun h2 => by have := bytes_nil.1 h2; omega), decide_eq_true (show -X < 0 by omega)]; rfl
theorem r_NegZ (x : Int) : Fn PP f_narrowsref01_Neg [zV x] (zV (-x)) := by
  have := r_Neg (decide (x < 0)) (bytes x.natAbs)
  rw [nat_bytes, sg_z] at this
  exact this
theorem r_SubZ (x y : Int) (hx : (bytes x.natAbs).length ≤ 500000000) (hy : (bytes y.natAbs).length ≤ 500000000) : Fn PP f_narrowsref01_Sub [zV x, zV y] (zV (x - y)) := by
  refine Fn.of TBgood mixed h_narrowsref01_Sub rfl rfl (Nat.le_of_ble_eq_true rfl) ?_
  intro w
  conv => whnf
  refine DrawVC.quiet (by kernel_rfl) ?_
  conv => whnf
  refine CallVCd.fn (r_NegZ y) rfl ?_
  conv => whnf
  refine CallVCd.fn (r_AddZ x (-y) hx (by rw [Int.natAbs_neg]; exact hy)) rfl ?_
  conv => whnf
  exact postV_one (by rw [Int.sub_eq_add_neg])
end Go.Sx
end
section
set_option maxRecDepth 10000
set_option maxHeartbeats 2000000
set_option linter.unusedSimpArgs false
set_option linter.unusedVariables false
set_option pp.deepTerms false
set_option pp.deepTerms.threshold 6
namespace Go.Sx
open Go Go.Proofs
theorem emptyN (n : Nat) : ((bs (bytes n)).toList == ByteArray.toList ⟨#[]⟩) = decide (n = 0) := by rw [bs_nil_iff]; exact decide_eq_decide.2 bytes_nil
theorem emptyZ (X : Int) : ((bs (bytes X.natAbs)).toList == ByteArray.toList ⟨#[]⟩) = decide (X = 0) := by rw [emptyN]; exact decide_eq_decide.2 (by omega)
theorem r_mulZ0 (X Y : Int) (h : X = 0 ∨ Y = 0) : intV false ⟨#[]⟩ = zV (X * Y) := by
  have : X * Y = 0 := by rcases h with h | h <;> simp [h]
  rw [this, zV, Int.natAbs_zero, bytes_zero]; rfl
theorem bytes_prod_lt {X Y : Int} (h : (bytes X.natAbs).length + (bytes Y.natAbs).length ≤ 7) : (X * Y).natAbs < 72057594037927936 := by
  have h1 := nat_lt (bytes X.natAbs)
  have h2 := nat_lt (bytes Y.natAbs)
  rw [nat_bytes] at h1 h2
  have := Nat.lt_of_lt_of_le (pow_add_lt h1 h2) (Nat.pow_le_pow_right (n := 256) (by decide) h)
  rw [Int.natAbs_mul]; simpa using this
theorem r_Mul (a b : Bool) (l m : List UInt8) (hl : l.length ≤ 400000000) (hm : m.length ≤ 400000000) : Fn PP f_narrowsref01_Mul [intV a (bs l), intV b (bs m)] (zV (sg a (nat l) * sg b (nat m))) := by
  refine Fn.of TBgood mixed h_narrowsref01_Mul rfl rfl (Nat.le_of_ble_eq_true rfl) ?_
  intro w
  obtain ⟨X, hX⟩ : ∃ X, X = sg a (nat l) := ⟨_, rfl⟩
  obtain ⟨Y, hY⟩ : ∃ Y, Y = sg b (nat m) := ⟨_, rfl⟩
  have hXl : (bytes X.natAbs).length ≤ 400000000 := by rw [hX, sg_natAbs]; exact Nat.le_trans (bytes_nat_len _) hl
  have hYl : (bytes Y.natAbs).length ≤ 400000000 := by rw [hY, sg_natAbs]; exact Nat.le_trans (bytes_nat_len _) hm
  have cX := r_Canonical a l
  have cY := r_Canonical b m
  rw [← hX] at cX ⊢
  rw [← hY] at cY ⊢
  conv => whnf
  refine DrawVC.quiet (by kernel_rfl) ?_
  conv => whnf
  refine CallVCd.fn cX rfl ?_
  conv => whnf
  refine CallVCd.fn cY rfl ?_
  conv => whnf
  by_cases hX0 : X = 0
  · refine br_true ((emptyZ X).trans (decide_eq_true hX0)) ?_
    conv => whnf
    exact postV_one (r_mulZ0 X Y (.inl hX0))
  refine br_false ((emptyZ X).trans (decide_eq_false hX0)) ?_
  conv => whnf
  by_cases hY0 : Y = 0
  · refine br_true ((emptyZ Y).trans (decide_eq_true hY0)) ?_
    conv => whnf
    exact postV_one (r_mulZ0 X Y (.inr hY0))
  refine br_false ((emptyZ Y).trans (decide_eq_false hY0)) ?_
  conv => whnf
  have hw : IntKind.i64.wrap (((bytes X.natAbs).length : Int) + ((bytes Y.natAbs).length : Int)) = ((bytes X.natAbs).length : Int) + ((bytes Y.natAbs).length : Int) := wrap_i64 (by omega) (by omega)
  refine br_split ?_ ?_
  · intro h
    have hs : (bytes X.natAbs).length + (bytes Y.natAbs).length ≤ 7 := by
      have h2 : IntKind.i64.wrap (((bytes X.natAbs).length : Int) + ((bytes Y.natAbs).length : Int)) < 8 := of_decide_eq_true h
      rw [hw] at h2; omega
    have hp := bytes_prod_lt hs
    conv => whnf
    refine DrawVC.quiet (by kernel_rfl) ?_
    conv => whnf
    refine CallVCd.fn (r_valueZ X (by omega)) rfl ?_
    conv => whnf
    refine CallVCd.fn (r_valueZ Y (by omega)) rfl ?_
    conv => whnf
    have hw2 : IntKind.i64.wrap (X * Y) = X * Y := wrap_i64 (by omega) (by omega)
    refine CallVCd.fn (r := zV (X * Y)) (r_Of (X * Y) (by omega) (by omega)) (congrArg (fun z => [SV.o (.v (.int .i64 z))]) hw2) ?_
    conv => whnf
    exact postV_one rfl
  · intro h
    conv => whnf
    refine DrawVC.quiet (by kernel_rfl) ?_
    conv => whnf
    refine CallVCd.fn (r_mulMag (bytes X.natAbs) (bytes Y.natAbs) (by omega) hYl) rfl ?_
    rw [nat_bytes, nat_bytes]
    conv => whnf
    refine postV_one ?_
    have hpos : 0 < X.natAbs * Y.natAbs := Nat.mul_pos (by omega) (by omega)
    refine (zV_same (b := decide (X < 0) != decide (Y < 0)) ?_ (by omega)).symm
    rw [sg_mul, sg_z, sg_z]
theorem r_MulZ (x y : Int) (hx : (bytes x.natAbs).length ≤ 400000000) (hy : (bytes y.natAbs).length ≤ 400000000) : Fn PP f_narrowsref01_Mul [zV x, zV y] (zV (x * y)) := by
  have := r_Mul (decide (x < 0)) (decide (y < 0)) (bytes x.natAbs) (bytes y.natAbs) hx hy
  rw [nat_bytes, nat_bytes, sg_z, sg_z] at this
  exact this
theorem bne_true {x y : Bool} (h : x ≠ y) : (x != y) = true := by cases x <;> cases y <;> simp_all
theorem bne_false {x y : Bool} (h : x = y) : (x != y) = false := by subst h; cases x <;> rfl
theorem r_CompareZ (X Y : Int) : Fn PP f_narrowsref01_Compare [zV X, zV Y] (.int .i64 (cmpZ X Y)) := by
  refine Fn.of TBgood mixed h_narrowsref01_Compare rfl rfl (Nat.le_of_ble_eq_true rfl) ?_
  intro w
  have cX := r_Canonical (decide (X < 0)) (bytes X.natAbs)
  have cY := r_Canonical (decide (Y < 0)) (bytes Y.natAbs)
  rw [nat_bytes, sg_z] at cX cY
  conv => whnf
  refine DrawVC.quiet (by kernel_rfl) ?_
  conv => whnf
  refine CallVCd.fn cX rfl ?_
  conv => whnf
  refine CallVCd.fn cY rfl ?_
  conv => whnf
  by_cases hx : X < 0 <;> by_cases hy : Y < 0
  · refine br_false (bne_false (by rw [decide_eq_true hx, decide_eq_true hy])) ?_
    conv => whnf
    refine br_true (decide_eq_true hx) ?_
    conv => whnf
    refine CallVC.fn (r_compareMag Y.natAbs X.natAbs) rfl ?_
    conv => whnf
    refine postV_one ?_
    rw [← cmpZ_neg, show -((X.natAbs : Nat) : Int) = X by omega, show -((Y.natAbs : Nat) : Int) = Y by omega]
  · refine br_true (bne_true (by rw [decide_eq_true hx, decide_eq_false hy]; decide)) ?_
    conv => whnf
    refine br_true (decide_eq_true hx) ?_
    conv => whnf
    refine postV_one ?_
    rw [cmpZ_lt (by omega)]
  · refine br_true (bne_true (by rw [decide_eq_false hx, decide_eq_true hy]; decide)) ?_
    conv => whnf
    refine br_false (decide_eq_false hx) ?_
    conv => whnf
    refine postV_one ?_
    rw [cmpZ_gt (by omega)]
  · refine br_false (bne_false (by rw [decide_eq_false hx, decide_eq_false hy])) ?_
    conv => whnf
    refine br_false (decide_eq_false hx) ?_
    conv => whnf
    refine CallVC.fn (r_compareMag X.natAbs Y.natAbs) rfl ?_
    conv => whnf
    refine postV_one ?_
    rw [← cmpZ_nat, show ((X.natAbs : Nat) : Int) = X by omega, show ((Y.natAbs : Nat) : Int) = Y by omega]
end Go.Sx
end
section
set_option maxRecDepth 10000
set_option maxHeartbeats 2000000
set_option linter.unusedSimpArgs false
set_option linter.unusedVariables false
set_option pp.deepTerms false
set_option pp.deepTerms.threshold 6
namespace Go.Sx
open Go Go.Proofs
theorem zV_nat (n : Nat) : zV (n : Int) = intV false (bs (bytes n)) := by rw [zV, Int.natAbs_natCast, decide_eq_false (by omega)]
theorem bneT {x y : Bool} (h : (x != y) = true) : x ≠ y := by simpa using h
theorem bneF {x y : Bool} (h : (x != y) = false) : x = y := by simpa using h
theorem fdiv_sam {X Y : Int} (hY : Y ≠ 0) (h : decide (X < 0) = decide (Y < 0)) : X.fdiv Y = ((X.natAbs / Y.natAbs : Nat) : Int) ∧ X.fmod Y = if Y < 0 then -((X.natAbs % Y.natAbs : Nat) : Int) else ((X.natAbs % Y.natAbs : Nat) : Int) := by
  have h2 := fdiv_same (decide (X < 0)) (decide (Y < 0)) X.natAbs Y.natAbs (by omega) (.inl h)
  rw [sg_z, sg_z] at h2
  rw [h2.1, h2.2, bne_false h, h]
  refine ⟨rfl, ?_⟩
  by_cases hy : Y < 0
  · rw [if_pos hy, decide_eq_true hy]; rfl
  · rw [if_neg hy, decide_eq_false hy]; rfl
theorem fdiv_zero {X Y : Int} (hY : Y ≠ 0) (h : X.natAbs % Y.natAbs = 0) : X.fdiv Y = (if decide (X < 0) = decide (Y < 0) then ((X.natAbs / Y.natAbs : Nat) : Int) else -((X.natAbs / Y.natAbs : Nat) : Int)) ∧ X.fmod Y = 0 := by
  have h2 := fdiv_same (decide (X < 0)) (decide (Y < 0)) X.natAbs Y.natAbs (by omega) (.inr h)
  rw [sg_z, sg_z, h] at h2
  rw [h2.1, h2.2]
  refine ⟨?_, by unfold sg; split <;> rfl⟩
  by_cases hab : decide (X < 0) = decide (Y < 0)
  · rw [if_pos hab, bne_false hab]; rfl
  · rw [if_neg hab, bne_true hab]; rfl
theorem fdiv_oth {X Y : Int} (hY : Y ≠ 0) (h : decide (X < 0) ≠ decide (Y < 0)) (h0 : X.natAbs % Y.natAbs ≠ 0) : X.fdiv Y = -(sg false (X.natAbs / Y.natAbs)) - 1 ∧ X.fmod Y = if Y < 0 then -((Y.natAbs : Int) - ((X.natAbs % Y.natAbs : Nat) : Int)) else (Y.natAbs : Int) - ((X.natAbs % Y.natAbs : Nat) : Int) := by
  have h2 := fdiv_other (decide (X < 0)) (decide (Y < 0)) X.natAbs Y.natAbs (by omega) h h0
  rw [sg_z, sg_z] at h2
  rw [h2.1, h2.2, bne_true h]
  refine ⟨rfl, ?_⟩
  by_cases hy : Y < 0
  · have hx : ¬ X < 0 := fun hx => h (by rw [decide_eq_true hx, decide_eq_true hy])
    rw [if_pos hy, decide_eq_false hx]
    show ((X.natAbs % Y.natAbs : Nat) : Int) + Y = _
    omega
  · have hx : X < 0 := by
      by_cases hx : X < 0
      · exact hx
      · exact absurd (by rw [decide_eq_false hx, decide_eq_false hy]) h
    rw [if_neg hy, decide_eq_true hx]
    show -((X.natAbs % Y.natAbs : Nat) : Int) + Y = _
    omega
theorem r_SubR (x y : Nat) (hx : (bytes x).length ≤ 500000000) (hy : (bytes y).length ≤ 500000000) : Fn PP f_narrowsref01_Sub [intV false (bs (bytes x)), intV false (bs (bytes y))] (zV ((x : Int) - (y : Int))) := by
  have := r_SubZ (x : Int) (y : Int) (by rw [Int.natAbs_natCast]; exact hx) (by rw [Int.natAbs_natCast]; exact hy)
  rw [zV_nat, zV_nat] at this
  exact this
theorem r_OfN (n : Nat) (h : n < 9223372036854775808) : Fn PP f_narrowsref01_Of [.int .i64 (n : Int)] (intV false (bs (bytes n))) := by
  have := r_Of (n : Int) (by omega) (by omega)
  rw [zV_nat] at this
  exact this
theorem wrapN {n : Nat} (h : n < 9223372036854775808) : IntKind.i64.wrap (n : Int) = (n : Int) := wrap_i64 (by omega) (by omega)
theorem r_DivZ (X Y : Int) (hX : (bytes X.natAbs).length ≤ 300000000) (hYl : (bytes Y.natAbs).length ≤ 300000000) :
    Fn PP f_narrowsref01_Div [zV X, zV Y] (if Y = 0 then divV 0 0 10 else divV (X.fdiv Y) (X.fmod Y) 0) := by
  refine Fn.of TBgood mixed h_narrowsref01_Div rfl rfl (Nat.le_of_ble_eq_true rfl) ?_
  intro w
  have cX := r_Canonical (decide (X < 0)) (bytes X.natAbs)
  have cY := r_Canonical (decide (Y < 0)) (bytes Y.natAbs)
  rw [nat_bytes, sg_z] at cX cY
  have hq1 := bytes_mono (Nat.div_le_self X.natAbs Y.natAbs)
  have hr1 := bytes_mono (Nat.mod_le X.natAbs Y.natAbs)
  conv => whnf
  refine DrawVC.quiet (by kernel_rfl) ?_
  conv => whnf
  refine CallVCd.fn cX rfl ?_
  conv => whnf
  refine CallVCd.fn cY rfl ?_
  conv => whnf
  by_cases hY : Y = 0
  · refine br_true ((emptyZ Y).trans (decide_eq_true hY)) ?_
    rw [if_pos hY]
    conv => whnf
    refine postV_three ?_
    simp only [divV, zV, bytes_zero, Int.natAbs_zero]
    rfl
  refine br_false ((emptyZ Y).trans (decide_eq_false hY)) ?_
  rw [if_neg hY]
  conv => whnf
  have hc : (bytes X.natAbs).length ≤ 7 ∧ (bytes Y.natAbs).length ≤ 7 ∨ ¬ (bytes X.natAbs).length ≤ 7 ∨ ((bytes X.natAbs).length ≤ 7 ∧ ¬ (bytes Y.natAbs).length ≤ 7) := by omega
  rcases hc with hs | h1 | ⟨h1, h2⟩
  · refine br_true (decide_eq_true (show ((bytes X.natAbs).length : Int) < 8 by omega)) ?_
    conv => whnf
    refine br_true (decide_eq_true (show ((bytes Y.natAbs).length : Int) < 8 by omega)) ?_
    have h1 := lt8 hs.1
    have h2 := lt8 hs.2
    have hq2 := Nat.div_le_self X.natAbs Y.natAbs
    have hr2 := Nat.mod_le X.natAbs Y.natAbs
    conv => whnf
    refine DrawVC.quiet (by kernel_rfl) ?_
    conv => whnf
    refine CallVCd.fn (r_small (bytes X.natAbs) hs.1) rfl ?_
    rw [nat_bytes]
    conv => whnf
    refine CallVCd.fn (r_small (bytes Y.natAbs) hs.2) rfl ?_
    rw [nat_bytes]
    conv => whnf
    refine DrawVC.quiet (by kernel_rfl) ?_
    conv => whnf
    refine ⟨by omega, ?_⟩
    conv => whnf
    refine CallVCd.fn (r_OfN (X.natAbs / Y.natAbs) (by omega)) (congrArg (fun z => [SV.o (.v (.int .i64 z))]) (show IntKind.i64.wrap (Int.tdiv (X.natAbs : Int) (Y.natAbs : Int)) = _ by exact wrapN (show X.natAbs / Y.natAbs < 9223372036854775808 by omega))) ?_
    conv => whnf
    refine ⟨by omega, ?_⟩
    conv => whnf
    refine CallVCd.fn (r_OfN (X.natAbs % Y.natAbs) (by omega)) rfl ?_
    conv => whnf
    refine br_split ?_ ?_
    · intro h
      have hab : decide (X < 0) ≠ decide (Y < 0) := bneT h
      conv => whnf
      refine CallVC.fn (r_Neg false (bytes (X.natAbs / Y.natAbs))) rfl ?_
      rw [nat_bytes]
      conv => whnf
      by_cases hr0 : X.natAbs % Y.natAbs = 0
      · refine br_false (by rw [emptyN, decide_eq_true hr0]; rfl) ?_
        conv => whnf
        obtain ⟨e1, e2⟩ := fdiv_zero hY hr0
        by_cases hyn : Y < 0
        · refine br_true (decide_eq_true hyn) ?_
          conv => whnf
          refine CallVC.fn (r_Neg false (bytes (X.natAbs % Y.natAbs))) rfl ?_
          rw [nat_bytes]
          conv => whnf
          refine DrawVC.late [(2, 4, [1])] (by kernel_rfl) ?_
          conv => whnf
          refine postV_three ?_
          rw [e1, e2, if_neg hab, hr0]; rfl
        · refine br_false (decide_eq_false hyn) ?_
          conv => whnf
          refine DrawVC.late [(2, 4, [1])] (by kernel_rfl) ?_
          conv => whnf
          refine postV_three ?_
          rw [e1, e2, if_neg hab, hr0]
          simp only [divV, zV, bytes_zero, Int.natAbs_zero]; rfl
      · refine br_true (by rw [emptyN, decide_eq_false hr0]; rfl) ?_
        conv => whnf
        refine DrawVC.quiet (by kernel_rfl) ?_
        conv => whnf
        refine CallVCd.fn (r_Of 1 (by decide) (by decide)) rfl ?_
        conv => whnf
        refine CallVCd.fn (r_SubZ (-(sg false (X.natAbs / Y.natAbs))) 1 (by rw [Int.natAbs_neg, sg_natAbs]; omega) (by decide +kernel)) rfl ?_
        conv => whnf
        refine CallVC.fn (r_SubR Y.natAbs (X.natAbs % Y.natAbs) (by omega) (by omega)) rfl ?_
        conv => whnf
        obtain ⟨e1, e2⟩ := fdiv_oth hY hab hr0
        by_cases hyn : Y < 0
        · refine br_true (decide_eq_true hyn) ?_
          conv => whnf
          refine CallVC.fn (r_NegZ ((Y.natAbs : Int) - ((X.natAbs % Y.natAbs : Nat) : Int))) rfl ?_
          conv => whnf
          refine DrawVC.late [(2, 4, [1])] (by kernel_rfl) ?_
          conv => whnf
          refine postV_three ?_
          rw [e1, e2, if_pos hyn]; rfl
        · refine br_false (decide_eq_false hyn) ?_
          conv => whnf
          refine DrawVC.late [(2, 4, [1])] (by kernel_rfl) ?_
          conv => whnf
          refine postV_three ?_
          rw [e1, e2, if_neg hyn]; rfl
    · intro h
      have hab : decide (X < 0) = decide (Y < 0) := bneF h
      obtain ⟨e1, e2⟩ := fdiv_sam hY hab
      conv => whnf
      by_cases hyn : Y < 0
      · refine br_true (decide_eq_true hyn) ?_
        conv => whnf
        refine CallVC.fn (r_Neg false (bytes (X.natAbs % Y.natAbs))) rfl ?_
        rw [nat_bytes]
        conv => whnf
        refine DrawVC.late [(2, 4, [1])] (by kernel_rfl) ?_
        conv => whnf
        refine postV_three ?_
        rw [e1, e2, if_pos hyn, divV, zV_nat]; rfl
      · refine br_false (decide_eq_false hyn) ?_
        conv => whnf
        refine DrawVC.late [(2, 4, [1])] (by kernel_rfl) ?_
        conv => whnf
        refine postV_three ?_
        rw [e1, e2, if_neg hyn, divV, zV_nat, zV_nat]
  · refine br_false (decide_eq_false (show ¬ ((bytes X.natAbs).length : Int) < 8 by omega)) ?_
    conv => whnf
    refine CallVC.fn (r_divMag X.natAbs Y.natAbs hX hYl (by omega)) rfl ?_
    conv => whnf
    refine br_split ?_ ?_
    · intro h
      have hab : decide (X < 0) ≠ decide (Y < 0) := bneT h
      conv => whnf
      refine CallVC.fn (r_Neg false (bytes (X.natAbs / Y.natAbs))) rfl ?_
      rw [nat_bytes]
      conv => whnf
      by_cases hr0 : X.natAbs % Y.natAbs = 0
      · refine br_false (by rw [emptyN, decide_eq_true hr0]; rfl) ?_
        conv => whnf
        obtain ⟨e1, e2⟩ := fdiv_zero hY hr0
        by_cases hyn : Y < 0
        · refine br_true (decide_eq_true hyn) ?_
          conv => whnf
          refine CallVC.fn (r_Neg false (bytes (X.natAbs % Y.natAbs))) rfl ?_
          rw [nat_bytes]
          conv => whnf
          refine DrawVC.late [(2, 4, [1])] (by kernel_rfl) ?_
          conv => whnf
          refine postV_three ?_
          rw [e1, e2, if_neg hab, hr0]; rfl
        · refine br_false (decide_eq_false hyn) ?_
          conv => whnf
          refine DrawVC.late [(2, 4, [1])] (by kernel_rfl) ?_
          conv => whnf
          refine postV_three ?_
          rw [e1, e2, if_neg hab, hr0]
          simp only [divV, zV, bytes_zero, Int.natAbs_zero]; rfl
      · refine br_true (by rw [emptyN, decide_eq_false hr0]; rfl) ?_
        conv => whnf
        refine DrawVC.quiet (by kernel_rfl) ?_
        conv => whnf
        refine CallVCd.fn (r_Of 1 (by decide) (by decide)) rfl ?_
        conv => whnf
        refine CallVCd.fn (r_SubZ (-(sg false (X.natAbs / Y.natAbs))) 1 (by rw [Int.natAbs_neg, sg_natAbs]; omega) (by decide +kernel)) rfl ?_
        conv => whnf
        refine CallVC.fn (r_SubR Y.natAbs (X.natAbs % Y.natAbs) (by omega) (by omega)) rfl ?_
        conv => whnf
        obtain ⟨e1, e2⟩ := fdiv_oth hY hab hr0
        by_cases hyn : Y < 0
        · refine br_true (decide_eq_true hyn) ?_
          conv => whnf
          refine CallVC.fn (r_NegZ ((Y.natAbs : Int) - ((X.natAbs % Y.natAbs : Nat) : Int))) rfl ?_
          conv => whnf
          refine DrawVC.late [(2, 4, [1])] (by kernel_rfl) ?_
          conv => whnf
          refine postV_three ?_
          rw [e1, e2, if_pos hyn]; rfl
        · refine br_false (decide_eq_false hyn) ?_
          conv => whnf
          refine DrawVC.late [(2, 4, [1])] (by kernel_rfl) ?_
          conv => whnf
          refine postV_three ?_
          rw [e1, e2, if_neg hyn]; rfl
    · intro h
      have hab : decide (X < 0) = decide (Y < 0) := bneF h
      obtain ⟨e1, e2⟩ := fdiv_sam hY hab
      conv => whnf
      by_cases hyn : Y < 0
      · refine br_true (decide_eq_true hyn) ?_
        conv => whnf
        refine CallVC.fn (r_Neg false (bytes (X.natAbs % Y.natAbs))) rfl ?_
        rw [nat_bytes]
        conv => whnf
        refine DrawVC.late [(2, 4, [1])] (by kernel_rfl) ?_
        conv => whnf
        refine postV_three ?_
        rw [e1, e2, if_pos hyn, divV, zV_nat]; rfl
      · refine br_false (decide_eq_false hyn) ?_
        conv => whnf
        refine DrawVC.late [(2, 4, [1])] (by kernel_rfl) ?_
        conv => whnf
        refine postV_three ?_
        rw [e1, e2, if_neg hyn, divV, zV_nat, zV_nat]
  · refine br_true (decide_eq_true (show ((bytes X.natAbs).length : Int) < 8 by omega)) ?_
    conv => whnf
    refine br_false (decide_eq_false (show ¬ ((bytes Y.natAbs).length : Int) < 8 by omega)) ?_
    conv => whnf
    refine CallVC.fn (r_divMag X.natAbs Y.natAbs hX hYl (by omega)) rfl ?_
    conv => whnf
    refine br_split ?_ ?_
    · intro h
      have hab : decide (X < 0) ≠ decide (Y < 0) := bneT h
      conv => whnf
      refine CallVC.fn (r_Neg false (bytes (X.natAbs / Y.natAbs))) rfl ?_
      rw [nat_bytes]
      conv => whnf
      by_cases hr0 : X.natAbs % Y.natAbs = 0
      · refine br_false (by rw [emptyN, decide_eq_true hr0]; rfl) ?_
        conv => whnf
        obtain ⟨e1, e2⟩ := fdiv_zero hY hr0
        by_cases hyn : Y < 0
        · refine br_true (decide_eq_true hyn) ?_
          conv => whnf
          refine CallVC.fn (r_Neg false (bytes (X.natAbs % Y.natAbs))) rfl ?_
          rw [nat_bytes]
          conv => whnf
          refine DrawVC.late [(2, 4, [1])] (by kernel_rfl) ?_
          conv => whnf
          refine postV_three ?_
          rw [e1, e2, if_neg hab, hr0]; rfl
        · refine br_false (decide_eq_false hyn) ?_
          conv => whnf
          refine DrawVC.late [(2, 4, [1])] (by kernel_rfl) ?_
          conv => whnf
          refine postV_three ?_
          rw [e1, e2, if_neg hab, hr0]
          simp only [divV, zV, bytes_zero, Int.natAbs_zero]; rfl
      · refine br_true (by rw [emptyN, decide_eq_false hr0]; rfl) ?_
        conv => whnf
        refine DrawVC.quiet (by kernel_rfl) ?_
        conv => whnf
        refine CallVCd.fn (r_Of 1 (by decide) (by decide)) rfl ?_
        conv => whnf
        refine CallVCd.fn (r_SubZ (-(sg false (X.natAbs / Y.natAbs))) 1 (by rw [Int.natAbs_neg, sg_natAbs]; omega) (by decide +kernel)) rfl ?_
        conv => whnf
        refine CallVC.fn (r_SubR Y.natAbs (X.natAbs % Y.natAbs) (by omega) (by omega)) rfl ?_
        conv => whnf
        obtain ⟨e1, e2⟩ := fdiv_oth hY hab hr0
        by_cases hyn : Y < 0
        · refine br_true (decide_eq_true hyn) ?_
          conv => whnf
          refine CallVC.fn (r_NegZ ((Y.natAbs : Int) - ((X.natAbs % Y.natAbs : Nat) : Int))) rfl ?_
          conv => whnf
          refine DrawVC.late [(2, 4, [1])] (by kernel_rfl) ?_
          conv => whnf
          refine postV_three ?_
          rw [e1, e2, if_pos hyn]; rfl
        · refine br_false (decide_eq_false hyn) ?_
          conv => whnf
          refine DrawVC.late [(2, 4, [1])] (by kernel_rfl) ?_
          conv => whnf
          refine postV_three ?_
          rw [e1, e2, if_neg hyn]; rfl
    · intro h
      have hab : decide (X < 0) = decide (Y < 0) := bneF h
      obtain ⟨e1, e2⟩ := fdiv_sam hY hab
      conv => whnf
      by_cases hyn : Y < 0
      · refine br_true (decide_eq_true hyn) ?_
        conv => whnf
        refine CallVC.fn (r_Neg false (bytes (X.natAbs % Y.natAbs))) rfl ?_
        rw [nat_bytes]
        conv => whnf
        refine DrawVC.late [(2, 4, [1])] (by kernel_rfl) ?_
        conv => whnf
        refine postV_three ?_
        rw [e1, e2, if_pos hyn, divV, zV_nat]; rfl
      · refine br_false (decide_eq_false hyn) ?_
        conv => whnf
        refine DrawVC.late [(2, 4, [1])] (by kernel_rfl) ?_
        conv => whnf
        refine postV_three ?_
        rw [e1, e2, if_neg hyn, divV, zV_nat, zV_nat]
end Go.Sx
end
section
set_option maxRecDepth 10000
set_option maxHeartbeats 2000000
set_option linter.unusedSimpArgs false
set_option linter.unusedVariables false
set_option pp.deepTerms false
set_option pp.deepTerms.threshold 6
namespace Go.Sx
open Go Go.Proofs
theorem nemptyN (n : Nat) : (!((bs (bytes n)).toList == ByteArray.toList ⟨#[]⟩)) = decide (n ≠ 0) := by rw [emptyN]; by_cases h : n = 0 <;> simp [h]
theorem r_GcdZ (X Y : Int) (hX : (bytes X.natAbs).length ≤ 300000000) (hYl : (bytes Y.natAbs).length ≤ 300000000) :
    Fn PP f_narrowsref01_Gcd [zV X, zV Y] (zV ((Nat.gcd X.natAbs Y.natAbs : Nat) : Int)) := by
  refine Fn.of TBgood mixed h_narrowsref01_Gcd rfl rfl (Nat.le_of_ble_eq_true rfl) ?_
  intro w
  have tX := r_trim (bytes X.natAbs)
  have tY := r_trim (bytes Y.natAbs)
  rw [stripL_eq, nat_bytes] at tX tY
  conv => whnf
  refine DrawVC.quiet (by kernel_rfl) ?_
  conv => whnf
  refine CallVCd.fn tX rfl ?_
  conv => whnf
  refine CallVCd.fn tY rfl ?_
  conv => whnf
  refine sexec_loop (ι := Nat × Nat) (fun ⟨a, b⟩ => ⟨[(4, .o (.p 4 0)), (5, .o (.v (.string (bs (bytes a))))), (6, .o (.v (.string (bs (bytes b)))))], [(4, .box [.v (.bool false), .v (.string ⟨#[]⟩)] t_api_Int)], []⟩)
    (fun ⟨a, b⟩ => Nat.gcd a b = Nat.gcd X.natAbs Y.natAbs ∧ (bytes a).length ≤ 300000000 ∧ (bytes b).length ≤ 300000000) (fun ⟨a, b⟩ => b) (X.natAbs, Y.natAbs) ⟨rfl, hX, hYl⟩ (SLe.id ⟨rfl, rfl, rfl, trivial⟩ ⟨⟨_, rfl, .refl _⟩, trivial⟩ (fun R hR => hR)) ?_
  rintro ⟨a, b⟩ ⟨hg, ha, hb⟩
  conv => whnf
  by_cases hb0 : b = 0
  · refine br_false ((nemptyN b).trans (decide_eq_false (by omega))) ?_
    conv => whnf
    refine br_true ((emptyN b).trans (decide_eq_true hb0)) ?_
    conv => whnf
    refine postV_one ?_
    rw [zV_nat, ← hg, hb0, Nat.gcd_zero_right]
  refine br_true ((nemptyN b).trans (decide_eq_true hb0)) ?_
  conv => whnf
  have hstep : Nat.gcd b (a % b) = Nat.gcd X.natAbs Y.natAbs := by rw [← hg, Nat.gcd_comm a b, Nat.gcd_rec b a, Nat.gcd_comm]
  have hlt : a % b < b := Nat.mod_lt _ (by omega)
  have hlr := bytes_mono (Nat.le_of_lt hlt)
  refine br_split ?_ ?_
  · intro h
    conv => whnf
    refine CallVC.fn (r_divMag a b ha hb (by omega)) rfl ?_
    conv => whnf
    exact ⟨(b, a % b), ⟨hstep, hb, by omega⟩, hlt, SLe.id ⟨rfl, rfl, rfl, trivial⟩ ⟨⟨_, rfl, .refl _⟩, trivial⟩ (fun R hR => hR)⟩
  intro h
  have ha7 : (bytes a).length ≤ 7 := by
    have : ¬ ((bytes a).length : Int) > 7 := of_decide_eq_false h
    omega
  conv => whnf
  refine br_split ?_ ?_
  · intro h
    conv => whnf
    refine CallVC.fn (r_divMag a b ha hb (by omega)) rfl ?_
    conv => whnf
    exact ⟨(b, a % b), ⟨hstep, hb, by omega⟩, hlt, SLe.id ⟨rfl, rfl, rfl, trivial⟩ ⟨⟨_, rfl, .refl _⟩, trivial⟩ (fun R hR => hR)⟩
  intro h
  have hb7 : (bytes b).length ≤ 7 := by
    have : ¬ ((bytes b).length : Int) > 7 := of_decide_eq_false h
    omega
  conv => whnf
  refine br_false ((emptyN b).trans (decide_eq_false hb0)) ?_
  conv => whnf
  refine CallVC.fn (r_small (bytes a) ha7) rfl ?_
  rw [nat_bytes]
  conv => whnf
  refine CallVC.fn (r_small (bytes b) hb7) rfl ?_
  rw [nat_bytes]
  have a56 := nat7 ha7
  have b56 := nat7 hb7
  rw [nat_bytes] at a56 b56
  conv => whnf
  refine sexec_loop (ι := Nat × Nat) (fun ⟨c, d⟩ => ⟨[(4, .o (.p 4 0)), (9, .o (.v (.int .i64 c))), (10, .o (.v (.int .i64 d)))], [(4, .box [.v (.bool false), .v (.string ⟨#[]⟩)] t_api_Int)], []⟩)
    (fun ⟨c, d⟩ => Nat.gcd c d = Nat.gcd X.natAbs Y.natAbs ∧ c < 9223372036854775808 ∧ d < 9223372036854775808) (fun ⟨c, d⟩ => d) (a, b) ⟨hg, by omega, by omega⟩ (SLe.id ⟨rfl, rfl, rfl, trivial⟩ ⟨⟨_, rfl, .refl _⟩, trivial⟩ (fun R hR => hR)) ?_
  rintro ⟨c, d⟩ ⟨hg2, hc, hd⟩
  conv => whnf
  refine br_split ?_ ?_
  · intro h
    have hd0 : 0 < d := by
      have : (d : Int) > 0 := of_decide_eq_true h
      omega
    have hlt2 : c % d < d := Nat.mod_lt _ hd0
    conv => whnf
    refine DrawVC.quiet (by kernel_rfl) ?_
    conv => whnf
    refine ⟨by omega, ?_⟩
    conv => whnf
    refine ⟨(d, c % d), ⟨by rw [← hg2, Nat.gcd_comm c d, Nat.gcd_rec d c, Nat.gcd_comm], hd, by omega⟩, hlt2, SLe.id ⟨rfl, rfl, rfl, trivial⟩ ⟨⟨_, rfl, .refl _⟩, trivial⟩ (fun R hR => hR)⟩
  · intro h
    have hd0 : d = 0 := by
      have : ¬ (d : Int) > 0 := of_decide_eq_false h
      omega
    subst hd0
    rw [Nat.gcd_zero_right] at hg2
    conv => whnf
    refine CallVC.fn (r_OfN c hc) rfl ?_
    conv => whnf
    refine postV_one ?_
    rw [zV_nat, ← hg2]
end Go.Sx
end
section
set_option maxRecDepth 10000
set_option maxHeartbeats 2000000
set_option linter.unusedSimpArgs false
set_option linter.unusedVariables false
set_option pp.deepTerms false
set_option pp.deepTerms.threshold 6
namespace Go.Sx
open Go Go.Proofs
theorem r_number (l : List UInt8) (h1 : l.length ≤ 7) : Fn PP f_narrowsref02_number [.string (bs l)] (.int .i64 (nat l)) := by
  refine Fn.of TBgood mixed h_narrowsref02_number rfl rfl (Nat.le_of_ble_eq_true rfl) ?_
  intro w
  conv => whnf
  refine sexec_loop (ι := Nat × Nat) (fun ⟨i, v⟩ => ⟨[(0, .o (.v (.string (bs l)))), (3, .o (.v (.int .i64 v))), (4, .o (.v (.int .i64 i)))], [], []⟩)
    (fun ⟨i, v⟩ => i ≤ l.length ∧ v = nat (l.take i)) (fun ⟨i, v⟩ => l.length - i) (0, 0) ⟨Nat.zero_le _, rfl⟩ (SLe.id ⟨rfl, rfl, rfl, trivial⟩ trivial (fun R hR => hR)) ?_
  rintro ⟨i, v⟩ ⟨hi, hv⟩
  conv => whnf
  refine br_split ?_ ?_
  · intro h2
    have hi2 : i < l.length := by
      have : (i : Int) < (l.length : Int) := of_decide_eq_true h2
      omega
    conv => whnf
    refine ⟨⟨by omega, by show (i : Int) < (l.length : Int); omega⟩, ?_⟩
    conv => whnf
    obtain ⟨x, hx⟩ : ∃ x, x = l[i] := ⟨_, rfl⟩
    have hg : l.getD i 0 = x := by rw [hx, List.getD_eq_getElem?_getD, List.getElem?_eq_getElem hi2]; rfl
    have htk : l.take (i + 1) = l.take i ++ [x] := by rw [List.take_succ_eq_append_getElem hi2, hx]
    have hnat : nat (l.take (i + 1)) = x.toNat + 256 * nat (l.take i) := by rw [htk, nat_snoc]
    have hnb : nat (l.take i) < 256 ^ 6 := nat_bound (by rw [List.length_take]; omega)
    have hxb : x.toNat < 256 := x.toBitVec.isLt
    refine ⟨(i + 1, nat (l.take (i + 1))), ⟨by omega, rfl⟩, by show l.length - (i + 1) < l.length - i; omega, SLe.id ⟨rfl, ?_, some_wrap hi2 (by omega), trivial⟩ trivial (fun R hR => hR)⟩
    show some (SV.o (.v (.int .i64 (IntKind.i64.wrap (IntKind.i64.wrap (256 * (v : Int)) + IntKind.i64.wrap (sb (bs l) (i : Int))))))) = _
    rw [sb_bs, Int.toNat_natCast, hg, wrap_i64 (n := (x.toNat : Int)) (by omega) (by omega), wrap_i64 (n := 256 * (v : Int)) (by omega) (by omega), wrap_i64 (by omega) (by omega), hnat, hv, Int.natCast_add, Int.natCast_mul, Int.add_comm]; rfl
  · intro h2
    have hi2 : i = l.length := by
      have : ¬ (i : Int) < (l.length : Int) := of_decide_eq_false h2
      omega
    subst hi2
    rw [List.take_length] at hv
    subst hv
    conv => whnf
    exact postV_one rfl
theorem pow_256 (j : Nat) : (2 : Nat) ^ (8 * j) = 256 ^ j := by rw [Nat.pow_mul]
theorem fdiv_pow8 (n j : Nat) (hj : j ≤ 7) : Int.fdiv (n : Int) (2 ^ min (8 * (j : Int)).toNat IntKind.i64.bits) = ((n / 256 ^ j : Nat) : Int) := by
  rw [show (8 * (j : Int)).toNat = 8 * j by omega, Nat.min_eq_left (show 8 * j ≤ IntKind.i64.bits by show 8 * j ≤ 64; omega), Int.fdiv_eq_ediv_of_nonneg _ (by exact Int.pow_nonneg (by decide)), show ((2 : Int) ^ (8 * j)) = ((256 ^ j : Nat) : Int) by rw [← pow_256]; exact (Int.natCast_pow 2 (8 * j)).symm]
  rfl
theorem bytes_next (n j : Nat) (h : 0 < n / 256 ^ j) : bytes (n / 256 ^ j) = bytes (n / 256 ^ (j + 1)) ++ [UInt8.ofNat (n / 256 ^ j % 256)] := by
  rw [bytes_step h, Nat.pow_succ, Nat.div_div_eq_div_mul]
theorem u8_low8 {x : Nat} : Value.int .u8 (IntKind.u8.wrap (x : Int)) = .int .u8 ((UInt8.ofNat (x % 256)).toNat : Int) := by rw [u8_mod]
theorem r_digits (n : Nat) (h0 : 0 < n) (hn : n < 72057594037927936) : Fn PP f_narrowsref02_digits [.int .i64 n] (.string (bs (bytes n))) := by
  refine Fn.of TBgood mixed h_narrowsref02_digits rfl rfl (Nat.le_of_ble_eq_true rfl) ?_
  intro w
  conv => whnf
  refine sexec_loop (ι := Nat × Int × List UInt8) (fun ⟨j, z, L⟩ => match L with
      | [] => ⟨[(0, .o (.v (.int .i64 n))), (3, .o (.v (.slice none 0 0))), (4, .o (.v (.int .i64 z)))], [], []⟩
      | x :: l => ⟨[(0, .o (.v (.int .i64 n))), (3, .o (.w 1)), (4, .o (.v (.int .i64 z)))], [(1, .own t_uint8 1 (l.length + 1) (rowV u8c (x :: l)))], []⟩)
    (fun ⟨j, z, L⟩ => j ≤ 7 ∧ z = 8 * (j : Int) - 8 ∧ L = bytes (n / 256 ^ j)) (fun ⟨j, z, L⟩ => j) (7, 48, []) ⟨by decide, by decide, by rw [Nat.div_eq_of_lt (by omega), bytes_zero]⟩ (SLe.id ⟨rfl, rfl, rfl, trivial⟩ trivial (fun R hR => hR)) ?_
  rintro ⟨j1, z, L⟩ ⟨hj, hz, hL⟩
  by_cases hz0 : 0 ≤ z
  · obtain ⟨j, rfl⟩ : ∃ j, j1 = j + 1 := ⟨j1 - 1, by omega⟩
    obtain rfl : z = 8 * (j : Int) := by omega
    have hf := fdiv_pow8 n j (by omega)
    have hw8 : IntKind.i64.wrap (8 * (j : Int) - 8) = 8 * (j : Int) - 8 := wrap_i64 (by omega) (by omega)
    obtain ⟨N, hN⟩ : ∃ N, N = n / 256 ^ j := ⟨_, rfl⟩
    have hlow : n / 256 ^ (j + 1) = N / 256 := by rw [hN, Nat.pow_succ, Nat.div_div_eq_div_mul]
    have hnx := bytes_next n j
    rw [← hN] at hf hnx
    rw [← hL] at hnx
    have hrem : Int.tmod (Int.fdiv (n : Int) (2 ^ min (8 * (j : Int)).toNat IntKind.i64.bits)) 256 = ((N % 256 : Nat) : Int) := by rw [hf]; rfl
    rcases L with _ | ⟨x, L⟩
    · have hN256 : N / 256 = 0 := by rw [← hlow]; exact bytes_nil.1 hL.symm
      conv => whnf
      refine ⟨hz0, ?_⟩
      conv => whnf
      refine ⟨by decide, ?_⟩
      conv => whnf
      by_cases hd : N = 0
      · refine br_false (decide_eq_false (by rw [hrem, hd]; decide)) ?_
        conv => whnf
        refine ⟨(j, 8 * (j : Int) - 8, []), ⟨by omega, rfl, by rw [← hN, hd, bytes_zero]⟩, Nat.lt_succ_self j, SLe.id ⟨rfl, rfl, ?_, trivial⟩ trivial (fun R hR => hR)⟩
        show some (SV.o (.v (.int .i64 (IntKind.i64.wrap (8 * (j : Int) - 8))))) = _
        rw [hw8]; rfl
      · refine br_true (decide_eq_true (by rw [hrem, Nat.mod_eq_of_lt (by omega)]; omega)) ?_
        conv => whnf
        refine ⟨hz0, ?_⟩
        conv => whnf
        refine ⟨by decide, ?_⟩
        conv => whnf
        refine ⟨(j, 8 * (j : Int) - 8, [UInt8.ofNat (N % 256)]), ⟨by omega, rfl, by rw [← hN, hnx (by omega)]; rfl⟩, Nat.lt_succ_self j, SLe.mk (fun _ => 27) ⟨rfl, rfl, ?_, trivial⟩ ⟨⟨_, rfl, ?_⟩, trivial⟩ rfl (fun R hR => hR)⟩
        · show some (SV.o (.v (.int .i64 (IntKind.i64.wrap (8 * (j : Int) - 8))))) = _
          rw [hw8]; rfl
        · show MEle (ME.own t_uint8 1 1 [Value.int .u8 (IntKind.u8.wrap (Int.fdiv (n : Int) (2 ^ min (8 * (j : Int)).toNat IntKind.i64.bits)))]) _
          rw [hf, u8_low8]; exact .refl _
    · have hNp : N ≠ 0 := by
        intro h
        rw [hlow, h, Nat.zero_div, bytes_zero] at hL
        cases hL
      have hlen : L.length + 1 ≤ 8 := by
        have h1 := congrArg List.length hL
        have h2 := bytes_mono (Nat.div_le_self n (256 ^ (j + 1)))
        have h3 : (bytes n).length ≤ 7 := bytes_len (k := 7) (by simpa using hn)
        simp only [List.length_cons] at h1
        omega
      conv => whnf
      refine ⟨hz0, ?_⟩
      conv => whnf
      refine ⟨by decide, ?_⟩
      conv => whnf
      refine br_split ?_ ?_
      · intro _
        conv => whnf
        refine ⟨hz0, ?_⟩
        conv => whnf
        refine ⟨by show L.length + 1 + 1 ≤ 9223372036854775807 ∧ (L.length + 1 + 1) * 1 ≤ 140737488355328; omega, ?_⟩
        conv => whnf
        refine ⟨(j, 8 * (j : Int) - 8, x :: (L ++ [UInt8.ofNat (N % 256)])), ⟨by omega, rfl, by rw [← hN, hnx (by omega)]; rfl⟩, Nat.lt_succ_self j, SLe.mk (fun _ => 27) ⟨rfl, rfl, ?_, trivial⟩ ⟨⟨_, rfl, ?_⟩, trivial⟩ rfl (fun R hR => hR)⟩
        · show some (SV.o (.v (.int .i64 (IntKind.i64.wrap (8 * (j : Int) - 8))))) = _
          rw [hw8]; rfl
        · show MEle (ME.own t_uint8 1 (L.length + 1 + 1) (app (rowV u8c (x :: L)) [Value.int .u8 (IntKind.u8.wrap (Int.fdiv (n : Int) (2 ^ min (8 * (j : Int)).toNat IntKind.i64.bits)))])) (ME.own t_uint8 1 ((L ++ [UInt8.ofNat (N % 256)]).length + 1) (rowV u8c (x :: (L ++ [UInt8.ofNat (N % 256)]))))
          rw [hf, u8_low8, app_eq, List.length_append, show x :: (L ++ [UInt8.ofNat (N % 256)]) = (x :: L) ++ [UInt8.ofNat (N % 256)] from rfl, rowV_append]
          exact .refl _
      · intro _
        conv => whnf
        refine br_true (decide_eq_true (show ((L.length + 1 : Nat) : Int) > 0 by omega)) ?_
        conv => whnf
        refine ⟨hz0, ?_⟩
        conv => whnf
        refine ⟨by show L.length + 1 + 1 ≤ 9223372036854775807 ∧ (L.length + 1 + 1) * 1 ≤ 140737488355328; omega, ?_⟩
        conv => whnf
        refine ⟨(j, 8 * (j : Int) - 8, x :: (L ++ [UInt8.ofNat (N % 256)])), ⟨by omega, rfl, by rw [← hN, hnx (by omega)]; rfl⟩, Nat.lt_succ_self j, SLe.mk (fun _ => 27) ⟨rfl, rfl, ?_, trivial⟩ ⟨⟨_, rfl, ?_⟩, trivial⟩ rfl (fun R hR => hR)⟩
        · show some (SV.o (.v (.int .i64 (IntKind.i64.wrap (8 * (j : Int) - 8))))) = _
          rw [hw8]; rfl
        · show MEle (ME.own t_uint8 1 (L.length + 1 + 1) (app (rowV u8c (x :: L)) [Value.int .u8 (IntKind.u8.wrap (Int.fdiv (n : Int) (2 ^ min (8 * (j : Int)).toNat IntKind.i64.bits)))])) (ME.own t_uint8 1 ((L ++ [UInt8.ofNat (N % 256)]).length + 1) (rowV u8c (x :: (L ++ [UInt8.ofNat (N % 256)]))))
          rw [hf, u8_low8, app_eq, List.length_append, show x :: (L ++ [UInt8.ofNat (N % 256)]) = (x :: L) ++ [UInt8.ofNat (N % 256)] from rfl, rowV_append]
          exact .refl _
  · obtain rfl : j1 = 0 := by omega
    rw [Nat.pow_zero, Nat.div_one] at hL
    rcases L with _ | ⟨x, L⟩
    · have := bytes_nil.1 hL.symm; omega
    · conv => whnf
      refine br_false (decide_eq_false (by omega)) ?_
      conv => whnf
      refine ⟨x :: L, rfl, ?_, ?_⟩
      · rw [rowV_u8]; exact List.take_of_length_le (by simp [bytV])
      conv => whnf
      rw [hL]
      exact postV_one rfl
end Go.Sx
end
section
set_option maxRecDepth 10000
set_option maxHeartbeats 2000000
set_option linter.unusedSimpArgs false
set_option linter.unusedVariables false
set_option pp.deepTerms false
set_option pp.deepTerms.threshold 6
namespace Go.Sx
open Go Go.Proofs
theorem r_rsmall (r : Raw) : Fn PP f_narrowsref02_small [rawV r] (mach r) := by
  refine Fn.of TBgood mixed h_narrowsref02_small rfl rfl (Nat.le_of_ble_eq_true rfl) ?_
  intro w
  conv => whnf
  refine br_split ?_ ?_
  · intro h
    have h1 : ¬ r.num.length ≤ 3 := by
      have : ((r.num.length : Nat) : Int) > 3 := of_decide_eq_true h
      omega
    conv => whnf
    refine postV_three ?_
    rw [mach, if_neg (fun h => h1 h.1)]
  intro h
  have h1 : r.num.length ≤ 3 := by
    have : ¬ ((r.num.length : Nat) : Int) > 3 := of_decide_eq_false h
    omega
  conv => whnf
  refine br_split ?_ ?_
  · intro h
    have h2 : ¬ r.den.length ≤ 3 := by
      have : ((r.den.length : Nat) : Int) > 3 := of_decide_eq_true h
      omega
    conv => whnf
    refine postV_three ?_
    rw [mach, if_neg (fun h => h2 h.2)]
  intro h
  have h2 : r.den.length ≤ 3 := by
    have : ¬ ((r.den.length : Nat) : Int) > 3 := of_decide_eq_false h
    omega
  have hnb : nat r.num < 16777216 := nat_bound h1
  have fin : mach r = .tuple #[.int .i64 r.n, .int .i64 (r.d : Int), .bool true] := by rw [mach, if_pos ⟨h1, h2⟩]
  rw [fin]
  conv => whnf
  refine DrawVC.quiet (by kernel_rfl) ?_
  conv => whnf
  refine CallVCd.fn (r_number r.num (by omega)) rfl ?_
  conv => whnf
  refine CallVCd.fn (r_number r.den (by omega)) rfl ?_
  conv => whnf
  have hneg : ∀ b : Bool, (b = true → IntKind.i64.wrap (0 - (nat r.num : Int)) = sg b (nat r.num)) := fun b hb => by
    rw [hb, wrap_i64 (by omega) (by omega), Int.zero_sub]; rfl
  refine br_split ?_ ?_ <;> intro hd0
  · have hd : r.d = 1 := by
      have h3 : (nat r.den : Int) = 0 := eq_of_beq hd0
      unfold Raw.d dnm; rw [if_pos (by omega)]
    rw [hd]
    conv => whnf
    refine br_split ?_ ?_ <;> intro hb
    · conv => whnf
      refine postV_three ?_
      rw [hneg r.neg hb]; rfl
    · conv => whnf
      refine postV_three ?_
      rw [Raw.n, hb]; rfl
  · have hd : r.d = nat r.den := by
      have h3 : ¬ (nat r.den : Int) = 0 := ne_of_beq_false hd0
      unfold Raw.d dnm; rw [if_neg (by omega)]
    rw [hd]
    conv => whnf
    refine br_split ?_ ?_ <;> intro hb
    · conv => whnf
      refine postV_three ?_
      rw [hneg r.neg hb]; rfl
    · conv => whnf
      refine postV_three ?_
      rw [Raw.n, hb]; rfl
theorem mk_natAbs {n : Int} {d : Nat} (hd : 0 < d) : (mkRat n d).num.natAbs = n.natAbs / Nat.gcd n.natAbs d := by
  rw [Rat.num_mkRat, if_neg (by omega), Nat.gcd_comm d, Int.natAbs_ediv_of_dvd (Int.ofNat_dvd_left.2 (Nat.gcd_dvd_left _ _)), Int.natAbs_natCast]
theorem mk_denN {n : Int} {d : Nat} (hd : 0 < d) : (mkRat n d).den = d / Nat.gcd n.natAbs d := by rw [Rat.den_mkRat, if_neg (by omega), Nat.gcd_comm d]
/-- The layout of a fraction in lowest terms. -/
theorem qV_of {n : Int} {d : Nat} (hd : 0 < d) (D : List UInt8) (hD : D = if d / Nat.gcd n.natAbs d = 1 then [] else bytes (d / Nat.gcd n.natAbs d)) :
    Value.agg ⟨[.bool (decide (n < 0)), .string (bs (bytes (n.natAbs / Nat.gcd n.natAbs d))), .string (bs D)]⟩ = qV (mkRat n d) := by
  rw [hD]
  simp only [qV, rawV, Q, mk_natAbs hd, mk_denN hd]
  rw [decide_eq_decide.2 (mk_neg hd)]
theorem some_int {x y : Int} (h : x = y) : some (SV.o (.v (.int .i64 x))) = some (SV.o (.v (.int .i64 y))) := by rw [h]
theorem tdivN (a b : Nat) : Int.tdiv (a : Int) (b : Int) = ((a / b : Nat) : Int) := rfl
theorem r_pack (n : Int) (d : Nat) (hn : n.natAbs < 72057594037927936) (hd0 : 0 < d) (hd : d < 72057594037927936) : Fn PP f_narrowsref02_pack [.int .i64 n, .int .i64 (d : Int)] (qV (mkRat n d)) := by
  refine Fn.of TBgood mixed h_narrowsref02_pack rfl rfl (Nat.le_of_ble_eq_true rfl) ?_
  intro w
  obtain ⟨a, ha⟩ : ∃ a, a = n.natAbs := ⟨_, rfl⟩
  conv => whnf
  have hq := fun D hD => qV_of (n := n) hd0 D hD
  have hdv : Nat.gcd a d ∣ d := Nat.gcd_dvd_right _ _
  have hda : Nat.gcd a d ∣ a := Nat.gcd_dvd_left _ _
  rw [← ha] at hn hq
  refine br_split ?_ ?_ <;> intro hs
  · have hneg : n < 0 := of_decide_eq_true hs
    have hw : IntKind.i64.wrap (0 - n) = (a : Int) := by rw [wrap_i64 (by omega) (by omega)]; omega
    have ha0 : 0 < a := by omega
    conv => whnf
    refine br_false (beq_false_of_ne (by rw [hw]; omega)) ?_
    conv => whnf
    refine sexec_loop (ι := Nat × Nat) (fun ⟨c, e⟩ => ⟨[(0, .o (.v (.int .i64 a))), (1, .o (.v (.int .i64 d))), (4, .o (.p 4 0)), (5, .o (.p 5 0)), (6, .o (.v (.int .i64 c))), (7, .o (.v (.int .i64 e)))], [(4, .box [.v (.bool false), .v (.string ⟨#[]⟩), .v (.string ⟨#[]⟩)] t_api_Rat), (5, .box [.v (.bool (decide (n < 0))), .v (.string ⟨#[]⟩), .v (.string ⟨#[]⟩)] t_api_Rat)], []⟩)
      (fun ⟨c, e⟩ => Nat.gcd c e = Nat.gcd a d ∧ c < 72057594037927936 ∧ e < 72057594037927936) (fun ⟨c, e⟩ => e) (a, d) ⟨rfl, hn, hd⟩ (SLe.id ⟨(some_int hw), rfl, rfl, rfl, (some_int hw), rfl, trivial⟩ ⟨⟨_, rfl, .refl _⟩, ⟨_, rfl, .refl _⟩, trivial⟩ (fun R hR => hR)) ?_
    rintro ⟨c, e⟩ ⟨hg, hc, he⟩
    conv => whnf
    refine br_split ?_ ?_
    · intro h
      have he0 : 0 < e := by
        have : (e : Int) > 0 := of_decide_eq_true h
        omega
      have hlt2 : c % e < e := Nat.mod_lt _ he0
      conv => whnf
      refine DrawVC.quiet (by kernel_rfl) ?_
      conv => whnf
      refine ⟨by omega, ?_⟩
      conv => whnf
      exact ⟨(e, c % e), ⟨by rw [← hg, Nat.gcd_comm c e, Nat.gcd_rec e c, Nat.gcd_comm], he, by omega⟩, hlt2, SLe.id ⟨rfl, rfl, rfl, rfl, rfl, rfl, trivial⟩ ⟨⟨_, rfl, .refl _⟩, ⟨_, rfl, .refl _⟩, trivial⟩ (fun R hR => hR)⟩
    intro h
    have he0 : e = 0 := by
      have : ¬ (e : Int) > 0 := of_decide_eq_false h
      omega
    subst he0
    rw [Nat.gcd_zero_right] at hg
    rw [← hg] at hdv hda hq
    have w1 : IntKind.i64.wrap (Int.tdiv (a : Int) (c : Int)) = ((a / c : Nat) : Int) := by rw [tdivN]; exact wrapN (Nat.lt_of_le_of_lt (Nat.div_le_self _ _) (by omega))
    have w2 : IntKind.i64.wrap (Int.tdiv (d : Int) (c : Int)) = ((d / c : Nat) : Int) := by rw [tdivN]; exact wrapN (Nat.lt_of_le_of_lt (Nat.div_le_self _ _) (by omega))
    have hcp : 0 < c := Nat.pos_of_dvd_of_pos hdv hd0
    conv => whnf
    refine ⟨by omega, ?_⟩
    conv => whnf
    refine CallVC.fn (r_digits (a / c) (Nat.div_pos (Nat.le_of_dvd ha0 hda) hcp) (Nat.lt_of_le_of_lt (Nat.div_le_self _ _) hn)) (congrArg (fun z => [SV.o (.v (.int .i64 z))]) w1) ?_
    conv => whnf
    refine ⟨by omega, ?_⟩
    conv => whnf
    by_cases h1 : d / c = 1
    · refine br_false (decide_eq_false (by rw [w2, h1]; decide)) ?_
      conv => whnf
      refine postV_one ?_
      exact hq [] (by rw [if_pos h1])
    · have hdc := Nat.div_pos (Nat.le_of_dvd hd0 hdv) hcp
      refine br_true (decide_eq_true (by rw [w2]; omega)) ?_
      conv => whnf
      refine ⟨by omega, ?_⟩
      conv => whnf
      refine CallVC.fn (r_digits (d / c) hdc (Nat.lt_of_le_of_lt (Nat.div_le_self _ _) hd)) (congrArg (fun z => [SV.o (.v (.int .i64 z))]) w2) ?_
      conv => whnf
      refine postV_one ?_
      exact hq _ (by rw [if_neg h1])
  · have hpos : ¬ n < 0 := of_decide_eq_false hs
    obtain rfl : n = (a : Int) := by omega
    conv => whnf
    by_cases h0 : a = 0
    · refine br_true (beq_iff_eq.2 (show (a : Int) = 0 by omega)) ?_
      conv => whnf
      refine postV_one ?_
      rw [h0, show ((0 : Nat) : Int) = 0 from rfl, Rat.zero_mkRat, q0]
    have ha0 : 0 < a := by omega
    refine br_false (beq_false_of_ne (show ¬ (a : Int) = 0 by omega)) ?_
    conv => whnf
    refine sexec_loop (ι := Nat × Nat) (fun ⟨c, e⟩ => ⟨[(0, .o (.v (.int .i64 a))), (1, .o (.v (.int .i64 d))), (4, .o (.p 4 0)), (5, .o (.p 5 0)), (6, .o (.v (.int .i64 c))), (7, .o (.v (.int .i64 e)))], [(4, .box [.v (.bool false), .v (.string ⟨#[]⟩), .v (.string ⟨#[]⟩)] t_api_Rat), (5, .box [.v (.bool (decide ((a : Int) < 0))), .v (.string ⟨#[]⟩), .v (.string ⟨#[]⟩)] t_api_Rat)], []⟩)
      (fun ⟨c, e⟩ => Nat.gcd c e = Nat.gcd a d ∧ c < 72057594037927936 ∧ e < 72057594037927936) (fun ⟨c, e⟩ => e) (a, d) ⟨rfl, hn, hd⟩ (SLe.id ⟨rfl, rfl, rfl, rfl, rfl, rfl, trivial⟩ ⟨⟨_, rfl, .refl _⟩, ⟨_, rfl, .refl _⟩, trivial⟩ (fun R hR => hR)) ?_
    rintro ⟨c, e⟩ ⟨hg, hc, he⟩
    conv => whnf
    refine br_split ?_ ?_
    · intro h
      have he0 : 0 < e := by
        have : (e : Int) > 0 := of_decide_eq_true h
        omega
      have hlt2 : c % e < e := Nat.mod_lt _ he0
      conv => whnf
      refine DrawVC.quiet (by kernel_rfl) ?_
      conv => whnf
      refine ⟨by omega, ?_⟩
      conv => whnf
      exact ⟨(e, c % e), ⟨by rw [← hg, Nat.gcd_comm c e, Nat.gcd_rec e c, Nat.gcd_comm], he, by omega⟩, hlt2, SLe.id ⟨rfl, rfl, rfl, rfl, rfl, rfl, trivial⟩ ⟨⟨_, rfl, .refl _⟩, ⟨_, rfl, .refl _⟩, trivial⟩ (fun R hR => hR)⟩
    intro h
    have he0 : e = 0 := by
      have : ¬ (e : Int) > 0 := of_decide_eq_false h
      omega
    subst he0
    rw [Nat.gcd_zero_right] at hg
    rw [← hg] at hdv hda hq
    have w1 : IntKind.i64.wrap (Int.tdiv (a : Int) (c : Int)) = ((a / c : Nat) : Int) := by rw [tdivN]; exact wrapN (Nat.lt_of_le_of_lt (Nat.div_le_self _ _) (by omega))
    have w2 : IntKind.i64.wrap (Int.tdiv (d : Int) (c : Int)) = ((d / c : Nat) : Int) := by rw [tdivN]; exact wrapN (Nat.lt_of_le_of_lt (Nat.div_le_self _ _) (by omega))
    have hcp : 0 < c := Nat.pos_of_dvd_of_pos hdv hd0
    conv => whnf
    refine ⟨by omega, ?_⟩
    conv => whnf
    refine CallVC.fn (r_digits (a / c) (Nat.div_pos (Nat.le_of_dvd ha0 hda) hcp) (Nat.lt_of_le_of_lt (Nat.div_le_self _ _) hn)) (congrArg (fun z => [SV.o (.v (.int .i64 z))]) w1) ?_
    conv => whnf
    refine ⟨by omega, ?_⟩
    conv => whnf
    by_cases h1 : d / c = 1
    · refine br_false (decide_eq_false (by rw [w2, h1]; decide)) ?_
      conv => whnf
      refine postV_one ?_
      exact hq [] (by rw [if_pos h1])
    · have hdc := Nat.div_pos (Nat.le_of_dvd hd0 hdv) hcp
      refine br_true (decide_eq_true (by rw [w2]; omega)) ?_
      conv => whnf
      refine ⟨by omega, ?_⟩
      conv => whnf
      refine CallVC.fn (r_digits (d / c) hdc (Nat.lt_of_le_of_lt (Nat.div_le_self _ _) hd)) (congrArg (fun z => [SV.o (.v (.int .i64 z))]) w2) ?_
      conv => whnf
      refine postV_one ?_
      exact hq _ (by rw [if_neg h1])
end Go.Sx
end
section
set_option maxRecDepth 10000
set_option maxHeartbeats 2000000
set_option linter.unusedSimpArgs false
set_option linter.unusedVariables false
set_option pp.deepTerms false
set_option pp.deepTerms.threshold 6
namespace Go.Sx
open Go Go.Proofs
theorem r_AddR0 (b : Bool) (l : List UInt8) (hl : l.length ≤ 500000000) : Fn PP f_narrowsref01_Add [intV b (bs l), intV false ⟨#[]⟩] (zV (sg b (nat l))) := by
  have := r_Add b false l [] hl (by decide)
  rw [nat_nil, show sg false 0 = 0 from rfl, Int.add_zero] at this
  exact this
theorem r_AddZ0 (x : Int) (hl : (bytes x.natAbs).length ≤ 500000000) : Fn PP f_narrowsref01_Add [zV x, intV false ⟨#[]⟩] (zV x) := by
  have := r_AddR0 (decide (x < 0)) (bytes x.natAbs) hl
  rw [nat_bytes, sg_z] at this
  exact this
theorem r_parts (r : Raw) (hr : r.sm 500000000) : Fn PP f_narrowsref02_parts [rawV r] (.tuple #[zV r.n, zV (r.d : Int)]) := by
  refine Fn.of TBgood mixed h_narrowsref02_parts rfl rfl (Nat.le_of_ble_eq_true rfl) ?_
  intro w
  conv => whnf
  refine CallVC.fn (r_AddR0 r.neg r.num hr.1) rfl ?_
  conv => whnf
  refine CallVC.fn (r_AddR0 false r.den hr.2) rfl ?_
  rw [show sg r.neg (nat r.num) = r.n from rfl, show sg false (nat r.den) = ((nat r.den : Nat) : Int) from rfl]
  conv => whnf
  by_cases h0 : nat r.den = 0
  · have hd : r.d = 1 := by unfold Raw.d dnm; rw [if_pos h0]
    rw [hd]
    refine br_true ((emptyZ (nat r.den : Int)).trans (decide_eq_true (by omega))) ?_
    conv => whnf
    refine CallVC.fn (r_Of 1 (by decide) (by decide)) rfl ?_
    conv => whnf
    refine DrawVC.late [(2, 2, [1])] (by kernel_rfl) ?_
    conv => whnf
    exact postV_two rfl
  · have hd : r.d = nat r.den := by unfold Raw.d dnm; rw [if_neg h0]
    rw [hd]
    refine br_false ((emptyZ (nat r.den : Int)).trans (decide_eq_false (by omega))) ?_
    conv => whnf
    refine DrawVC.late [(2, 2, [1])] (by kernel_rfl) ?_
    conv => whnf
    exact postV_two rfl
theorem not_one (m : Nat) : (!((bs (bytes m)).toList == ByteArray.toList ⟨#[1]⟩)) = decide (m ≠ 1) := by
  have h1 : ByteArray.toList ⟨#[1]⟩ = bytes 1 := by decide +kernel
  rw [bs_toList, h1]
  by_cases h : m = 1
  · subst h; simp
  · have : ¬ bytes m = bytes 1 := fun h2 => h (bytes_inj h2)
    simp [h, this]
theorem r_reduce (X : Int) (D : Nat) (hX : (bytes X.natAbs).length ≤ 300000000) (hD : (bytes D).length ≤ 300000000) (h0 : 0 < D) : Fn PP f_narrowsref02_reduce [zV X, zV (D : Int)] (qV (mkRat X D)) := by
  refine Fn.of TBgood mixed h_narrowsref02_reduce rfl rfl (Nat.le_of_ble_eq_true rfl) ?_
  intro w
  conv => whnf
  refine DrawVC.quiet (by kernel_rfl) ?_
  conv => whnf
  refine CallVCd.fn (r_AddZ0 X (by omega)) rfl ?_
  conv => whnf
  refine CallVCd.fn (r_AddZ0 (D : Int) (by rw [Int.natAbs_natCast]; omega)) rfl ?_
  conv => whnf
  by_cases hx0 : X = 0
  · refine br_true ((emptyZ X).trans (decide_eq_true hx0)) ?_
    conv => whnf
    refine postV_one ?_
    rw [hx0, Rat.zero_mkRat, q0]
  refine br_false ((emptyZ X).trans (decide_eq_false hx0)) ?_
  conv => whnf
  refine CallVC.fn (r_GcdZ X (D : Int) hX (by rw [Int.natAbs_natCast]; exact hD)) rfl ?_
  rw [Int.natAbs_natCast]
  obtain ⟨G, hG⟩ : ∃ G, G = Nat.gcd X.natAbs D := ⟨_, rfl⟩
  rw [← hG]
  have hGp : 0 < G := by rw [hG]; exact Nat.gcd_pos_of_pos_right _ h0
  have hGl : (bytes ((G : Int)).natAbs).length ≤ 300000000 := by
    rw [Int.natAbs_natCast]
    exact Nat.le_trans (bytes_mono (by rw [hG]; exact Nat.gcd_le_right _ h0)) hD
  conv => whnf
  have d1 := r_DivZ X (G : Int) hX hGl
  rw [if_neg (by omega), show X.fdiv (G : Int) = (mkRat X D).num by rw [mk_num h0, ← hG]] at d1
  refine CallVC.fn d1 rfl ?_
  conv => whnf
  have d2 := r_DivZ (D : Int) (G : Int) (by rw [Int.natAbs_natCast]; exact hD) hGl
  rw [if_neg (by omega), show (D : Int).fdiv (G : Int) = ((mkRat X D).den : Int) by rw [mk_den h0, ← hG]] at d2
  refine CallVC.fn d2 rfl ?_
  conv => whnf
  have hres : ∀ d : List UInt8, d = (if (mkRat X D).den = 1 then [] else bytes (mkRat X D).den) → (Value.agg ⟨[.bool (decide ((mkRat X D).num < 0)), .string (bs (bytes (mkRat X D).num.natAbs)), .string (bs d)]⟩) = qV (mkRat X D) := by
    intro d hd
    rw [hd]
    simp only [qV, rawV, Q, num_neg_iff]
  by_cases h1 : (mkRat X D).den = 1
  · refine br_false ((not_one _).trans (decide_eq_false (by rw [Int.natAbs_natCast]; omega))) ?_
    conv => whnf
    refine postV_one ?_
    exact hres [] (by rw [if_pos h1])
  · refine br_true ((not_one _).trans (decide_eq_true (by rw [Int.natAbs_natCast]; omega))) ?_
    conv => whnf
    refine postV_one ?_
    exact hres _ (by rw [if_neg h1, Int.natAbs_natCast])
end Go.Sx
end
section
set_option maxRecDepth 10000
set_option maxHeartbeats 2000000
set_option linter.unusedSimpArgs false
set_option linter.unusedVariables false
set_option pp.deepTerms false
set_option pp.deepTerms.threshold 6
namespace Go.Sx
open Go Go.Proofs
theorem mach_cases (r : Raw) : (r.little ∧ mach r = .tuple #[.int .i64 r.n, .int .i64 (r.d : Int), .bool true]) ∨ mach r = .tuple #[.int .i64 0, .int .i64 0, .bool false] := by
  by_cases h : r.num.length ≤ 3 ∧ r.den.length ≤ 3
  · exact .inl ⟨h, by rw [mach, if_pos h]⟩
  · exact .inr (by rw [mach, if_neg h])
theorem Raw.big5 {r : Raw} (hr : r.sm KK) : r.sm 500000000 := ⟨Nat.le_trans hr.1 (by decide), Nat.le_trans hr.2 (by decide)⟩
theorem little_n {r : Raw} (h : r.little) : r.n.natAbs < 16777216 := Raw.n_bound (k := 3) h.1
theorem little_d {r : Raw} (h : r.little) : r.d < 16777216 := Raw.d_bound (k := 3) (by decide) h.2
theorem mulN {a b : Int} (ha : a.natAbs < 16777216) (hb : b.natAbs < 16777216) : (a * b).natAbs < 281474976710656 := by
  have := pow_add_lt (k := 3) (m := 3) (by simpa using ha) (by simpa using hb)
  rw [Int.natAbs_mul]; simpa using this
theorem mulDD {a b : Nat} (ha : a < 16777216) (hb : b < 16777216) : a * b < 281474976710656 := by
  have := pow_add_lt (k := 3) (m := 3) (a := a) (b := b) (by simpa using ha) (by simpa using hb)
  simpa using this
theorem r_Normal (r : Raw) (hr : r.sm KK) : Fn PP f_narrowsref02_Normal [rawV r] (qV r.v) := by
  refine Fn.of TBgood mixed h_narrowsref02_Normal rfl rfl (Nat.le_of_ble_eq_true rfl) ?_
  intro w
  conv => whnf
  refine CallVC.fn (r_rsmall r) rfl ?_
  rcases mach_cases r with ⟨hl, hm⟩ | hm
  · have h1 := little_n hl
    have h2 := little_d hl
    rw [hm]
    conv => whnf
    refine CallVC.fn (r_pack r.n r.d (by omega) r.d_pos (by omega)) rfl ?_
    conv => whnf
    exact postV_one rfl
  · rw [hm]
    conv => whnf
    refine CallVC.fn (r_parts r (Raw.big5 hr)) rfl ?_
    conv => whnf
    refine CallVC.fn (r_reduce r.n r.d (Nat.le_trans (zl_le (rn_lt hr)) (by decide)) (by have := zl_le (rd_lt hr); rw [zl, Int.natAbs_natCast] at this; exact Nat.le_trans this (by decide)) r.d_pos) rfl ?_
    conv => whnf
    exact postV_one rfl
theorem r_rOf (n : Int) (h1 : -9223372036854775808 ≤ n) (h2 : n ≤ 9223372036854775807) : Fn PP f_narrowsref02_Of [.int .i64 n] (qV (n : Rat)) := by
  refine Fn.of TBgood mixed h_narrowsref02_Of rfl rfl (Nat.le_of_ble_eq_true rfl) ?_
  intro w
  conv => whnf
  refine CallVC.fn (r_Of n h1 h2) rfl ?_
  conv => whnf
  refine CallVC.fn (r_Of 1 (by decide) (by decide)) rfl ?_
  conv => whnf
  refine CallVC.fn (r_reduce n 1 (Nat.le_trans (bytes_len (k := 8) (by omega)) (by decide)) (by decide +kernel) (by decide)) rfl ?_
  conv => whnf
  refine postV_one ?_
  rw [mk_one]
theorem r_rNeg (r : Raw) (hr : r.sm KK) : Fn PP f_narrowsref02_Neg [rawV r] (qV (-r.v)) := by
  refine Fn.of TBgood mixed h_narrowsref02_Neg rfl rfl (Nat.le_of_ble_eq_true rfl) ?_
  intro w
  conv => whnf
  refine CallVC.fn (r_Normal r.opp (Raw.opp_sm hr)) rfl ?_
  conv => whnf
  refine postV_one ?_
  rw [Raw.opp_v]
theorem r_rAbs (r : Raw) (hr : r.sm KK) : Fn PP f_narrowsref02_Abs [rawV r] (qV (Raw.v ⟨false, r.num, r.den⟩)) := by
  refine Fn.of TBgood mixed h_narrowsref02_Abs rfl rfl (Nat.le_of_ble_eq_true rfl) ?_
  intro w
  conv => whnf
  refine CallVC.fn (r_Normal ⟨false, r.num, r.den⟩ hr) rfl ?_
  conv => whnf
  exact postV_one rfl
theorem dl_le {r s : Raw} (hr : r.sm KK) (hs : s.sm KK) : (bytes (r.d * s.d)).length ≤ 300000000 := by
  have := zl_le (zl_mul (rd_lt hr) (rd_lt hs))
  rw [zl, dnat] at this
  exact Nat.le_trans this (by decide)
theorem z1 {x : Int} {k : Nat} (h : x.natAbs < 256 ^ k) (m : Nat) (hk : k ≤ m) : (bytes x.natAbs).length ≤ m := Nat.le_trans (zl_le h) hk
theorem r_rAdd (r s : Raw) (hr : r.sm KK) (hs : s.sm KK) : Fn PP f_narrowsref02_Add [rawV r, rawV s] (qV (r.v + s.v)) := by
  refine Fn.of TBgood mixed h_narrowsref02_Add rfl rfl (Nat.le_of_ble_eq_true rfl) ?_
  intro w
  have b1 := zl_mul (rn_lt hr) (rd_lt hs)
  have b2 := zl_mul (rn_lt hs) (rd_lt hr)
  have b3 := zl_add b1 b2
  have b5 := zl_mul (rn_lt hr) (rn_lt hs)
  have q1 := rn_lt hr
  have q2 := rd_lt hr
  have q3 := rn_lt hs
  have q4 := rd_lt hs
  conv => whnf
  refine CallVC.fn (r_rsmall r) rfl ?_
  have hc : (r.little ∧ s.little ∧ mach r = .tuple #[.int .i64 r.n, .int .i64 (r.d : Int), .bool true] ∧ mach s = .tuple #[.int .i64 s.n, .int .i64 (s.d : Int), .bool true]) ∨ (∃ x y, mach r = .tuple #[.int .i64 x, .int .i64 y, .bool true] ∧ mach s = .tuple #[.int .i64 0, .int .i64 0, .bool false]) ∨ (∃ x y b, mach r = .tuple #[.int .i64 0, .int .i64 0, .bool false] ∧ mach s = .tuple #[.int .i64 x, .int .i64 y, .bool b]) := by
    rcases mach_cases r with ⟨h1, h2⟩ | h2 <;> rcases mach_cases s with ⟨h3, h4⟩ | h4
    · exact .inl ⟨h1, h3, h2, h4⟩
    · exact .inr (.inl ⟨_, _, h2, h4⟩)
    · exact .inr (.inr ⟨_, _, _, h2, h4⟩)
    · exact .inr (.inr ⟨_, _, _, h2, h4⟩)
  rcases hc with ⟨l1, l2, m1, m2⟩ | hc
  · have e1 := little_n l1
    have e2 := little_d l1
    have e3 := little_n l2
    have e4 := little_d l2
    have g1 := mulN e1 (b := (s.d : Int)) (by omega)
    have g2 := mulN e3 (b := (r.d : Int)) (by omega)
    have g3 := mulDD e2 e4
    have g4 := mulN e1 e3
    have w1 : IntKind.i64.wrap (r.n * (s.d : Int)) = r.n * (s.d : Int) := wrap_i64 (by omega) (by omega)
    have w2 : IntKind.i64.wrap (s.n * (r.d : Int)) = s.n * (r.d : Int) := wrap_i64 (by omega) (by omega)
    have w3 : IntKind.i64.wrap ((r.d : Int) * (s.d : Int)) = ((r.d * s.d : Nat) : Int) := by rw [Int.natCast_mul]; rw [← Int.natCast_mul]; exact wrapN (by omega)
    have w4 : IntKind.i64.wrap (r.n * s.n) = r.n * s.n := wrap_i64 (by omega) (by omega)
    have w5 : IntKind.i64.wrap (r.n * (s.d : Int) + s.n * (r.d : Int)) = r.n * (s.d : Int) + s.n * (r.d : Int) := wrap_i64 (by omega) (by omega)
    rw [m1]
    conv => whnf
    refine CallVC.fn (r_rsmall s) rfl ?_
    rw [m2]
    conv => whnf
    refine CallVC.fn (r_pack (r.n * (s.d : Int) + s.n * (r.d : Int)) (r.d * s.d) (by omega) (Nat.mul_pos r.d_pos s.d_pos) (by omega)) (by
      show [SV.o (.v (.int .i64 (IntKind.i64.wrap (IntKind.i64.wrap (r.n * (s.d : Int)) + IntKind.i64.wrap (s.n * (r.d : Int)))))), SV.o (.v (.int .i64 (IntKind.i64.wrap ((r.d : Int) * (s.d : Int)))))] = _
      rw [w1, w2, w3, w5]; rfl) ?_
    conv => whnf
    refine postV_one ?_
    rw [Raw.v, Raw.v, Rat.mkRat_add_mkRat _ _ r.d_ne s.d_ne]
  rcases hc with ⟨x, y, m1, m2⟩ | ⟨x, y, b, m1, m2⟩
  all_goals
    rw [m1]
    conv => whnf
    refine CallVC.fn (r_rsmall s) rfl ?_
    rw [m2]
    conv => whnf
    refine CallVC.fn (r_parts r (Raw.big5 hr)) rfl ?_
    conv => whnf
    refine CallVC.fn (r_parts s (Raw.big5 hs)) rfl ?_
    conv => whnf
    refine DrawVC.quiet (by kernel_rfl) ?_
    conv => whnf
    refine CallVCd.fn (r_MulZ r.n s.d (z1 q1 _ (by decide)) (z1 q4 _ (by decide))) rfl ?_
    conv => whnf
    refine CallVCd.fn (r_MulZ s.n r.d (z1 q3 _ (by decide)) (z1 q2 _ (by decide))) rfl ?_
    conv => whnf
    refine CallVCd.fn (r_AddZ (r.n * s.d) (s.n * r.d) (z1 b1 _ (by decide)) (z1 b2 _ (by decide))) rfl ?_
    conv => whnf
    refine CallVCd.fn (r_MulZ r.d s.d (z1 q2 _ (by decide)) (z1 q4 _ (by decide))) rfl ?_
    rw [← Int.natCast_mul]
    conv => whnf
    refine CallVCd.fn (r_reduce (r.n * s.d + s.n * r.d) (r.d * s.d) (z1 b3 _ (by decide)) (dl_le hr hs) (Nat.mul_pos r.d_pos s.d_pos)) rfl ?_
    conv => whnf
    refine postV_one ?_
    rw [Raw.v, Raw.v, Rat.mkRat_add_mkRat _ _ r.d_ne s.d_ne]
theorem r_rMul (r s : Raw) (hr : r.sm KK) (hs : s.sm KK) : Fn PP f_narrowsref02_Mul [rawV r, rawV s] (qV (r.v * s.v)) := by
  refine Fn.of TBgood mixed h_narrowsref02_Mul rfl rfl (Nat.le_of_ble_eq_true rfl) ?_
  intro w
  have b1 := zl_mul (rn_lt hr) (rd_lt hs)
  have b2 := zl_mul (rn_lt hs) (rd_lt hr)
  have b3 := zl_add b1 b2
  have b5 := zl_mul (rn_lt hr) (rn_lt hs)
  have q1 := rn_lt hr
  have q2 := rd_lt hr
  have q3 := rn_lt hs
  have q4 := rd_lt hs
  conv => whnf
  refine CallVC.fn (r_rsmall r) rfl ?_
  have hc : (r.little ∧ s.little ∧ mach r = .tuple #[.int .i64 r.n, .int .i64 (r.d : Int), .bool true] ∧ mach s = .tuple #[.int .i64 s.n, .int .i64 (s.d : Int), .bool true]) ∨ (∃ x y, mach r = .tuple #[.int .i64 x, .int .i64 y, .bool true] ∧ mach s = .tuple #[.int .i64 0, .int .i64 0, .bool false]) ∨ (∃ x y b, mach r = .tuple #[.int .i64 0, .int .i64 0, .bool false] ∧ mach s = .tuple #[.int .i64 x, .int .i64 y, .bool b]) := by
    rcases mach_cases r with ⟨h1, h2⟩ | h2 <;> rcases mach_cases s with ⟨h3, h4⟩ | h4
    · exact .inl ⟨h1, h3, h2, h4⟩
    · exact .inr (.inl ⟨_, _, h2, h4⟩)
    · exact .inr (.inr ⟨_, _, _, h2, h4⟩)
    · exact .inr (.inr ⟨_, _, _, h2, h4⟩)
  rcases hc with ⟨l1, l2, m1, m2⟩ | hc
  · have e1 := little_n l1
    have e2 := little_d l1
    have e3 := little_n l2
    have e4 := little_d l2
    have g1 := mulN e1 (b := (s.d : Int)) (by omega)
    have g2 := mulN e3 (b := (r.d : Int)) (by omega)
    have g3 := mulDD e2 e4
    have g4 := mulN e1 e3
    have w1 : IntKind.i64.wrap (r.n * (s.d : Int)) = r.n * (s.d : Int) := wrap_i64 (by omega) (by omega)
    have w2 : IntKind.i64.wrap (s.n * (r.d : Int)) = s.n * (r.d : Int) := wrap_i64 (by omega) (by omega)
    have w3 : IntKind.i64.wrap ((r.d : Int) * (s.d : Int)) = ((r.d * s.d : Nat) : Int) := by rw [Int.natCast_mul]; rw [← Int.natCast_mul]; exact wrapN (by omega)
    have w4 : IntKind.i64.wrap (r.n * s.n) = r.n * s.n := wrap_i64 (by omega) (by omega)
    have w5 : IntKind.i64.wrap (r.n * (s.d : Int) + s.n * (r.d : Int)) = r.n * (s.d : Int) + s.n * (r.d : Int) := wrap_i64 (by omega) (by omega)
    rw [m1]
    conv => whnf
    refine CallVC.fn (r_rsmall s) rfl ?_
    rw [m2]
    conv => whnf
    refine CallVC.fn (r_pack (r.n * s.n) (r.d * s.d) (by omega) (Nat.mul_pos r.d_pos s.d_pos) (by omega)) (by
      show [SV.o (.v (.int .i64 (IntKind.i64.wrap (r.n * s.n)))), SV.o (.v (.int .i64 (IntKind.i64.wrap ((r.d : Int) * (s.d : Int)))))] = _
      rw [w4, w3]; rfl) ?_
    conv => whnf
    refine postV_one ?_
    rw [Raw.v, Raw.v, Rat.mkRat_mul_mkRat]
  rcases hc with ⟨x, y, m1, m2⟩ | ⟨x, y, b, m1, m2⟩
  all_goals
    rw [m1]
    conv => whnf
    refine CallVC.fn (r_rsmall s) rfl ?_
    rw [m2]
    conv => whnf
    refine CallVC.fn (r_parts r (Raw.big5 hr)) rfl ?_
    conv => whnf
    refine CallVC.fn (r_parts s (Raw.big5 hs)) rfl ?_
    conv => whnf
    refine DrawVC.quiet (by kernel_rfl) ?_
    conv => whnf
    refine CallVCd.fn (r_MulZ r.n s.n (z1 q1 _ (by decide)) (z1 q3 _ (by decide))) rfl ?_
    conv => whnf
    refine CallVCd.fn (r_MulZ r.d s.d (z1 q2 _ (by decide)) (z1 q4 _ (by decide))) rfl ?_
    rw [← Int.natCast_mul]
    conv => whnf
    refine CallVCd.fn (r_reduce (r.n * s.n) (r.d * s.d) (z1 b5 _ (by decide)) (dl_le hr hs) (Nat.mul_pos r.d_pos s.d_pos)) rfl ?_
    conv => whnf
    refine postV_one ?_
    rw [Raw.v, Raw.v, Rat.mkRat_mul_mkRat]
theorem r_rCompare (r s : Raw) (hr : r.sm KK) (hs : s.sm KK) : Fn PP f_narrowsref02_Compare [rawV r, rawV s] (.int .i64 (cmpQ r.v s.v)) := by
  refine Fn.of TBgood mixed h_narrowsref02_Compare rfl rfl (Nat.le_of_ble_eq_true rfl) ?_
  intro w
  have b1 := zl_mul (rn_lt hr) (rd_lt hs)
  have b2 := zl_mul (rn_lt hs) (rd_lt hr)
  have b3 := zl_add b1 b2
  have b5 := zl_mul (rn_lt hr) (rn_lt hs)
  have q1 := rn_lt hr
  have q2 := rd_lt hr
  have q3 := rn_lt hs
  have q4 := rd_lt hs
  conv => whnf
  refine CallVC.fn (r_rsmall r) rfl ?_
  have hc : (r.little ∧ s.little ∧ mach r = .tuple #[.int .i64 r.n, .int .i64 (r.d : Int), .bool true] ∧ mach s = .tuple #[.int .i64 s.n, .int .i64 (s.d : Int), .bool true]) ∨ (∃ x y, mach r = .tuple #[.int .i64 x, .int .i64 y, .bool true] ∧ mach s = .tuple #[.int .i64 0, .int .i64 0, .bool false]) ∨ (∃ x y b, mach r = .tuple #[.int .i64 0, .int .i64 0, .bool false] ∧ mach s = .tuple #[.int .i64 x, .int .i64 y, .bool b]) := by
    rcases mach_cases r with ⟨h1, h2⟩ | h2 <;> rcases mach_cases s with ⟨h3, h4⟩ | h4
    · exact .inl ⟨h1, h3, h2, h4⟩
    · exact .inr (.inl ⟨_, _, h2, h4⟩)
    · exact .inr (.inr ⟨_, _, _, h2, h4⟩)
    · exact .inr (.inr ⟨_, _, _, h2, h4⟩)
  rcases hc with ⟨l1, l2, m1, m2⟩ | hc
  · have e1 := little_n l1
    have e2 := little_d l1
    have e3 := little_n l2
    have e4 := little_d l2
    have g1 := mulN e1 (b := (s.d : Int)) (by omega)
    have g2 := mulN e3 (b := (r.d : Int)) (by omega)
    have g3 := mulDD e2 e4
    have g4 := mulN e1 e3
    have w1 : IntKind.i64.wrap (r.n * (s.d : Int)) = r.n * (s.d : Int) := wrap_i64 (by omega) (by omega)
    have w2 : IntKind.i64.wrap (s.n * (r.d : Int)) = s.n * (r.d : Int) := wrap_i64 (by omega) (by omega)
    have w3 : IntKind.i64.wrap ((r.d : Int) * (s.d : Int)) = ((r.d * s.d : Nat) : Int) := by rw [Int.natCast_mul]; rw [← Int.natCast_mul]; exact wrapN (by omega)
    have w4 : IntKind.i64.wrap (r.n * s.n) = r.n * s.n := wrap_i64 (by omega) (by omega)
    have w5 : IntKind.i64.wrap (r.n * (s.d : Int) + s.n * (r.d : Int)) = r.n * (s.d : Int) + s.n * (r.d : Int) := wrap_i64 (by omega) (by omega)
    rw [m1]
    conv => whnf
    refine CallVC.fn (r_rsmall s) rfl ?_
    rw [m2]
    conv => whnf
    rw [cmpQ_raw]
    rcases Int.lt_trichotomy (r.n * (s.d : Int)) (s.n * (r.d : Int)) with h | h | h
    · refine br_true (decide_eq_true (by rw [w1, w2]; exact h)) ?_
      conv => whnf
      refine postV_one ?_
      rw [cmpZ_lt h]
    · refine br_false (decide_eq_false (by rw [w1, w2]; omega)) ?_
      conv => whnf
      refine br_false (decide_eq_false (by rw [w1, w2]; omega)) ?_
      conv => whnf
      refine postV_one ?_
      rw [cmpZ_zero.2 h]
    · refine br_false (decide_eq_false (by rw [w1, w2]; omega)) ?_
      conv => whnf
      refine br_true (decide_eq_true (by rw [w1, w2]; omega)) ?_
      conv => whnf
      refine postV_one ?_
      rw [cmpZ_gt h]
  rcases hc with ⟨x, y, m1, m2⟩ | ⟨x, y, b, m1, m2⟩
  all_goals
    rw [m1]
    conv => whnf
    refine CallVC.fn (r_rsmall s) rfl ?_
    rw [m2]
    conv => whnf
    refine CallVC.fn (r_parts r (Raw.big5 hr)) rfl ?_
    conv => whnf
    refine CallVC.fn (r_parts s (Raw.big5 hs)) rfl ?_
    conv => whnf
    refine DrawVC.quiet (by kernel_rfl) ?_
    conv => whnf
    refine CallVCd.fn (r_MulZ r.n s.d (z1 q1 _ (by decide)) (z1 q4 _ (by decide))) rfl ?_
    conv => whnf
    refine CallVCd.fn (r_MulZ s.n r.d (z1 q3 _ (by decide)) (z1 q2 _ (by decide))) rfl ?_
    conv => whnf
    refine CallVCd.fn (r_CompareZ (r.n * s.d) (s.n * r.d)) rfl ?_
    conv => whnf
    refine postV_one ?_
    rw [cmpQ_raw]
theorem r_rSub (r s : Raw) (hr : r.sm KK) (hs : s.sm KK) : Fn PP f_narrowsref02_Sub [rawV r, rawV s] (qV (r.v - s.v)) := by
  refine Fn.of TBgood mixed h_narrowsref02_Sub rfl rfl (Nat.le_of_ble_eq_true rfl) ?_
  intro w
  conv => whnf
  refine CallVC.fn (r_rAdd r s.opp hr (Raw.opp_sm hs)) rfl ?_
  conv => whnf
  refine postV_one ?_
  rw [Raw.opp_v, Rat.sub_eq_add_neg]
theorem r_rSign (r : Raw) (hr : r.sm KK) : Fn PP f_narrowsref02_Sign [rawV r] (.int .i64 (cmpQ r.v 0)) := by
  refine Fn.of TBgood mixed h_narrowsref02_Sign rfl rfl (Nat.le_of_ble_eq_true rfl) ?_
  intro w
  conv => whnf
  refine CallVC.fn (r_rCompare r ⟨false, [], []⟩ hr ⟨by decide, by decide⟩) rfl ?_
  rw [Raw.zero_v]
  conv => whnf
  exact postV_one rfl
end Go.Sx
end
section
set_option maxRecDepth 10000
set_option maxHeartbeats 2000000
set_option linter.unusedSimpArgs false
set_option linter.unusedVariables false
set_option pp.deepTerms false
set_option pp.deepTerms.threshold 6
namespace Go.Sx
open Go Go.Proofs
theorem sg_inv {n : Int} (h : n ≠ 0) (d : Nat) (hd : 0 < d) : mkRat (sg (decide (n < 0)) d) n.natAbs = (mkRat n d)⁻¹ := by
  rw [← Rat.divInt_ofNat, ← Rat.divInt_ofNat, Rat.inv_divInt]
  rcases Int.lt_or_le n 0 with h1 | h1
  · rw [decide_eq_true h1, show ((n.natAbs : Nat) : Int) = -n by omega]
    show Rat.divInt (-(d : Int)) (-n) = _
    exact Rat.neg_divInt_neg _ _
  · rw [decide_eq_false (by omega), show ((n.natAbs : Nat) : Int) = n by omega]; rfl
theorem r_rQuo (r s : Raw) (hr : r.sm KK) (hs : s.sm KK) : Fn PP f_narrowsref02_Quo [rawV r, rawV s] (quoV r.v s.v) := by
  refine Fn.of TBgood mixed h_narrowsref02_Quo rfl rfl (Nat.le_of_ble_eq_true rfl) ?_
  intro w
  have q3 := rn_lt hs
  have q4 := rd_lt hs
  conv => whnf
  refine CallVC.fn (r_parts s (Raw.big5 hs)) rfl ?_
  conv => whnf
  by_cases h : s.n = 0
  · refine br_true ((emptyZ s.n).trans (decide_eq_true h)) ?_
    conv => whnf
    refine postV_two ?_
    rw [quoV, if_pos ((raw_zero s).2 h), q0]
  · refine br_false ((emptyZ s.n).trans (decide_eq_false h)) ?_
    conv => whnf
    have hin : (⟨decide (s.n < 0), bytes (s.d : Int).natAbs, bytes s.n.natAbs⟩ : Raw).v = s.v⁻¹ := by
      have e1 : (⟨decide (s.n < 0), bytes (s.d : Int).natAbs, bytes s.n.natAbs⟩ : Raw).n = sg (decide (s.n < 0)) s.d := by
        show sg _ (nat (bytes (s.d : Int).natAbs)) = _
        rw [nat_bytes, Int.natAbs_natCast]
      have e2 : (⟨decide (s.n < 0), bytes (s.d : Int).natAbs, bytes s.n.natAbs⟩ : Raw).d = s.n.natAbs := by
        show dnm (nat (bytes s.n.natAbs)) = _
        rw [nat_bytes, dnm, if_neg (by omega)]
      rw [Raw.v, e1, e2, sg_inv h s.d s.d_pos]; rfl
    refine CallVC.fn (r_rMul r ⟨decide (s.n < 0), bytes (s.d : Int).natAbs, bytes s.n.natAbs⟩ hr ⟨zl_le q4, zl_le q3⟩) rfl ?_
    rw [hin, ← Rat.div_def]
    conv => whnf
    refine postV_two ?_
    rw [quoV, if_neg (fun h2 => h ((raw_zero s).1 h2))]
/-- The lesser one of two numbers. -/
def mnR (r s : Raw) : Raw := if cmpQ s.v r.v < 0 then s else r
def mxR (r s : Raw) : Raw := if cmpQ s.v r.v > 0 then s else r
theorem r_rMin (r s : Raw) (hr : r.sm KK) (hs : s.sm KK) : Fn PP f_narrowsref02_Min [rawV r, rawV s] (rawV (mnR r s)) := by
  refine Fn.of TBgood mixed h_narrowsref02_Min rfl rfl (Nat.le_of_ble_eq_true rfl) ?_
  intro w
  conv => whnf
  refine CallVC.fn (r_rCompare s r hs hr) rfl ?_
  conv => whnf
  refine br_split ?_ ?_ <;> intro h
  · have h1 : cmpQ s.v r.v < 0 := of_decide_eq_true h
    conv => whnf
    exact postV_one (by rw [mnR, if_pos h1])
  · have h1 : ¬ cmpQ s.v r.v < 0 := of_decide_eq_false h
    conv => whnf
    exact postV_one (by rw [mnR, if_neg h1])
theorem r_rMax (r s : Raw) (hr : r.sm KK) (hs : s.sm KK) : Fn PP f_narrowsref02_Max [rawV r, rawV s] (rawV (mxR r s)) := by
  refine Fn.of TBgood mixed h_narrowsref02_Max rfl rfl (Nat.le_of_ble_eq_true rfl) ?_
  intro w
  conv => whnf
  refine CallVC.fn (r_rCompare s r hs hr) rfl ?_
  conv => whnf
  refine br_split ?_ ?_ <;> intro h
  · have h1 : cmpQ s.v r.v > 0 := of_decide_eq_true h
    conv => whnf
    exact postV_one (by rw [mxR, if_pos h1])
  · have h1 : ¬ cmpQ s.v r.v > 0 := of_decide_eq_false h
    conv => whnf
    exact postV_one (by rw [mxR, if_neg h1])
theorem neqR (r s : Raw) : (!(r.neg == s.neg && ((bs r.num).toList == (bs s.num).toList && ((bs r.den).toList == (bs s.den).toList && true)))) = decide (r ≠ s) := by
  rw [eqR]; by_cases h : r = s <;> simp [h]
theorem r_rCheck (r : Raw) (hr : r.sm KK) : Fn PP f_narrowsref02_Check [rawV r] (checkV r) := by
  refine Fn.of TBgood mixed h_narrowsref02_Check rfl rfl (Nat.le_of_ble_eq_true rfl) ?_
  intro w
  conv => whnf
  refine DrawVC.quiet (by kernel_rfl) ?_
  conv => whnf
  refine CallVCd.fn (r_Normal r hr) rfl ?_
  conv => whnf
  by_cases h : r.ok
  · refine br_false ((neqR (Q r.v) r).trans (decide_eq_false (fun h2 => h2 h.symm))) ?_
    conv => whnf
    exact postV_one (by rw [checkV, if_pos h])
  · refine br_true ((neqR (Q r.v) r).trans (decide_eq_true (fun h2 => h h2.symm))) ?_
    conv => whnf
    exact postV_one (by rw [checkV, if_neg h])
theorem r_vCheck (p : Pt) (hp : p.sm KK) : Fn PP f_narrowsref06_Check [pV p] (.int .i64 (if p.ok then 0 else 1)) := by
  refine Fn.of TBgood mixed h_narrowsref06_Check rfl rfl (Nat.le_of_ble_eq_true rfl) ?_
  intro w
  conv => whnf
  refine CallVC.fn (r_rCheck p.x hp.1) rfl ?_
  by_cases h1 : p.x.ok
  · rw [checkV, if_pos h1]
    conv => whnf
    refine CallVC.fn (r_rCheck p.y hp.2) rfl ?_
    by_cases h2 : p.y.ok
    · rw [checkV, if_pos h2]
      conv => whnf
      exact postV_one (by rw [if_pos (show p.ok from ⟨h1, h2⟩)])
    · rw [checkV, if_neg h2]
      conv => whnf
      exact postV_one (by rw [if_neg (show ¬ p.ok from fun h => h2 h.2)])
  · rw [checkV, if_neg h1]
    conv => whnf
    exact postV_one (by rw [if_neg (show ¬ p.ok from fun h => h1 h.1)])
theorem r_vCompare (p q : Pt) (hp : p.sm KK) (hq : q.sm KK) : Fn PP f_narrowsref06_Compare [pV p, pV q] (.int .i64 (cmpV p.v q.v)) := by
  refine Fn.of TBgood mixed h_narrowsref06_Compare rfl rfl (Nat.le_of_ble_eq_true rfl) ?_
  intro w
  conv => whnf
  refine CallVC.fn (r_rCompare p.x q.x hp.1 hq.1) rfl ?_
  conv => whnf
  refine br_split ?_ ?_
  · intro h
    have h1 : cmpQ p.x.v q.x.v ≠ 0 := by intro h2; rw [h2] at h; exact absurd h (by decide)
    conv => whnf
    refine postV_one ?_
    rw [cmpV, if_pos (show cmpQ p.v.x q.v.x ≠ 0 from h1)]; rfl
  · intro h
    have h1 : cmpQ p.x.v q.x.v = 0 := by simpa using h
    conv => whnf
    refine CallVC.fn (r_rCompare p.y q.y hp.2 hq.2) rfl ?_
    conv => whnf
    refine postV_one ?_
    rw [cmpV, if_neg (show ¬ cmpQ p.v.x q.v.x ≠ 0 from fun h => h h1)]; rfl
theorem r_vAdd (p q : Pt) (hp : p.sm KK) (hq : q.sm KK) : Fn PP f_narrowsref06_Add [pV p, pV q] (pV (PQ (p.v + q.v))) := by
  refine Fn.of TBgood mixed h_narrowsref06_Add rfl rfl (Nat.le_of_ble_eq_true rfl) ?_
  intro w
  conv => whnf
  refine DrawVC.quiet (by kernel_rfl) ?_
  conv => whnf
  refine CallVCd.fn (r_rAdd p.x q.x hp.1 hq.1) rfl ?_
  conv => whnf
  refine CallVCd.fn (r_rAdd p.y q.y hp.2 hq.2) rfl ?_
  conv => whnf
  exact postV_one rfl
theorem r_vSub (p q : Pt) (hp : p.sm KK) (hq : q.sm KK) : Fn PP f_narrowsref06_Sub [pV p, pV q] (pV (PQ (p.v - q.v))) := by
  refine Fn.of TBgood mixed h_narrowsref06_Sub rfl rfl (Nat.le_of_ble_eq_true rfl) ?_
  intro w
  conv => whnf
  refine DrawVC.quiet (by kernel_rfl) ?_
  conv => whnf
  refine CallVCd.fn (r_rSub p.x q.x hp.1 hq.1) rfl ?_
  conv => whnf
  refine CallVCd.fn (r_rSub p.y q.y hp.2 hq.2) rfl ?_
  conv => whnf
  exact postV_one rfl
theorem r_vScale (p : Pt) (t : Raw) (hp : p.sm KK) (ht : t.sm KK) : Fn PP f_narrowsref06_Scale [pV p, rawV t] (pV (PQ (p.v.scale t.v))) := by
  refine Fn.of TBgood mixed h_narrowsref06_Scale rfl rfl (Nat.le_of_ble_eq_true rfl) ?_
  intro w
  conv => whnf
  refine DrawVC.quiet (by kernel_rfl) ?_
  conv => whnf
  refine CallVCd.fn (r_rMul p.x t hp.1 ht) rfl ?_
  conv => whnf
  refine CallVCd.fn (r_rMul p.y t hp.2 ht) rfl ?_
  conv => whnf
  exact postV_one rfl
theorem r_vDot (p q : Pt) (hp : p.sm (10 * KV)) (hq : q.sm (10 * KV)) : Fn PP f_narrowsref06_Dot [pV p, pV q] (qV (p.v.dot q.v)) := by
  have zp := hp.sz (by decide)
  have zq := hq.sz (by decide)
  refine Fn.of TBgood mixed h_narrowsref06_Dot rfl rfl (Nat.le_of_ble_eq_true rfl) ?_
  intro w
  conv => whnf
  refine DrawVC.quiet (by kernel_rfl) ?_
  conv => whnf
  refine CallVCd.fn (r_rMul p.x q.x (hp.1.le (by decide)) (hq.1.le (by decide))) rfl ?_
  conv => whnf
  refine CallVCd.fn (r_rMul p.y q.y (hp.2.le (by decide)) (hq.2.le (by decide))) rfl ?_
  conv => whnf
  refine CallVCd.fn (r_rAdd (Q (p.x.v * q.x.v)) (Q (p.y.v * q.y.v)) ((zp.1.mul zq.1).q.le (by decide)) ((zp.2.mul zq.2).q.le (by decide))) rfl ?_
  conv => whnf
  refine postV_one ?_
  rw [Q_v, Q_v]; rfl
theorem r_vCross (p q : Pt) (hp : p.sm (10 * KV)) (hq : q.sm (10 * KV)) : Fn PP f_narrowsref06_Cross [pV p, pV q] (qV (p.v.cross q.v)) := by
  have zp := hp.sz (by decide)
  have zq := hq.sz (by decide)
  refine Fn.of TBgood mixed h_narrowsref06_Cross rfl rfl (Nat.le_of_ble_eq_true rfl) ?_
  intro w
  conv => whnf
  refine DrawVC.quiet (by kernel_rfl) ?_
  conv => whnf
  refine CallVCd.fn (r_rMul p.x q.y (hp.1.le (by decide)) (hq.2.le (by decide))) rfl ?_
  conv => whnf
  refine CallVCd.fn (r_rMul p.y q.x (hp.2.le (by decide)) (hq.1.le (by decide))) rfl ?_
  conv => whnf
  refine CallVCd.fn (r_rSub (Q (p.x.v * q.y.v)) (Q (p.y.v * q.x.v)) ((zp.1.mul zq.2).q.le (by decide)) ((zp.2.mul zq.1).q.le (by decide))) rfl ?_
  conv => whnf
  refine postV_one ?_
  rw [Q_v, Q_v]; rfl
theorem r_vAt (p q : Pt) (t : Raw) (hp : p.sm (10 * KV)) (hq : q.sm (10 * KV)) (ht : t.sm (30 * KV)) : Fn PP f_narrowsref06_At [pV p, pV q, rawV t] (pV (PQ (p.v.at q.v t.v))) := by
  have zp := hp.sz (by decide)
  have zq := hq.sz (by decide)
  have zt := Raw.sz (r := t) (k := 30 * KV) (by decide) ht.1 ht.2
  refine Fn.of TBgood mixed h_narrowsref06_At rfl rfl (Nat.le_of_ble_eq_true rfl) ?_
  intro w
  conv => whnf
  refine DrawVC.quiet (by kernel_rfl) ?_
  conv => whnf
  refine CallVCd.fn (r_vSub q p (hq.le (by decide)) (hp.le (by decide))) rfl ?_
  conv => whnf
  refine CallVCd.fn (r_vScale (PQ (q.v - p.v)) t ((zq.sub zp).q.le (by decide)) (ht.le (by decide))) rfl ?_
  rw [PQ_v]
  conv => whnf
  refine CallVCd.fn (r_vAdd p (PQ ((q.v - p.v).scale t.v)) (hp.le (by decide)) (((zq.sub zp).scale zt).q.le (by decide))) rfl ?_
  rw [PQ_v]
  conv => whnf
  exact postV_one rfl
theorem r_vDistance (p q : Pt) (hp : p.sm (4 * KV)) (hq : q.sm (4 * KV)) : Fn PP f_narrowsref06_Distance [pV p, pV q] (qV (p.v.dist q.v)) := by
  have zp := hp.sz (by decide)
  have zq := hq.sz (by decide)
  refine Fn.of TBgood mixed h_narrowsref06_Distance rfl rfl (Nat.le_of_ble_eq_true rfl) ?_
  intro w
  conv => whnf
  refine CallVC.fn (r_vSub p q (hp.le (by decide)) (hq.le (by decide))) rfl ?_
  conv => whnf
  refine CallVC.fn (r_vDot (PQ (p.v - q.v)) (PQ (p.v - q.v)) ((zp.sub zq).q.le (by decide)) ((zp.sub zq).q.le (by decide))) rfl ?_
  rw [PQ_v]
  conv => whnf
  exact postV_one rfl
theorem r_Orient (a b c : Pt) (ha : a.sm (4 * KV)) (hb : b.sm (4 * KV)) (hc : c.sm (4 * KV)) : Fn PP f_narrowsref07_Orient [pV a, pV b, pV c] (.int .i64 (cmpQ ((b.v - a.v).cross (c.v - a.v)) 0)) := by
  have za := ha.sz (by decide)
  have zb := hb.sz (by decide)
  have zc := hc.sz (by decide)
  refine Fn.of TBgood mixed h_narrowsref07_Orient rfl rfl (Nat.le_of_ble_eq_true rfl) ?_
  intro w
  conv => whnf
  refine DrawVC.quiet (by kernel_rfl) ?_
  conv => whnf
  refine CallVCd.fn (r_vSub b a (hb.le (by decide)) (ha.le (by decide))) rfl ?_
  conv => whnf
  refine CallVCd.fn (r_vSub c a (hc.le (by decide)) (ha.le (by decide))) rfl ?_
  conv => whnf
  refine CallVCd.fn (r_vCross (PQ (b.v - a.v)) (PQ (c.v - a.v)) ((zb.sub za).q.le (by decide)) ((zc.sub za).q.le (by decide))) rfl ?_
  rw [PQ_v, PQ_v]
  conv => whnf
  refine CallVCd.fn (r_rSign (Q ((b.v - a.v).cross (c.v - a.v))) (((zb.sub za).cross (zc.sub za)).q.le (by decide))) rfl ?_
  rw [Q_v]
  conv => whnf
  exact postV_one rfl
theorem r_sCanonical (p : Pt) (hp : p.sm KK) : Fn PP f_narrowsref08_canonical [pV p] (pV (PQ p.v)) := by
  refine Fn.of TBgood mixed h_narrowsref08_canonical rfl rfl (Nat.le_of_ble_eq_true rfl) ?_
  intro w
  conv => whnf
  refine CallVC.fn (r_vAdd p P0 hp (P0_sm _)) rfl ?_
  conv => whnf
  refine postV_one ?_
  rw [P0_v, V.add_zero]
theorem r_sCheck (s : Sg) (hs : s.sm KS) : Fn PP f_narrowsref08_Check [sV s] (.int .i64 (segChk s)) := by
  refine Fn.of TBgood mixed h_narrowsref08_Check rfl rfl (Nat.le_of_ble_eq_true rfl) ?_
  intro w
  conv => whnf
  refine CallVC.fn (r_vCompare s.A s.B (hs.1.le (by decide)) (hs.2.le (by decide))) rfl ?_
  conv => whnf
  refine br_split ?_ ?_
  · intro h
    have h1 : degen s := by have : cmpV s.A.v s.B.v = 0 := by simpa using h
                            exact this
    conv => whnf
    refine postV_one ?_
    rw [segChk, if_pos h1]
  · intro h
    have h1 : ¬ degen s := by have : ¬ cmpV s.A.v s.B.v = 0 := by simpa using h
                              exact this
    conv => whnf
    refine postV_one ?_
    rw [segChk, if_neg h1]
theorem r_greater (p q : Pt) (hp : p.sm KK) (hq : q.sm KK) : Fn PP f_narrowsref08_greater [pV p, pV q] (pV (gtP p q)) := by
  refine Fn.of TBgood mixed h_narrowsref08_greater rfl rfl (Nat.le_of_ble_eq_true rfl) ?_
  intro w
  conv => whnf
  refine CallVC.fn (r_vCompare p q hp hq) rfl ?_
  conv => whnf
  refine br_split ?_ ?_ <;> intro h
  · conv => whnf
    exact postV_one (by rw [gtP, if_pos (of_decide_eq_true h)])
  · conv => whnf
    exact postV_one (by rw [gtP, if_neg (of_decide_eq_false h)])
theorem r_lesser (p q : Pt) (hp : p.sm KK) (hq : q.sm KK) : Fn PP f_narrowsref08_lesser [pV p, pV q] (pV (ltP p q)) := by
  refine Fn.of TBgood mixed h_narrowsref08_lesser rfl rfl (Nat.le_of_ble_eq_true rfl) ?_
  intro w
  conv => whnf
  refine CallVC.fn (r_vCompare p q hp hq) rfl ?_
  conv => whnf
  refine br_split ?_ ?_ <;> intro h
  · conv => whnf
    exact postV_one (by rw [ltP, if_pos (of_decide_eq_true h)])
  · conv => whnf
    exact postV_one (by rw [ltP, if_neg (of_decide_eq_false h)])
theorem r_Order (s : Sg) (hs : s.sm KV) : Fn PP f_narrowsref08_Order [sV s] (sV ⟨PQ (ordV s.A.v s.B.v).1, PQ (ordV s.A.v s.B.v).2⟩) := by
  have za := hs.1.sz (by decide)
  have zb := hs.2.sz (by decide)
  refine Fn.of TBgood mixed h_narrowsref08_Order rfl rfl (Nat.le_of_ble_eq_true rfl) ?_
  intro w
  conv => whnf
  refine CallVC.fn (r_vCompare s.A s.B (hs.1.le (by decide)) (hs.2.le (by decide))) rfl ?_
  conv => whnf
  refine br_split ?_ ?_ <;> intro h
  · have h1 : cmpV s.A.v s.B.v > 0 := of_decide_eq_true h
    conv => whnf
    refine DrawVC.quiet (by kernel_rfl) ?_
    conv => whnf
    refine CallVCd.fn (r_sCanonical s.B (hs.2.le (by decide))) rfl ?_
    conv => whnf
    refine CallVCd.fn (r_sCanonical s.A (hs.1.le (by decide))) rfl ?_
    conv => whnf
    exact postV_one (by rw [ordV, if_pos h1])
  · have h1 : ¬ cmpV s.A.v s.B.v > 0 := of_decide_eq_false h
    conv => whnf
    refine DrawVC.quiet (by kernel_rfl) ?_
    conv => whnf
    refine CallVCd.fn (r_sCanonical s.A (hs.1.le (by decide))) rfl ?_
    conv => whnf
    refine CallVCd.fn (r_sCanonical s.B (hs.2.le (by decide))) rfl ?_
    conv => whnf
    exact postV_one (by rw [ordV, if_neg h1])
end Go.Sx
end
section
set_option linter.unusedVariables false
set_option linter.unusedSimpArgs false
namespace Go.Sx
/-! ### the reference's way to common points -/
def betw2 (a b p : V) : Bool := decide (cmpV a p ≤ 0) && decide (cmpV p b ≤ 0)
def meetO (a b c d : V) : Option (V × V) :=
  if cmpQ ((b - a).cross (d - c)) 0 = 0 then
    if cmpQ ((b - a).cross (c - a)) 0 ≠ 0 then none
    else if cmpV (gtV a c) (ltV b d) > 0 then none else some (gtV a c, ltV b d)
  else if !betw2 a b (a.at b ((c - a).cross (d - c) / (b - a).cross (d - c))) || !betw2 c d (a.at b ((c - a).cross (d - c) / (b - a).cross (d - c))) then none
  else some (a.at b ((c - a).cross (d - c) / (b - a).cross (d - c)), a.at b ((c - a).cross (d - c) / (b - a).cross (d - c)))
def meetR (a b c d : V) : Option (V × V) := meetO (ordV a b).1 (ordV a b).2 (ordV c d).1 (ordV c d).2
theorem at_inj {a b : V} (hab : a ≠ b) {t s : Rat} (h : a.at b t = a.at b s) : t = s := by
  have hx : a.x + (b.x - a.x) * t = a.x + (b.x - a.x) * s := congrArg V.x h
  have hy : a.y + (b.y - a.y) * t = a.y + (b.y - a.y) * s := congrArg V.y h
  have h1 : (b.x - a.x) * (t - s) = 0 := by grind
  have h2 : (b.y - a.y) * (t - s) = 0 := by grind
  rcases Rat.mul_eq_zero.1 h1 with h3 | h3
  · rcases Rat.mul_eq_zero.1 h2 with h4 | h4
    · exact absurd (V.ext' (by grind) (by grind)) hab
    · grind
  · grind
theorem unit_betw {a b : V} (hab : a ≠ b) (hle : leP2 a b) (t : Rat) : unitB t = betw2 a b (a.at b t) := by
  rw [Bool.eq_iff_iff, unitB_iff]
  unfold betw2
  rw [Bool.and_eq_true, decide_eq_true_eq, decide_eq_true_eq, cmpV_le, cmpV_le]
  constructor
  · rintro ⟨h0, h1⟩; exact at_le h0 h1 hle
  · rintro ⟨h0, h1⟩
    have hc : (b - a).cross (a.at b t - a) = 0 := by
      rw [cross_at]
      show (b.x - a.x) * (a.y - a.y) - (b.y - a.y) * (a.x - a.x) = 0
      grind
    obtain ⟨s, hs, e⟩ := le_at hab hc h0 h1
    rw [at_inj hab e]; exact hs
theorem ord_of_le {a b : V} (h : leP2 a b) : ordV a b = (a, b) := by
  unfold ordV; rw [if_neg (fun k => h (cmpV_gt.1 k))]
theorem meetO_eq {a b c d : V} (hab : a ≠ b) (hcd : c ≠ d) (h1 : leP2 a b) (h2 : leP2 c d) : meetO a b c d = meetV a b c d := by
  unfold meetO meetV
  rw [ord_of_le h1, ord_of_le h2]
  by_cases h : cmpQ ((b - a).cross (d - c)) 0 = 0
  · have hh : ¬ (cmpQ ((b - a).cross (d - c)) 0 ≠ 0) := fun k => k h
    rw [if_pos h, if_neg hh]
  · rw [if_neg h, if_pos h]
    have hx : (b - a).cross (d - c) ≠ 0 := fun e => h (cmpQ_eq.2 e)
    have e := (cramer hx _ _).2 ⟨rfl, rfl⟩
    rw [unit_betw hab h1, unit_betw hcd h2 ((c - a).cross (b - a) / (b - a).cross (d - c)), ← e]
theorem ord_ne {a b : V} (h : a ≠ b) : (ordV a b).1 ≠ (ordV a b).2 := by
  unfold ordV; split
  · exact fun e => h e.symm
  · exact h
theorem meet_ord {a b c d : V} (hab : a ≠ b) (hcd : c ≠ d) : meetV (ordV a b).1 (ordV a b).2 (ordV c d).1 (ordV c d).2 = meetV a b c d := by
  obtain ⟨s1, n1⟩ := meet_pts (ord_ne hab) (ord_ne hcd)
  obtain ⟨s2, n2⟩ := meet_pts hab hcd
  obtain ⟨_, o1, _⟩ := ord_le a b
  obtain ⟨_, o2, _⟩ := ord_le c d
  cases h1 : meetV (ordV a b).1 (ordV a b).2 (ordV c d).1 (ordV c d).2 with
  | none =>
    cases h2 : meetV a b c d with
    | none => rfl
    | some y =>
      obtain ⟨k1, k2, _⟩ := s2 y h2
      exact (n1 h1 _ ((o1 _).2 k1) ((o2 _).2 k2)).elim
  | some x =>
    obtain ⟨k1, k2, k3, k4, k5, k6⟩ := s1 x h1
    rw [o1] at k1 k3
    rw [o2] at k2 k4
    cases h2 : meetV a b c d with
    | none => exact (n2 h2 _ k1 k2).elim
    | some y =>
      obtain ⟨l1, l2, l3, l4, l5, l6⟩ := s2 y h2
      have e1 := leP2_anti (k6 _ ((o1 _).2 l1) ((o2 _).2 l2)).1 (l6 _ k1 k2).1
      have e2 := leP2_anti (l6 _ k3 k4).2 (k6 _ ((o1 _).2 l3) ((o2 _).2 l4)).2
      rw [show x = y from Prod.ext e1 e2]
theorem meetR_eq {a b c d : V} (hab : a ≠ b) (hcd : c ≠ d) : meetR a b c d = meetV a b c d := by
  rw [meetR, meetO_eq (ord_ne hab) (ord_ne hcd) (ord_le a b).1 (ord_le c d).1, meet_ord hab hcd]
/-- The nearest point, the reference's way. -/
def nearR (a b p : V) : V := if cmpQ (parV a b p) 0 < 0 then a else if cmpQ (parV a b p) 1 > 0 then b else a.at b (parV a b p)
theorem nearR_eq (a b p : V) : nearR a b p = nearV a b p := by
  unfold nearR nearV
  rcases cmpQ_val (parV a b p) 0 with ⟨h, k⟩ | ⟨h, k⟩ | ⟨h, k⟩
  · rw [h, if_pos (by decide), if_pos (by decide)]
  · rw [k]
    rw [show cmpQ 0 0 = 0 by decide +kernel, show cmpQ 0 1 = -1 by decide +kernel, if_neg (by decide), if_neg (by decide), if_pos (by decide), V.at_zero]
  · have a1 : ¬ cmpQ (parV a b p) 0 < 0 := by rw [h]; decide
    have a2 : ¬ cmpQ (parV a b p) 0 ≤ 0 := by rw [h]; decide
    rw [if_neg a1, if_neg a2]
    rcases cmpQ_val (parV a b p) 1 with ⟨h2, k2⟩ | ⟨h2, k2⟩ | ⟨h2, k2⟩
    · have b1 : ¬ cmpQ (parV a b p) 1 > 0 := by rw [h2]; decide
      have b2 : ¬ 0 ≤ cmpQ (parV a b p) 1 := by rw [h2]; decide
      rw [if_neg b1, if_neg b2]
    · have b1 : ¬ cmpQ (parV a b p) 1 > 0 := by rw [h2]; decide
      have b2 : 0 ≤ cmpQ (parV a b p) 1 := by rw [h2]; decide
      rw [if_neg b1, if_pos b2, k2, V.at_one]
    · have b1 : cmpQ (parV a b p) 1 > 0 := by rw [h2]; decide
      have b2 : 0 ≤ cmpQ (parV a b p) 1 := by rw [h2]; decide
      rw [if_pos b1, if_pos b2]
end Go.Sx
end
section
set_option maxRecDepth 10000
set_option maxHeartbeats 2000000
set_option linter.unusedSimpArgs false
set_option linter.unusedVariables false
set_option pp.deepTerms false
set_option pp.deepTerms.threshold 6
namespace Go.Sx
open Go Go.Proofs
theorem r_between (s : Sg) (p : Pt) (hs : s.sm KK) (hp : p.sm KK) : Fn PP f_narrowsref08_between [sV s, pV p] (.bool (betw2 s.A.v s.B.v p.v)) := by
  refine Fn.of TBgood mixed h_narrowsref08_between rfl rfl (Nat.le_of_ble_eq_true rfl) ?_
  intro w
  conv => whnf
  refine CallVC.fn (r_vCompare s.A p hs.1 hp) rfl ?_
  conv => whnf
  refine br_split ?_ ?_ <;> intro h
  · have h1 : cmpV s.A.v p.v ≤ 0 := of_decide_eq_true h
    conv => whnf
    refine CallVC.fn (r_vCompare p s.B hp hs.2) rfl ?_
    conv => whnf
    refine postV_one ?_
    rw [betw2, decide_eq_true h1]; rfl
  · have h1 : ¬ cmpV s.A.v p.v ≤ 0 := of_decide_eq_false h
    conv => whnf
    refine postV_one ?_
    rw [betw2, decide_eq_false h1]; rfl
theorem nearR_sz {k : Nat} {a b p : V} (ha : SzV k a) (hb : SzV k b) (hp : SzV k p) : SzV (19 * k + 13) (nearR a b p) := by rw [nearR_eq]; exact near_sz ha hb hp
theorem degen_iff {s : Sg} : degen s ↔ s.A.v = s.B.v := cmpV_zero
theorem r_Nearest (s : Sg) (p : Pt) (hs : s.sm KS) (hp : p.sm KS) : Fn PP f_narrowsref08_Nearest [sV s, pV p] (if degen s then .tuple #[pV P0, .int .i64 12] else .tuple #[pV (PQ (nearR s.A.v s.B.v p.v)), .int .i64 0]) := by
  have za := hs.1.sz (by decide)
  have zb := hs.2.sz (by decide)
  have zp := hp.sz (by decide)
  have zd := zb.sub za
  have ze := zp.sub za
  have zt := par_sz za zb zp
  refine Fn.of TBgood mixed h_narrowsref08_Nearest rfl rfl (Nat.le_of_ble_eq_true rfl) ?_
  intro w
  conv => whnf
  refine CallVC.fn (r_sCheck s hs) rfl ?_
  by_cases hd : degen s
  · rw [segChk, if_pos hd, if_pos hd]
    conv => whnf
    exact postV_two rfl
  · rw [segChk, if_neg hd, if_neg hd]
    have hne : s.A.v ≠ s.B.v := fun e => hd (degen_iff.2 e)
    have h0 : (s.B.v - s.A.v).dot (s.B.v - s.A.v) ≠ 0 := fun e => by have := dd_pos hne; rw [e] at this; exact Rat.lt_irrefl this
    conv => whnf
    refine CallVC.fn (r_vSub s.B s.A (hs.2.le (by decide)) (hs.1.le (by decide))) rfl ?_
    conv => whnf
    refine DrawVC.late [(14, 7, [12])] (by kernel_rfl) ?_
    conv => whnf
    refine CallVCd.fn (r_vSub p s.A (hp.le (by decide)) (hs.1.le (by decide))) rfl ?_
    conv => whnf
    refine CallVCd.fn (r_vDot (PQ (p.v - s.A.v)) (PQ (s.B.v - s.A.v)) (ze.q.le (by decide)) (zd.q.le (by decide))) rfl ?_
    rw [PQ_v, PQ_v]
    conv => whnf
    refine CallVCd.fn (r_vDot (PQ (s.B.v - s.A.v)) (PQ (s.B.v - s.A.v)) (zd.q.le (by decide)) (zd.q.le (by decide))) rfl ?_
    rw [PQ_v]
    conv => whnf
    refine CallVCd.fn (r_rQuo (Q ((p.v - s.A.v).dot (s.B.v - s.A.v))) (Q ((s.B.v - s.A.v).dot (s.B.v - s.A.v))) ((ze.dot zd).q.le (by decide)) ((zd.dot zd).q.le (by decide))) rfl ?_
    rw [Q_v, Q_v, quoV, if_neg h0, show (p.v - s.A.v).dot (s.B.v - s.A.v) / (s.B.v - s.A.v).dot (s.B.v - s.A.v) = parV s.A.v s.B.v p.v from rfl]
    obtain ⟨t, ht⟩ : ∃ t, t = parV s.A.v s.B.v p.v := ⟨_, rfl⟩
    rw [← ht] at zt ⊢
    have hts : (Q t).sm KK := zt.q.le (by decide)
    conv => whnf
    refine CallVC.fn (r_rSign (Q t) hts) rfl ?_
    rw [Q_v]
    conv => whnf
    refine br_split ?_ ?_ <;> intro h
    · have h1 : cmpQ t 0 < 0 := of_decide_eq_true h
      conv => whnf
      refine CallVC.fn (r_sCanonical s.A (hs.1.le (by decide))) rfl ?_
      conv => whnf
      refine postV_two ?_
      rw [nearR, ← ht, if_pos h1]
    · have h1 : ¬ cmpQ t 0 < 0 := of_decide_eq_false h
      conv => whnf
      refine DrawVC.quiet (by kernel_rfl) ?_
      conv => whnf
      refine CallVCd.fn (r_rOf 1 (by decide) (by decide)) rfl ?_
      rw [one_eq]
      conv => whnf
      refine CallVCd.fn (r_rCompare (Q t) (Q 1) hts Q1_sm) rfl ?_
      rw [Q_v, Q_v]
      conv => whnf
      refine br_split ?_ ?_ <;> intro h
      · have h2 : cmpQ t 1 > 0 := of_decide_eq_true h
        conv => whnf
        refine CallVC.fn (r_sCanonical s.B (hs.2.le (by decide))) rfl ?_
        conv => whnf
        refine postV_two ?_
        rw [nearR, ← ht, if_neg h1, if_pos h2]
      · have h2 : ¬ cmpQ t 1 > 0 := of_decide_eq_false h
        conv => whnf
        refine CallVC.fn (r_vAt s.A s.B (Q t) (hs.1.le (by decide)) (hs.2.le (by decide)) (zt.q.le (by decide))) rfl ?_
        rw [Q_v]
        conv => whnf
        refine postV_two ?_
        rw [nearR, ← ht, if_neg h1, if_neg h2]
end Go.Sx
end
section
set_option maxRecDepth 10000
set_option maxHeartbeats 2000000
set_option linter.unusedSimpArgs false
set_option linter.unusedVariables false
set_option pp.deepTerms false
set_option pp.deepTerms.threshold 6
namespace Go.Sx
open Go Go.Proofs
theorem r_Meet (s t : Sg) (hs : s.sm KS) (ht : t.sm KS) : Fn PP f_narrowsref08_Meet [sV s, sV t] (MeetV s t) := by
  have za := hs.1.sz (by decide)
  have zb := hs.2.sz (by decide)
  have zc := ht.1.sz (by decide)
  have zd := ht.2.sz (by decide)
  have zo := ord_sz za zb
  have zp := ord_sz zc zd
  refine Fn.of TBgood mixed h_narrowsref08_Meet rfl rfl (Nat.le_of_ble_eq_true rfl) ?_
  intro w
  conv => whnf
  refine CallVC.fn (r_sCheck s hs) rfl ?_
  by_cases d1 : degen s
  · rw [segChk, if_pos d1, MeetV, if_pos (.inl d1)]
    conv => whnf
    exact postV_three rfl
  rw [segChk, if_neg d1]
  conv => whnf
  refine CallVC.fn (r_sCheck t ht) rfl ?_
  by_cases d2 : degen t
  · rw [segChk, if_pos d2, MeetV, if_pos (.inr d2)]
    conv => whnf
    exact postV_three rfl
  rw [segChk, if_neg d2, MeetV, if_neg (fun h => h.elim d1 d2), ← meetR_eq (fun e => d1 (degen_iff.2 e)) (fun e => d2 (degen_iff.2 e)), meetR]
  conv => whnf
  refine DrawVC.quiet (by kernel_rfl) ?_
  conv => whnf
  refine CallVCd.fn (r_Order s (hs.le (by decide))) rfl ?_
  conv => whnf
  refine CallVCd.fn (r_Order t (ht.le (by decide))) rfl ?_
  obtain ⟨a, ha⟩ : ∃ a, a = (ordV s.A.v s.B.v).1 := ⟨_, rfl⟩
  obtain ⟨b, hb⟩ : ∃ b, b = (ordV s.A.v s.B.v).2 := ⟨_, rfl⟩
  obtain ⟨c, hc⟩ : ∃ c, c = (ordV t.A.v t.B.v).1 := ⟨_, rfl⟩
  obtain ⟨d, hd⟩ : ∃ d, d = (ordV t.A.v t.B.v).2 := ⟨_, rfl⟩
  rw [← ha, ← hb] at zo ⊢
  rw [← hc, ← hd] at zp ⊢
  obtain ⟨za, zb⟩ := zo
  obtain ⟨zc, zd⟩ := zp
  have zu := zb.sub za
  have zv := zd.sub zc
  have zw := zc.sub za
  have zx := (zu.cross zv)
  conv => whnf
  refine DrawVC.quiet (by kernel_rfl) ?_
  conv => whnf
  refine CallVCd.fn (r_vSub (PQ b) (PQ a) (zb.q.le (by decide)) (za.q.le (by decide))) rfl ?_
  rw [PQ_v, PQ_v]
  conv => whnf
  refine CallVCd.fn (r_vSub (PQ d) (PQ c) (zd.q.le (by decide)) (zc.q.le (by decide))) rfl ?_
  rw [PQ_v, PQ_v]
  conv => whnf
  refine CallVC.fn (r_vCross (PQ (b - a)) (PQ (d - c)) (zu.q.le (by decide)) (zv.q.le (by decide))) rfl ?_
  rw [PQ_v, PQ_v]
  conv => whnf
  refine CallVC.fn (r_rSign (Q ((b - a).cross (d - c))) (zx.q.le (by decide))) rfl ?_
  rw [Q_v]
  conv => whnf
  refine br_split ?_ ?_ <;> intro h
  · have h1 : cmpQ ((b - a).cross (d - c)) 0 = 0 := by simpa using h
    conv => whnf
    refine CallVC.fn (r_Orient (PQ a) (PQ b) (PQ c) (za.q.le (by decide)) (zb.q.le (by decide)) (zc.q.le (by decide))) rfl ?_
    rw [PQ_v, PQ_v, PQ_v]
    conv => whnf
    refine br_split ?_ ?_ <;> intro h
    · have h2 : cmpQ ((b - a).cross (c - a)) 0 ≠ 0 := by simpa using h
      conv => whnf
      refine postV_three ?_
      rw [meetO, if_pos h1, if_pos h2]; rfl
    · have h2 : ¬ cmpQ ((b - a).cross (c - a)) 0 ≠ 0 := by simpa using h
      conv => whnf
      refine DrawVC.quiet (by kernel_rfl) ?_
      conv => whnf
      refine CallVCd.fn (r_greater (PQ a) (PQ c) (za.q.le (by decide)) (zc.q.le (by decide))) rfl ?_
      rw [gtP_Q]
      conv => whnf
      refine CallVCd.fn (r_lesser (PQ b) (PQ d) (zb.q.le (by decide)) (zd.q.le (by decide))) rfl ?_
      rw [ltP_Q]
      conv => whnf
      refine CallVC.fn (r_vCompare (PQ (gtV a c)) (PQ (ltV b d)) ((gt_sz za zc).q.le (by decide)) ((lt_sz zb zd).q.le (by decide))) rfl ?_
      rw [PQ_v, PQ_v]
      conv => whnf
      refine br_split ?_ ?_ <;> intro h
      · have h3 : cmpV (gtV a c) (ltV b d) > 0 := of_decide_eq_true h
        conv => whnf
        refine postV_three ?_
        rw [meetO, if_pos h1, if_neg h2, if_pos h3]; rfl
      · have h3 : ¬ cmpV (gtV a c) (ltV b d) > 0 := of_decide_eq_false h
        conv => whnf
        refine postV_three ?_
        rw [meetO, if_pos h1, if_neg h2, if_neg h3]; rfl
  · have h1 : ¬ cmpQ ((b - a).cross (d - c)) 0 = 0 := by simpa using h
    have h2 : (b - a).cross (d - c) ≠ 0 := fun e => h1 (cmpQ_eq.2 e)
    have zt := (zw.cross zv).div zx
    conv => whnf
    refine DrawVC.late [(13, 12, [11])] (by kernel_rfl) ?_
    conv => whnf
    refine CallVCd.fn (r_vSub (PQ c) (PQ a) (zc.q.le (by decide)) (za.q.le (by decide))) rfl ?_
    rw [PQ_v, PQ_v]
    conv => whnf
    refine CallVCd.fn (r_vCross (PQ (c - a)) (PQ (d - c)) (zw.q.le (by decide)) (zv.q.le (by decide))) rfl ?_
    rw [PQ_v, PQ_v]
    conv => whnf
    refine CallVCd.fn (r_rQuo (Q ((c - a).cross (d - c))) (Q ((b - a).cross (d - c))) ((zw.cross zv).q.le (by decide)) (zx.q.le (by decide))) rfl ?_
    rw [Q_v, Q_v, quoV, if_neg h2]
    obtain ⟨T, hT⟩ : ∃ T, T = (c - a).cross (d - c) / (b - a).cross (d - c) := ⟨_, rfl⟩
    rw [← hT] at zt ⊢
    conv => whnf
    refine DrawVC.quiet (by kernel_rfl) ?_
    conv => whnf
    refine CallVCd.fn (r_vScale (PQ (b - a)) (Q T) (zu.q.le (by decide)) (zt.q.le (by decide))) rfl ?_
    rw [PQ_v, Q_v]
    conv => whnf
    refine CallVCd.fn (r_vAdd (PQ a) (PQ ((b - a).scale T)) (za.q.le (by decide)) ((zu.scale zt).q.le (by decide))) rfl ?_
    rw [PQ_v, PQ_v, show a + (b - a).scale T = a.at b T from rfl]
    have zm := za.at zb zt
    obtain ⟨p, hp⟩ : ∃ p, p = a.at b T := ⟨_, rfl⟩
    rw [← hp] at zm ⊢
    have hO : meetO a b c d = if !betw2 a b p || !betw2 c d p then none else some (p, p) := by
      rw [meetO, if_neg h1, ← hT, ← hp]
    rw [hO]
    conv => whnf
    refine CallVC.fn (r_between ⟨PQ a, PQ b⟩ (PQ p) ⟨za.q.le (by decide), zb.q.le (by decide)⟩ (zm.q.le (by decide))) rfl ?_
    rw [show betw2 (Sg.mk (PQ a) (PQ b)).A.v (Sg.mk (PQ a) (PQ b)).B.v (PQ p).v = betw2 a b p by simp only [PQ_v]]
    cases e1 : betw2 a b p with
    | false =>
      conv => whnf
      exact postV_three rfl
    | true =>
      conv => whnf
      refine CallVC.fn (r_between ⟨PQ c, PQ d⟩ (PQ p) ⟨zc.q.le (by decide), zd.q.le (by decide)⟩ (zm.q.le (by decide))) rfl ?_
      rw [show betw2 (Sg.mk (PQ c) (PQ d)).A.v (Sg.mk (PQ c) (PQ d)).B.v (PQ p).v = betw2 c d p by simp only [PQ_v]]
      cases e2 : betw2 c d p with
      | false =>
        conv => whnf
        exact postV_three rfl
      | true =>
        conv => whnf
        exact postV_three rfl
end Go.Sx
end
section
set_option maxRecDepth 10000
set_option maxHeartbeats 2000000
set_option linter.unusedSimpArgs false
set_option linter.unusedVariables false
set_option pp.deepTerms false
set_option pp.deepTerms.threshold 6
namespace Go.Sx
open Go Go.Proofs
theorem eqP (p q : Pt) : (p.x.neg == q.x.neg && ((bs p.x.num).toList == (bs q.x.num).toList && ((bs p.x.den).toList == (bs q.x.den).toList && (p.y.neg == q.y.neg && ((bs p.y.num).toList == (bs q.y.num).toList && ((bs p.y.den).toList == (bs q.y.den).toList && true)))))) = decide (p = q) := by
  have h2 := eqR p.y q.y
  have h1 := eqR p.x q.x
  rw [h2]
  rw [Bool.eq_iff_iff] at h1 ⊢
  simp only [Bool.and_eq_true, decide_eq_true_eq] at h1 ⊢
  constructor
  · rintro ⟨a, b, c, d⟩
    have := h1.1 ⟨a, b, c, trivial⟩
    cases p; cases q; simp_all
  · rintro rfl
    obtain ⟨a, b, c, _⟩ := h1.2 rfl
    exact ⟨a, b, c, rfl⟩
theorem endsL_all (f : Pt → Bool) : ∀ L : List (Pt × Pt), (endsL L).all f = L.all (fun e => f e.1 && f e.2)
  | [] => rfl
  | e :: L => by
    rw [show endsL (e :: L) = [e.1, e.2] ++ endsL L from rfl, List.all_append, endsL_all f L, List.all_cons]
    simp [Bool.and_assoc]
theorem r_dcheck (A B : Option Addr) (c d : Nat) (ps : List Pt) (L : List (Pt × Pt)) (hps : ps.length ≤ 1000) (hL : L.length ≤ 1000) (hsp : Lsm KS ps) (hsL : ∀ e ∈ L, e.1.sm KS ∧ e.2.sm KS) :
    FnM PP f_narrowsref26_check [.slice A ps.length c, .slice B L.length d] (facts [SlRes A (rowV ptC ps), SlRes B (rowV sgC L)]) (retsV (.int .i64 (dchk ps L))) := by
  refine FnS.of TBgood mixed h_narrowsref26_check rfl rfl (Nat.le_of_ble_eq_true rfl) (by simp [SlRes.ok]) ?_
  intro w hw
  have hA : 0 < ps.length → A.isSome = true := fun h => slres_some (facts_two hw).1 (by rw [rowV_length ptC_len]; omega)
  have hB : 0 < L.length → ∃ b o, B = some ⟨b, o, none⟩ := fun h => by
    obtain ⟨a, rfl⟩ := Option.isSome_iff_exists.1 (some_len B (facts_two hw).2 h)
    obtain ⟨b, o, rfl⟩ := slf_addr (facts_two hw).2 (by intro h2; have := congrArg List.length h2; rw [rowV_length sgC_len] at this; simp at this; omega)
    exact ⟨b, o, rfl⟩
  obtain ⟨n, hn⟩ : ∃ n, n = ps.length := ⟨_, rfl⟩
  obtain ⟨m, hm⟩ : ∃ m, m = L.length := ⟨_, rfl⟩
  rw [← hn] at hps hA ⊢
  rw [← hm] at hL hB ⊢
  have hD : dchk ps L = if (ps.all (fun p => decide p.ok) && L.all (fun e => decide e.1.ok && decide e.2.ok)) = false then 1 else if L.any (fun e => decide (degen (sgE e))) = true then 12 else 0 := by
    rw [dchk, allP, List.all_append, endsL_all]
  rw [hD]
  conv => whnf
  refine sexec_loop (ι := Nat) (fun j => ⟨[(0, .o (.v (.slice A n c))), (1, .o (.v (.slice B m d))), (4, .o (.v (.int .i64 0))), (5, .o (.v (.int .i64 j)))], [], [SlRes A (rowV ptC ps), SlRes B (rowV sgC L)]⟩)
    (fun j => j ≤ n ∧ ps.all (fun p => decide p.ok) = (ps.drop j).all (fun p => decide p.ok)) (fun j => n - j) 0 ⟨Nat.zero_le _, by rw [List.drop_zero]⟩
    (SLe.id ⟨rfl, rfl, rfl, rfl, trivial⟩ trivial (fun R hR => hR)) ?_
  rintro j ⟨hj, hall⟩
  conv => whnf
  refine br_split ?_ ?_
  · intro h
    have hj2 : j < n := by
      have : (j : Int) < (n : Int) := of_decide_eq_true h
      omega
    conv => whnf
    refine ⟨⟨by omega, by omega, hA (by omega)⟩, ?_⟩
    conv => whnf
    obtain ⟨p, hp⟩ : ∃ p, ps[j]? = some p := ⟨_, List.getElem?_eq_getElem (by omega)⟩
    refine LoadVC.elem (A := A) (xs := ps) (j := (j : Int)) ptC ptC_len (List.mem_cons_self ..) rfl (by rw [Int.toNat_natCast]; omega) (by decide) (fun h => by cases h) ?_
    intro p' hp'
    obtain rfl := elem_eq hp' hp
    conv => whnf
    refine CallVC.fn (r_vCheck p' ((hsp p' (List.mem_of_getElem? hp)).le (by decide))) rfl ?_
    rw [drop_cons hp, List.all_cons] at hall
    by_cases hok : p'.ok
    · rw [if_pos hok]
      rw [decide_eq_true hok, Bool.true_and] at hall
      conv => whnf
      exact ⟨j + 1, ⟨by omega, hall⟩, by omega, SLe.id ⟨rfl, rfl, rfl, some_wrap hj2 (by omega), trivial⟩ trivial (fun R hR => hR)⟩
    · rw [if_neg hok]
      rw [decide_eq_false hok, Bool.false_and] at hall
      conv => whnf
      refine postV_one ?_
      rw [if_pos (by rw [hall]; rfl)]
  intro h
  have hj2 : j = n := by
    have : ¬ (j : Int) < (n : Int) := of_decide_eq_false h
    omega
  rw [hj2, List.drop_of_length_le (by omega), List.all_nil] at hall
  rw [hall, Bool.true_and]
  conv => whnf
  refine sexec_loop (ι := Nat) (fun j => ⟨[(1, .o (.v (.slice B m d))), (4, .o (.v (.int .i64 0))), (6, .o (.v (.int .i64 j)))], [], [SlRes A (rowV ptC ps), SlRes B (rowV sgC L)]⟩)
    (fun j => j ≤ m ∧ L.all (fun e => decide e.1.ok && decide e.2.ok) = (L.drop j).all (fun e => decide e.1.ok && decide e.2.ok)) (fun j => m - j) 0 ⟨Nat.zero_le _, by rw [List.drop_zero]⟩
    (SLe.id ⟨rfl, rfl, rfl, trivial⟩ trivial (fun R hR => hR)) ?_
  rintro j ⟨hj, hall⟩
  conv => whnf
  refine br_split ?_ ?_
  · intro h
    have hj2 : j < m := by
      have : (j : Int) < (m : Int) := of_decide_eq_true h
      omega
    obtain ⟨e, he⟩ : ∃ e, L[j]? = some e := ⟨_, List.getElem?_eq_getElem (by omega)⟩
    have hes := hsL e (List.mem_of_getElem? he)
    rw [drop_cons he, List.all_cons] at hall
    obtain ⟨b, o, rfl⟩ := hB (by omega)
    have hadd : Option.map (fun a : Addr => a.add ((j : Int).toNat * ty27.size)) (some ⟨b, o, none⟩) = some ⟨b, o + j * 12, none⟩ := by
      show some ((⟨b, o, none⟩ : Addr).add ((j : Int).toNat * 12)) = _
      rw [Int.toNat_natCast, Addr.add_lit]
    have hfl : ∀ z, (some ⟨b, o + j * 12 + z, none⟩ : Option Addr) = (some (⟨b, o, none⟩ : Addr)).map (fun a => a.add (j * 12 + z)) := fun z => by
      rw [Option.map_some, Addr.add_lit, Nat.add_assoc]
    conv => whnf
    refine ⟨⟨by omega, by omega, rfl⟩, ?_⟩
    rw [hadd]
    conv => whnf
    refine LoadVC.fld (o := 0) sgC sgC_len (List.mem_cons_of_mem _ (List.mem_singleton.2 rfl)) he (hfl 0) (by decide) (by decide) (fun h => by cases h) ?_
    conv => whnf
    refine CallVC.fn (r_vCheck e.1 (hes.1.le (by decide))) rfl ?_
    by_cases h1 : e.1.ok
    · rw [if_pos h1]
      conv => whnf
      refine ⟨⟨by omega, by omega, rfl⟩, ?_⟩
      rw [hadd]
      conv => whnf
      refine LoadVC.fld (o := 6) sgC sgC_len (List.mem_cons_of_mem _ (List.mem_singleton.2 rfl)) he (hfl 6) (by decide) (by decide) (fun h => by cases h) ?_
      conv => whnf
      refine CallVC.fn (r_vCheck e.2 (hes.2.le (by decide))) rfl ?_
      by_cases h2 : e.2.ok
      · rw [if_pos h2]
        rw [decide_eq_true h1, decide_eq_true h2, Bool.true_and, Bool.true_and] at hall
        conv => whnf
        exact ⟨j + 1, ⟨by omega, hall⟩, by omega, SLe.id ⟨rfl, rfl, some_wrap hj2 (by omega), trivial⟩ trivial (fun R hR => hR)⟩
      · rw [if_neg h2]
        rw [decide_eq_false h2, Bool.and_false, Bool.false_and] at hall
        conv => whnf
        refine postV_one ?_
        rw [if_pos hall]
    · rw [if_neg h1]
      rw [decide_eq_false h1, Bool.false_and, Bool.false_and] at hall
      conv => whnf
      refine postV_one ?_
      rw [if_pos hall]
  intro h
  have hj2 : j = m := by
    have : ¬ (j : Int) < (m : Int) := of_decide_eq_false h
    omega
  rw [hj2, List.drop_of_length_le (by omega), List.all_nil] at hall
  rw [if_neg (by rw [hall]; decide)]
  conv => whnf
  refine sexec_loop (ι := Nat) (fun j => ⟨[(1, .o (.v (.slice B m d))), (4, .o (.v (.int .i64 0))), (7, .o (.v (.int .i64 j)))], [], [SlRes A (rowV ptC ps), SlRes B (rowV sgC L)]⟩)
    (fun j => j ≤ m ∧ L.any (fun e => decide (degen (sgE e))) = (L.drop j).any (fun e => decide (degen (sgE e)))) (fun j => m - j) 0 ⟨Nat.zero_le _, by rw [List.drop_zero]⟩
    (SLe.id ⟨rfl, rfl, rfl, trivial⟩ trivial (fun R hR => hR)) ?_
  rintro j ⟨hj, hany⟩
  conv => whnf
  refine br_split ?_ ?_
  · intro h
    have hj2 : j < m := by
      have : (j : Int) < (m : Int) := of_decide_eq_true h
      omega
    obtain ⟨e, he⟩ : ∃ e, L[j]? = some e := ⟨_, List.getElem?_eq_getElem (by omega)⟩
    have heo : e.1.ok ∧ e.2.ok := by
      have := List.all_eq_true.1 hall e (List.mem_of_getElem? he)
      simpa using this
    have hdg : degen (sgE e) ↔ e.1 = e.2 := by
      rw [degen_iff]
      constructor
      · intro h; rw [Pt.ok_eq heo.1, Pt.ok_eq heo.2]; exact congrArg PQ h
      · intro h; exact congrArg Pt.v h
    rw [drop_cons he, List.any_cons] at hany
    obtain ⟨b, o, rfl⟩ := hB (by omega)
    have hadd : Option.map (fun a : Addr => a.add ((j : Int).toNat * ty27.size)) (some ⟨b, o, none⟩) = some ⟨b, o + j * 12, none⟩ := by
      show some ((⟨b, o, none⟩ : Addr).add ((j : Int).toNat * 12)) = _
      rw [Int.toNat_natCast, Addr.add_lit]
    have hfl : ∀ z, (some ⟨b, o + j * 12 + z, none⟩ : Option Addr) = (some (⟨b, o, none⟩ : Addr)).map (fun a => a.add (j * 12 + z)) := fun z => by
      rw [Option.map_some, Addr.add_lit, Nat.add_assoc]
    conv => whnf
    refine DrawVC.quiet (by kernel_rfl) ?_
    conv => whnf
    refine ⟨⟨by omega, by omega, rfl⟩, ?_⟩
    rw [hadd]
    conv => whnf
    refine LoadVC.fld (o := 0) sgC sgC_len (List.mem_cons_of_mem _ (List.mem_singleton.2 rfl)) he (hfl 0) (by decide) (by decide) (fun h => by cases h) ?_
    conv => whnf
    refine ⟨⟨by omega, by omega, rfl⟩, ?_⟩
    rw [hadd]
    conv => whnf
    refine LoadVC.fld (o := 6) sgC sgC_len (List.mem_cons_of_mem _ (List.mem_singleton.2 rfl)) he (hfl 6) (by decide) (by decide) (fun h => by cases h) ?_
    conv => whnf
    by_cases h1 : e.1 = e.2
    · refine br_true ((eqP e.1 e.2).trans (decide_eq_true h1)) ?_
      rw [decide_eq_true (hdg.2 h1), Bool.true_or] at hany
      conv => whnf
      refine postV_one ?_
      rw [if_pos hany]
    · refine br_false ((eqP e.1 e.2).trans (decide_eq_false h1)) ?_
      rw [decide_eq_false (fun h => h1 (hdg.1 h)), Bool.false_or] at hany
      conv => whnf
      exact ⟨j + 1, ⟨by omega, hany⟩, by omega, SLe.id ⟨rfl, rfl, some_wrap hj2 (by omega), trivial⟩ trivial (fun R hR => hR)⟩
  · intro h
    have hj2 : j = m := by
      have : ¬ (j : Int) < (m : Int) := of_decide_eq_false h
      omega
    rw [hj2, List.drop_of_length_le (by omega), List.any_nil] at hany
    rw [if_neg (by rw [hany]; decide)]
    conv => whnf
    exact postV_one rfl
end Go.Sx
end
section
set_option linter.unusedVariables false
set_option linter.unusedSimpArgs false
namespace Go.Sx
/-! ### the reference's distances -/
def absQ (x : Rat) : Rat := if x < 0 then -x else x
def mxQ (a b : Rat) : Rat := if cmpQ b a > 0 then b else a
def mnQ (a b : Rat) : Rat := if cmpQ b a < 0 then b else a
theorem mnQ_le {a b m : Rat} : m ≤ mnQ a b ↔ m ≤ a ∧ m ≤ b := by
  unfold mnQ
  by_cases h : cmpQ b a < 0
  · rw [if_pos h]; have := cmpQ_lt.1 h; grind
  · rw [if_neg h]; have : ¬ b < a := fun k => h (cmpQ_lt.2 k); grind
theorem mn4 (a b c d : Rat) : mnQ (mnQ a b) (mnQ c d) = extQ (-1) a [b, c, d] := by
  have key : ∀ m, m ≤ mnQ (mnQ a b) (mnQ c d) ↔ m ≤ extQ (-1) a [b, c, d] := fun m => by
    rw [mnQ_le, mnQ_le, mnQ_le, ext4_le]; grind
  exact Rat.le_antisymm ((key _).1 Rat.le_refl) ((key _).2 Rat.le_refl)
theorem sqR_eq (p q : V) : mxQ (absQ (p - q).x) (absQ (p - q).y) = p.sq q := by
  obtain ⟨⟨h1, h2⟩, h3, h4⟩ := sq_ge p q
  refine Rat.le_antisymm ?_ (sq_le.2 ?_)
  · simp only [V.sub_x, V.sub_y]
    unfold mxQ absQ
    split <;> split <;> grind
  · simp only [V.sub_x, V.sub_y]
    unfold mxQ
    by_cases h : cmpQ (absQ (p.y - q.y)) (absQ (p.x - q.x)) > 0
    · rw [if_pos h]
      have := cmpQ_gt.1 h
      unfold absQ at this ⊢
      grind
    · rw [if_neg h]
      have : ¬ absQ (p.x - q.x) < absQ (p.y - q.y) := fun k => h (cmpQ_gt.2 k)
      unfold absQ at this ⊢
      grind
def stepM (g : Rat → Rat) (m t : Rat) : Rat := mnQ m (g t)
theorem fold_min (g : Rat → Rat) : ∀ (l : List Rat) (m : Rat), (l.foldl (stepM g) m ≤ m ∧ ∀ t ∈ l, l.foldl (stepM g) m ≤ g t) ∧ (l.foldl (stepM g) m = m ∨ ∃ t ∈ l, l.foldl (stepM g) m = g t)
  | [], m => ⟨⟨Rat.le_refl, fun t h => absurd h List.not_mem_nil⟩, .inl rfl⟩
  | x :: l, m => by
    obtain ⟨⟨h1, h2⟩, h3⟩ := fold_min g l (stepM g m x)
    rw [List.foldl_cons]
    have h4 := mnQ_le.1 (show mnQ m (g x) ≤ mnQ m (g x) from Rat.le_refl)
    refine ⟨⟨Rat.le_trans h1 h4.1, fun t ht => ?_⟩, ?_⟩
    · rcases List.mem_cons.1 ht with rfl | ht
      · exact Rat.le_trans h1 h4.2
      · exact h2 t ht
    · rcases h3 with h | ⟨t, ht, h⟩
      · rw [h]
        unfold stepM mnQ
        split
        · exact .inr ⟨x, List.mem_cons_self .., rfl⟩
        · exact .inl rfl
      · exact .inr ⟨t, List.mem_cons_of_mem _ ht, h⟩
def sqRef (A B p : V) : Rat := ((partPs A B p).filterMap partOf).foldl (stepM fun t => (A.at B t).sq p) (mnQ (A.sq p) (B.sq p))
theorem sqRef_eq (A B p : V) : sqRef A B p = sqPt A B p := by
  obtain ⟨⟨h1, h2⟩, h3⟩ := fold_min (fun t => (A.at B t).sq p) ((partPs A B p).filterMap partOf) (mnQ (A.sq p) (B.sq p))
  have h4 := mnQ_le.1 h1
  refine Rat.le_antisymm ?_ ?_
  · obtain ⟨t, ⟨t0, t1⟩, e⟩ := sqPt_at A B p
    obtain ⟨c, hc, hle⟩ := parts_min (A := A) (B := B) (p := p) t0 t1
    rw [e]
    refine Rat.le_trans ?_ hle
    unfold partsL at hc
    rcases List.mem_cons.1 hc with rfl | hc
    · rw [V.at_zero]; exact h4.1
    rcases List.mem_cons.1 hc with rfl | hc
    · rw [V.at_one]; exact h4.2
    · exact h2 c hc
  · have hA : sqPt A B p ≤ A.sq p := by have := sqPt_le (A := A) (B := B) (p := p) (t := 0) (by grind) (by grind); rwa [V.at_zero] at this
    have hB : sqPt A B p ≤ B.sq p := by have := sqPt_le (A := A) (B := B) (p := p) (t := 1) (by grind) (by grind); rwa [V.at_one] at this
    rcases h3 with h | ⟨t, ht, h⟩
    · show _ ≤ List.foldl _ _ _
      rw [h]; exact mnQ_le.2 ⟨hA, hB⟩
    · show _ ≤ List.foldl _ _ _
      rw [h]
      have hu := parts_unit (A := A) (B := B) (p := p) (c := t) (by unfold partsL; exact List.mem_cons_of_mem _ (List.mem_cons_of_mem _ ht))
      exact sqPt_le hu.1 hu.2
theorem euRef_eq (a b p : V) : (nearR a b p).dist p = euPt a b p := by rw [nearR_eq, V.dist_comm]; rfl
def segR (D : V → V → V → Rat) (a b c d : V) : Rat := if (meetV a b c d).isSome = true then 0 else mnQ (mnQ (D a b c) (D a b d)) (mnQ (D c d a) (D c d b))
theorem segR_eq (D : V → V → V → Rat) (a b c d : V) : segR D a b c d = segD D a b c d := by unfold segR segD; rw [mn4]
end Go.Sx
end
