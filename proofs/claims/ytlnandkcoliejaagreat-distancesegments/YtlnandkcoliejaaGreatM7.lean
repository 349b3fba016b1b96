/- The law DistanceSegments of the program answers true for every input, and its arguments read as before. No conditions. -/
import Derived.Test.YtlnandkcoliejaaGreatM6
import Derived.Test.YtlnandkcoliejaaGreatM5
import Derived.ProofKit
import Derived.OpenShut
import Derived.Carry
import Derived.ChangeArms
import Derived.Deep.Slices
import Derived.Test.YtlnandkcoliejaaGreatRows
import Derived.WalkKit
import Derived.ShutString
import Derived.ChangeOld
import Derived.Below
import Derived.Handed
set_option linter.unusedVariables false
set_option linter.unusedSimpArgs false
section
set_option maxRecDepth 10000
set_option maxHeartbeats 2000000
set_option linter.unusedSimpArgs false
set_option linter.unusedVariables false
set_option pp.deepTerms false
set_option pp.deepTerms.threshold 6
namespace Go.Sx
open Go Go.Proofs
theorem mnR_Q (a b : Rat) : mnR (Q a) (Q b) = Q (mnQ a b) := by unfold mnR mnQ; rw [Q_v, Q_v]; split <;> rfl
theorem mxR_Q (a b : Rat) : mxR (Q a) (Q b) = Q (mxQ a b) := by unfold mxR mxQ; rw [Q_v, Q_v]; split <;> rfl
theorem absR_Q (x : Rat) : Raw.v ⟨false, (Q x).num, (Q x).den⟩ = absQ x := by
  unfold absQ
  by_cases h : x < 0
  · have h2 := Raw.opp_v (Q x)
    have h3 : (Q x).opp = ⟨false, (Q x).num, (Q x).den⟩ := by
      show (⟨!(Q x).neg, _, _⟩ : Raw) = _
      rw [show (Q x).neg = true from decide_eq_true h]; rfl
    rw [h3] at h2
    rw [if_pos h, h2, Q_v]
  · have h3 : (⟨false, (Q x).num, (Q x).den⟩ : Raw) = Q x := by
      have : (Q x).neg = false := decide_eq_false h
      rw [← this]
    rw [if_neg h, h3, Q_v]
theorem absQ_sz {k : Nat} {x : Rat} (h : Sz k x) : Sz k (absQ x) := by
  unfold absQ; split
  · exact h.neg
  · exact h
theorem r_vSquare (p q : Pt) (hp : p.sm KV) (hq : q.sm KV) : Fn PP f_narrowsref06_Square [pV p, pV q] (qV (p.v.sq q.v)) := by
  have zp := hp.sz (by decide)
  have zq := hq.sz (by decide)
  have zd := zp.sub zq
  refine Fn.of TBgood mixed h_narrowsref06_Square rfl rfl (Nat.le_of_ble_eq_true rfl) ?_
  intro w
  conv => whnf
  refine CallVC.fn (r_vSub p q (hp.le (by decide)) (hq.le (by decide))) rfl ?_
  conv => whnf
  refine DrawVC.quiet (by kernel_rfl) ?_
  conv => whnf
  refine CallVCd.fn (r_rAbs (Q (p.v - q.v).x) (zd.1.q.le (by decide))) rfl ?_
  rw [absR_Q]
  conv => whnf
  refine CallVCd.fn (r_rAbs (Q (p.v - q.v).y) (zd.2.q.le (by decide))) rfl ?_
  rw [absR_Q]
  conv => whnf
  refine CallVCd.fn (r_rMax (Q (absQ (p.v - q.v).x)) (Q (absQ (p.v - q.v).y)) ((absQ_sz zd.1).q.le (by decide)) ((absQ_sz zd.2).q.le (by decide))) rfl ?_
  rw [mxR_Q, sqR_eq]
  conv => whnf
  exact postV_one rfl
theorem r_point (s : Sg) (p : Pt) (hs : s.sm KS) (hp : p.sm KS) (hd : ¬ degen s) : Fn PP f_narrowsref26_point [sV s, pV p] (qV (euPt s.A.v s.B.v p.v)) := by
  have zn := nearR_sz (hs.1.sz (by decide)) (hs.2.sz (by decide)) (hp.sz (by decide))
  refine Fn.of TBgood mixed h_narrowsref26_point rfl rfl (Nat.le_of_ble_eq_true rfl) ?_
  intro w
  conv => whnf
  refine CallVC.fn (r_Nearest s p hs hp) rfl ?_
  rw [if_neg hd]
  conv => whnf
  refine CallVC.fn (r_vDistance (PQ (nearR s.A.v s.B.v p.v)) p (zn.q.le (by decide)) (hp.le (by decide))) rfl ?_
  rw [PQ_v, euRef_eq]
  conv => whnf
  exact postV_one rfl
theorem r_square (s : Sg) (p : Pt) (hs : s.sm KS) (hp : p.sm KS) : Fn PP f_narrowsref26_square [sV s, pV p] (qV (sqPt s.A.v s.B.v p.v)) := by
  have za := hs.1.sz (by decide)
  have zb := hs.2.sz (by decide)
  have zp := hp.sz (by decide)
  obtain ⟨U, hU⟩ : ∃ U, U = s.A.v - p.v := ⟨_, rfl⟩
  obtain ⟨W, hW⟩ : ∃ W, W = s.B.v - s.A.v := ⟨_, rfl⟩
  have zU := za.sub zp
  have zW := zb.sub za
  rw [← hU] at zU
  rw [← hW] at zW
  have hmin : ∀ {a b : Rat} {k : Nat}, Sz k a → Sz k b → Sz k (mnQ a b) := fun ha hb => by unfold mnQ; split; exact hb; exact ha
  refine Fn.of TBgood mixed h_narrowsref26_square rfl rfl (Nat.le_of_ble_eq_true rfl) ?_
  intro w
  conv => whnf
  refine DrawVC.quiet (by kernel_rfl) ?_
  conv => whnf
  refine CallVCd.fn (r_vSquare s.A p (hs.1.le (by decide)) (hp.le (by decide))) rfl ?_
  conv => whnf
  refine CallVCd.fn (r_vSquare s.B p (hs.2.le (by decide)) (hp.le (by decide))) rfl ?_
  conv => whnf
  refine CallVCd.fn (r_rMin (Q (s.A.v.sq p.v)) (Q (s.B.v.sq p.v)) ((V.sq_sz za zp).q.le (by decide)) ((V.sq_sz zb zp).q.le (by decide))) rfl ?_
  rw [mnR_Q]
  conv => whnf
  refine DrawVC.quiet (by kernel_rfl) ?_
  conv => whnf
  refine CallVCd.fn (r_vSub s.A p (hs.1.le (by decide)) (hp.le (by decide))) rfl ?_
  rw [← hU]
  conv => whnf
  refine CallVCd.fn (r_vSub s.B s.A (hs.2.le (by decide)) (hs.1.le (by decide))) rfl ?_
  rw [← hW]
  conv => whnf
  refine DrawVC.quiet (by kernel_rfl) ?_
  conv => whnf
  refine CallVCd.fn (r_rSub (Q U.x) (Q U.y) (zU.1.q.le (by decide)) (zU.2.q.le (by decide))) rfl ?_
  rw [Q_v, Q_v]
  conv => whnf
  refine CallVCd.fn (r_rAdd (Q U.x) (Q U.y) (zU.1.q.le (by decide)) (zU.2.q.le (by decide))) rfl ?_
  rw [Q_v, Q_v]
  conv => whnf
  refine DrawVC.quiet (by kernel_rfl) ?_
  conv => whnf
  refine CallVCd.fn (r_rSub (Q W.x) (Q W.y) (zW.1.q.le (by decide)) (zW.2.q.le (by decide))) rfl ?_
  rw [Q_v, Q_v]
  conv => whnf
  refine CallVCd.fn (r_rAdd (Q W.x) (Q W.y) (zW.1.q.le (by decide)) (zW.2.q.le (by decide))) rfl ?_
  rw [Q_v, Q_v]
  conv => whnf
  have hps : ∀ x ∈ partPs s.A.v s.B.v p.v, Sz (10 * KS) x.1 ∧ Sz (10 * KS) x.2 := by
    intro x hx
    unfold partPs at hx
    rw [← hU, ← hW] at hx
    simp only [List.mem_cons, List.not_mem_nil, or_false] at hx
    rcases hx with rfl | rfl | rfl | rfl
    · exact ⟨zU.1.le (by decide), zW.1.le (by decide)⟩
    · exact ⟨zU.2.le (by decide), zW.2.le (by decide)⟩
    · exact ⟨(zU.1.sub zU.2).le (by decide), (zW.1.sub zW.2).le (by decide)⟩
    · exact ⟨(zU.1.add zU.2).le (by decide), (zW.1.add zW.2).le (by decide)⟩
  have hpl : (partPs s.A.v s.B.v p.v).length = 4 := rfl
  have hp1 : [U.x, U.y, U.x - U.y, U.x + U.y] = (partPs s.A.v s.B.v p.v).map (·.1) := by unfold partPs; rw [← hU, ← hW]; rfl
  have hp2 : [W.x, W.y, W.x - W.y, W.x + W.y] = (partPs s.A.v s.B.v p.v).map (·.2) := by unfold partPs; rw [← hU, ← hW]; rfl
  obtain ⟨g, hg⟩ : ∃ g : Rat → Rat, g = fun t => (s.A.v.at s.B.v t).sq p.v := ⟨_, rfl⟩
  have hgoal : sqPt s.A.v s.B.v p.v = ((partPs s.A.v s.B.v p.v).filterMap partOf).foldl (stepM g) (mnQ (s.A.v.sq p.v) (s.B.v.sq p.v)) := by rw [← sqRef_eq, hg]; rfl
  rw [hgoal]
  obtain ⟨PS, hPS⟩ : ∃ PS, PS = partPs s.A.v s.B.v p.v := ⟨_, rfl⟩
  rw [← hPS] at hps hpl hp1 hp2 ⊢
  refine sexec_loop (ι := Nat × Rat) (fun ⟨i, m⟩ => ⟨[(2, .o (.p 2 0)), (3, .o (.p 3 0)), (4, .o (.p 4 0)), (5, .o (.p 5 0)), (8, .o (.s 45 0 4 4)), (9, .o (.s 60 0 4 4)), (10, .o (.v (.int .i64 i)))],
      [(2, sgB s), (3, ptB p), (4, ratM ⟨false, [], []⟩), (5, ratM (Q m)), (45, .sym (rowV ratC ([U.x, U.y, U.x - U.y, U.x + U.y].map Q)) t_api_Rat), (60, .sym (rowV ratC ([W.x, W.y, W.x - W.y, W.x + W.y].map Q)) t_api_Rat)], []⟩)
    (fun ⟨i, m⟩ => i ≤ 4 ∧ (PS.filterMap partOf).foldl (stepM g) (mnQ (s.A.v.sq p.v) (s.B.v.sq p.v)) = ((PS.drop i).filterMap partOf).foldl (stepM g) m ∧ Sz 1000000 m) (fun ⟨i, m⟩ => 4 - i) (0, mnQ (s.A.v.sq p.v) (s.B.v.sq p.v)) ⟨Nat.zero_le _, by rw [List.drop_zero], hmin ((V.sq_sz za zp).le (by decide)) ((V.sq_sz zb zp).le (by decide))⟩
    (SLe.id ⟨rfl, rfl, rfl, rfl, rfl, rfl, rfl, trivial⟩ ⟨⟨_, rfl, .refl _⟩, ⟨_, rfl, .refl _⟩, ⟨_, rfl, .refl _⟩, ⟨_, rfl, .refl _⟩, ⟨_, rfl, .sym _ rfl⟩, ⟨_, rfl, .sym _ rfl⟩, trivial⟩ (fun R hR => hR)) ?_
  rintro ⟨i, m⟩ ⟨hi, hfold, hm⟩
  conv => whnf
  refine br_split ?_ ?_
  · intro h
    have hi2 : i < 4 := by
      have : (i : Int) < (4 : Int) := of_decide_eq_true h
      omega
    obtain ⟨x, hx⟩ : ∃ x, PS[i]? = some x := ⟨_, List.getElem?_eq_getElem (by omega)⟩
    have hxs := hps x (List.mem_of_getElem? hx)
    rw [drop_cons hx, List.filterMap_cons] at hfold
    conv => whnf
    refine DrawVC.late [(14, 11, [12])] (by kernel_rfl) ?_
    conv => whnf
    refine ⟨by show 0 ≤ (i : Int) ∧ (i : Int) < ((4 : Nat) : Int); omega, ?_⟩
    conv => whnf
    refine RowVC.elem ratC ratC_len (k := i) (by show 0 + (i : Int).toNat * 3 = i * 3; rw [Int.toNat_natCast]; omega) (by simp; omega) (by decide) (fun h => by cases h) ?_
    intro r hr
    obtain rfl : r = Q x.1 := by rw [hp1, List.getElem?_map, List.getElem?_map, hx] at hr; exact (Option.some.inj hr).symm
    conv => whnf
    refine CallVCd.fn (r_rNeg (Q x.1) (hxs.1.q.le (by decide))) rfl ?_
    rw [Q_v]
    conv => whnf
    refine ⟨by show 0 ≤ (i : Int) ∧ (i : Int) < ((4 : Nat) : Int); omega, ?_⟩
    conv => whnf
    refine RowVC.elem ratC ratC_len (k := i) (by show 0 + (i : Int).toNat * 3 = i * 3; rw [Int.toNat_natCast]; omega) (by simp; omega) (by decide) (fun h => by cases h) ?_
    intro r hr
    obtain rfl : r = Q x.2 := by rw [hp2, List.getElem?_map, List.getElem?_map, hx] at hr; exact (Option.some.inj hr).symm
    conv => whnf
    refine CallVCd.fn (r_rQuo (Q (-x.1)) (Q x.2) (hxs.1.neg.q.le (by decide)) (hxs.2.q.le (by decide))) rfl ?_
    rw [Q_v, Q_v]
    by_cases h0 : x.2 = 0
    · rw [quoV, if_pos h0]
      rw [show partOf x = none by unfold partOf; rw [if_pos h0]] at hfold
      conv => whnf
      refine DrawVC.quiet (by kernel_rfl) ?_
      conv => whnf
      exact ⟨(i + 1, m), ⟨by omega, hfold, hm⟩, by show 4 - (i + 1) < 4 - i; omega, SLe.id ⟨rfl, rfl, rfl, rfl, rfl, rfl, some_wrap hi2 (by omega), trivial⟩ ⟨⟨_, rfl, .refl _⟩, ⟨_, rfl, .refl _⟩, ⟨_, rfl, .refl _⟩, ⟨_, rfl, .refl _⟩, ⟨_, rfl, .refl _⟩, ⟨_, rfl, .refl _⟩, trivial⟩ (fun R hR => hR)⟩
    · rw [quoV, if_neg h0]
      obtain ⟨t, ht⟩ : ∃ t, t = -x.1 / x.2 := ⟨_, rfl⟩
      have zt := hxs.1.neg.div hxs.2
      rw [← ht] at zt ⊢
      have hpo : partOf x = if cmpQ 0 t ≤ 0 ∧ cmpQ t 1 ≤ 0 then some t else none := by unfold partOf; rw [if_neg h0, ← ht]
      conv => whnf
      refine DrawVC.quiet (by kernel_rfl) ?_
      conv => whnf
      refine CallVCd.fn (r_rSign (Q t) (zt.q.le (by decide))) rfl ?_
      rw [Q_v]
      conv => whnf
      by_cases h1 : 0 ≤ t
      · refine br_true (decide_eq_true (cmpQ_ge.2 h1)) ?_
        conv => whnf
        refine CallVCd.fn (r_rOf 1 (by decide) (by decide)) rfl ?_
        rw [one_eq]
        conv => whnf
        refine CallVCd.fn (r_rCompare (Q t) (Q 1) (zt.q.le (by decide)) Q1_sm) rfl ?_
        rw [Q_v, Q_v]
        conv => whnf
        by_cases h2 : t ≤ 1
        · refine br_true (decide_eq_true (cmpQ_le.2 h2)) ?_
          rw [hpo, if_pos ⟨cmpQ_le.2 h1, cmpQ_le.2 h2⟩] at hfold
          have zm := za.at zb zt
          conv => whnf
          refine DrawVC.quiet (by kernel_rfl) ?_
          conv => whnf
          refine CallVCd.fn (r_vAt s.A s.B (Q t) (hs.1.le (by decide)) (hs.2.le (by decide)) (zt.q.le (by decide))) rfl ?_
          rw [Q_v]
          conv => whnf
          refine CallVCd.fn (r_vSquare (PQ (s.A.v.at s.B.v t)) p (zm.q.le (by decide)) (hp.le (by decide))) rfl ?_
          rw [PQ_v]
          conv => whnf
          refine CallVCd.fn (r_rMin (Q m) (Q ((s.A.v.at s.B.v t).sq p.v)) (hm.q.le (by decide)) ((V.sq_sz zm zp).q.le (by decide))) rfl ?_
          rw [mnR_Q]
          conv => whnf
          exact ⟨(i + 1, mnQ m ((s.A.v.at s.B.v t).sq p.v)), ⟨by omega, by rw [hfold, List.foldl_cons, hg]; rfl, hmin hm ((V.sq_sz zm zp).le (by decide))⟩, by show 4 - (i + 1) < 4 - i; omega, SLe.id ⟨rfl, rfl, rfl, rfl, rfl, rfl, some_wrap hi2 (by omega), trivial⟩ ⟨⟨_, rfl, .refl _⟩, ⟨_, rfl, .refl _⟩, ⟨_, rfl, .refl _⟩, ⟨_, rfl, .refl _⟩, ⟨_, rfl, .refl _⟩, ⟨_, rfl, .refl _⟩, trivial⟩ (fun R hR => hR)⟩
        · refine br_false (decide_eq_false (fun h => h2 (cmpQ_le.1 h))) ?_
          rw [hpo, if_neg (fun h => h2 (cmpQ_le.1 h.2))] at hfold
          conv => whnf
          exact ⟨(i + 1, m), ⟨by omega, hfold, hm⟩, by show 4 - (i + 1) < 4 - i; omega, SLe.id ⟨rfl, rfl, rfl, rfl, rfl, rfl, some_wrap hi2 (by omega), trivial⟩ ⟨⟨_, rfl, .refl _⟩, ⟨_, rfl, .refl _⟩, ⟨_, rfl, .refl _⟩, ⟨_, rfl, .refl _⟩, ⟨_, rfl, .refl _⟩, ⟨_, rfl, .refl _⟩, trivial⟩ (fun R hR => hR)⟩
      · refine br_false (decide_eq_false (fun h => h1 (cmpQ_ge.1 h))) ?_
        rw [hpo, if_neg (fun h => h1 (cmpQ_le.1 h.1))] at hfold
        conv => whnf
        exact ⟨(i + 1, m), ⟨by omega, hfold, hm⟩, by show 4 - (i + 1) < 4 - i; omega, SLe.id ⟨rfl, rfl, rfl, rfl, rfl, rfl, some_wrap hi2 (by omega), trivial⟩ ⟨⟨_, rfl, .refl _⟩, ⟨_, rfl, .refl _⟩, ⟨_, rfl, .refl _⟩, ⟨_, rfl, .refl _⟩, ⟨_, rfl, .refl _⟩, ⟨_, rfl, .refl _⟩, trivial⟩ (fun R hR => hR)⟩
  · intro h
    have hi2 : i = 4 := by
      have : ¬ (i : Int) < (4 : Int) := of_decide_eq_false h
      omega
    rw [hi2, List.drop_of_length_le (by omega)] at hfold
    rw [hfold]
    conv => whnf
    exact postV_one rfl
end Go.Sx
end
section
set_option maxRecDepth 10000
set_option maxHeartbeats 2000000
set_option linter.unusedSimpArgs false
set_option linter.unusedVariables false
set_option pp.deepTerms false
set_option pp.deepTerms.threshold 6
namespace Go.Sx
open Go Go.Proofs
theorem r_dcheck1 (s : Sg) (p : Pt) (hs : s.sm KS) (hp : p.sm KS) (A B : Option Addr) (c d : Nat) :
    FnM PP f_narrowsref26_check [.slice A 1 c, .slice B 1 d] (facts [SlRes A (rowV ptC [p]), SlRes B (rowV sgC [sgP s])]) (retsV (.int .i64 (dchk [p] [sgP s]))) :=
  r_dcheck A B c d [p] [sgP s] (by simp) (by simp) (fun x hx => by rw [List.mem_singleton.1 hx]; exact hp) (fun e he => by rw [List.mem_singleton.1 he]; exact hs)
theorem r_dcheck2 (s t : Sg) (hs : s.sm KS) (ht : t.sm KS) (B : Option Addr) (d : Nat) :
    FnM PP f_narrowsref26_check [.slice none 0 0, .slice B 2 d] (facts [SlRes B (rowV sgC [sgP s, sgP t])]) (retsV (.int .i64 (dchk [] [sgP s, sgP t]))) :=
  (r_dcheck none B 0 d [] [sgP s, sgP t] (by simp) (by simp) (fun x hx => by cases hx) (fun e he => by
    simp only [List.mem_cons, List.not_mem_nil, or_false] at he
    rcases he with rfl | rfl
    · exact hs
    · exact ht)).weak (fun w hw R hR => by
    rcases List.mem_cons.1 hR with rfl | hR
    · exact .inl rfl
    · exact hw R hR)
theorem r_dPoint (s : Sg) (p : Pt) (hs : s.sm KS) (hp : p.sm KS) : Fn PP f_narrowsref26_Point [sV s, pV p] (rerV (dPt euPt s p)) := by
  refine Fn.of TBgood mixed h_narrowsref26_Point rfl rfl (Nat.le_of_ble_eq_true rfl) ?_
  intro w
  conv => whnf
  refine CallVC.v (r_dcheck1 s p hs hp none none 1 1).enters (CallV.sl2 (x := .o (.s 8 0 1 1)) (y := .o (.s 10 0 1 1)) (fun z y => [z, y]) (RdA.box rfl (Nat.le_refl _)) (RdA.box rfl (Nat.le_refl _)) (List.mem_cons_self ..) (List.mem_cons_of_mem _ (List.mem_cons_self ..)) (fun _ => rfl) (fun A c B d hc hd => r_dcheck1 s p hs hp A B c d)) ?_
  unfold dPt
  generalize hk : dchk [p] [sgP s] = k
  conv => whnf
  refine br_split ?_ ?_
  · intro hb
    have h1 : k ≠ 0 := by intro h0; rw [h0] at hb; exact absurd hb (by decide)
    rw [if_pos h1]
    conv => whnf
    refine postV_two ?_
    rw [rerV, qV, rawV0]
  · intro hb
    have h1 : k = 0 := by simpa using hb
    rw [if_neg (by rw [h1]; decide)]
    obtain ⟨_, _, _, hd⟩ := dchk1_ok (hk.trans h1)
    conv => whnf
    refine CallVC.fn (r_point s p hs hp hd) rfl ?_
    conv => whnf
    exact postV_two rfl
theorem r_dSquarePoint (s : Sg) (p : Pt) (hs : s.sm KS) (hp : p.sm KS) : Fn PP f_narrowsref26_SquarePoint [sV s, pV p] (rerV (dPt sqPt s p)) := by
  refine Fn.of TBgood mixed h_narrowsref26_SquarePoint rfl rfl (Nat.le_of_ble_eq_true rfl) ?_
  intro w
  conv => whnf
  refine CallVC.v (r_dcheck1 s p hs hp none none 1 1).enters (CallV.sl2 (x := .o (.s 8 0 1 1)) (y := .o (.s 10 0 1 1)) (fun z y => [z, y]) (RdA.box rfl (Nat.le_refl _)) (RdA.box rfl (Nat.le_refl _)) (List.mem_cons_self ..) (List.mem_cons_of_mem _ (List.mem_cons_self ..)) (fun _ => rfl) (fun A c B d hc hd => r_dcheck1 s p hs hp A B c d)) ?_
  unfold dPt
  generalize hk : dchk [p] [sgP s] = k
  conv => whnf
  refine br_split ?_ ?_
  · intro hb
    have h1 : k ≠ 0 := by intro h0; rw [h0] at hb; exact absurd hb (by decide)
    rw [if_pos h1]
    conv => whnf
    refine postV_two ?_
    rw [rerV, qV, rawV0]
  · intro hb
    have h1 : k = 0 := by simpa using hb
    rw [if_neg (by rw [h1]; decide)]
    obtain ⟨_, _, _, hd⟩ := dchk1_ok (hk.trans h1)
    conv => whnf
    refine CallVC.fn (r_square s p hs hp) rfl ?_
    conv => whnf
    exact postV_two rfl
theorem r_dSegments (s t : Sg) (hs : s.sm KS) (ht : t.sm KS) : Fn PP f_narrowsref26_Segments [sV s, sV t] (rerV (dSg euPt s t)) := by
  have za := hs.1.sz (by decide)
  have zb := hs.2.sz (by decide)
  have zc := ht.1.sz (by decide)
  have zd := ht.2.sz (by decide)
  have hmin : ∀ {a b : Rat} {k : Nat}, Sz k a → Sz k b → Sz k (mnQ a b) := fun ha hb => by unfold mnQ; split; exact hb; exact ha
  refine Fn.of TBgood mixed h_narrowsref26_Segments rfl rfl (Nat.le_of_ble_eq_true rfl) ?_
  intro w
  conv => whnf
  refine CallVC.v (r_dcheck2 s t hs ht none 2).enters (CallV.sl1 (x := .o (.s 12 0 2 2)) (fun z => [.slice none 0 0, z]) (RdA.box rfl (Nat.le_refl _)) (List.mem_cons_of_mem _ (List.mem_cons_self ..)) (fun _ => rfl) (fun B d hd => r_dcheck2 s t hs ht B d)) ?_
  unfold dSg
  generalize hk : dchk [] [sgP s, sgP t] = k
  conv => whnf
  refine br_split ?_ ?_
  · intro hb
    have h1 : k ≠ 0 := by intro h0; rw [h0] at hb; exact absurd hb (by decide)
    rw [if_pos h1]
    conv => whnf
    refine postV_two ?_
    rw [rerV, qV, rawV0]
  · intro hb
    have h1 : k = 0 := by simpa using hb
    rw [if_neg (by rw [h1]; decide)]
    obtain ⟨⟨_, _, hds⟩, _, _, hdt⟩ := dchk2_ok (hk.trans h1)
    conv => whnf
    refine CallVC.fn (r_Meet s t hs ht) rfl ?_
    rw [MeetV, if_neg (fun h => h.elim hds hdt), ← segR_eq]
    unfold segR
    cases hm : (meetV s.A.v s.B.v t.A.v t.B.v).isSome with
    | true =>
      rw [if_pos rfl]
      conv => whnf
      exact postV_two (by rw [rerV, qV, rawV0])
    | false =>
    rw [if_neg (by decide)]
    conv => whnf
    refine DrawVC.quiet (by kernel_rfl) ?_
    conv => whnf
    refine CallVCd.fn (r_point s t.A hs ht.1 hds) rfl ?_
    conv => whnf
    refine CallVCd.fn (r_point s t.B hs ht.2 hds) rfl ?_
    conv => whnf
    refine CallVCd.fn (r_rMin (Q (euPt s.A.v s.B.v t.A.v)) (Q (euPt s.A.v s.B.v t.B.v)) ((euPt_sz za zb zc).q.le (by decide)) ((euPt_sz za zb zd).q.le (by decide))) rfl ?_
    rw [mnR_Q]
    conv => whnf
    refine CallVCd.fn (r_point t s.A ht hs.1 hdt) rfl ?_
    conv => whnf
    refine CallVCd.fn (r_point t s.B ht hs.2 hdt) rfl ?_
    conv => whnf
    refine CallVCd.fn (r_rMin (Q (euPt t.A.v t.B.v s.A.v)) (Q (euPt t.A.v t.B.v s.B.v)) ((euPt_sz zc zd za).q.le (by decide)) ((euPt_sz zc zd zb).q.le (by decide))) rfl ?_
    rw [mnR_Q]
    conv => whnf
    refine CallVCd.fn (r_rMin (Q (mnQ (euPt s.A.v s.B.v t.A.v) (euPt s.A.v s.B.v t.B.v))) (Q (mnQ (euPt t.A.v t.B.v s.A.v) (euPt t.A.v t.B.v s.B.v))) ((hmin (euPt_sz za zb zc) (euPt_sz za zb zd)).q.le (by decide)) ((hmin (euPt_sz zc zd za) (euPt_sz zc zd zb)).q.le (by decide))) rfl ?_
    rw [mnR_Q]
    conv => whnf
    exact postV_two rfl
theorem r_dSquareSegments (s t : Sg) (hs : s.sm KS) (ht : t.sm KS) : Fn PP f_narrowsref26_SquareSegments [sV s, sV t] (rerV (dSg sqPt s t)) := by
  have za := hs.1.sz (by decide)
  have zb := hs.2.sz (by decide)
  have zc := ht.1.sz (by decide)
  have zd := ht.2.sz (by decide)
  have hmin : ∀ {a b : Rat} {k : Nat}, Sz k a → Sz k b → Sz k (mnQ a b) := fun ha hb => by unfold mnQ; split; exact hb; exact ha
  refine Fn.of TBgood mixed h_narrowsref26_SquareSegments rfl rfl (Nat.le_of_ble_eq_true rfl) ?_
  intro w
  conv => whnf
  refine CallVC.v (r_dcheck2 s t hs ht none 2).enters (CallV.sl1 (x := .o (.s 12 0 2 2)) (fun z => [.slice none 0 0, z]) (RdA.box rfl (Nat.le_refl _)) (List.mem_cons_of_mem _ (List.mem_cons_self ..)) (fun _ => rfl) (fun B d hd => r_dcheck2 s t hs ht B d)) ?_
  unfold dSg
  generalize hk : dchk [] [sgP s, sgP t] = k
  conv => whnf
  refine br_split ?_ ?_
  · intro hb
    have h1 : k ≠ 0 := by intro h0; rw [h0] at hb; exact absurd hb (by decide)
    rw [if_pos h1]
    conv => whnf
    refine postV_two ?_
    rw [rerV, qV, rawV0]
  · intro hb
    have h1 : k = 0 := by simpa using hb
    rw [if_neg (by rw [h1]; decide)]
    obtain ⟨⟨_, _, hds⟩, _, _, hdt⟩ := dchk2_ok (hk.trans h1)
    conv => whnf
    refine CallVC.fn (r_Meet s t hs ht) rfl ?_
    rw [MeetV, if_neg (fun h => h.elim hds hdt), ← segR_eq]
    unfold segR
    cases hm : (meetV s.A.v s.B.v t.A.v t.B.v).isSome with
    | true =>
      rw [if_pos rfl]
      conv => whnf
      exact postV_two (by rw [rerV, qV, rawV0])
    | false =>
    rw [if_neg (by decide)]
    conv => whnf
    refine DrawVC.quiet (by kernel_rfl) ?_
    conv => whnf
    refine CallVCd.fn (r_square s t.A hs ht.1) rfl ?_
    conv => whnf
    refine CallVCd.fn (r_square s t.B hs ht.2) rfl ?_
    conv => whnf
    refine CallVCd.fn (r_rMin (Q (sqPt s.A.v s.B.v t.A.v)) (Q (sqPt s.A.v s.B.v t.B.v)) ((sqPt_sz za zb zc).q.le (by decide)) ((sqPt_sz za zb zd).q.le (by decide))) rfl ?_
    rw [mnR_Q]
    conv => whnf
    refine CallVCd.fn (r_square t s.A ht hs.1) rfl ?_
    conv => whnf
    refine CallVCd.fn (r_square t s.B ht hs.2) rfl ?_
    conv => whnf
    refine CallVCd.fn (r_rMin (Q (sqPt t.A.v t.B.v s.A.v)) (Q (sqPt t.A.v t.B.v s.B.v)) ((sqPt_sz zc zd za).q.le (by decide)) ((sqPt_sz zc zd zb).q.le (by decide))) rfl ?_
    rw [mnR_Q]
    conv => whnf
    refine CallVCd.fn (r_rMin (Q (mnQ (sqPt s.A.v s.B.v t.A.v) (sqPt s.A.v s.B.v t.B.v))) (Q (mnQ (sqPt t.A.v t.B.v s.A.v) (sqPt t.A.v t.B.v s.B.v))) ((hmin (sqPt_sz za zb zc) (sqPt_sz za zb zd)).q.le (by decide)) ((hmin (sqPt_sz zc zd za) (sqPt_sz zc zd zb)).q.le (by decide))) rfl ?_
    rw [mnR_Q]
    conv => whnf
    exact postV_two rfl
end Go.Sx
end
section
set_option maxRecDepth 10000
set_option maxHeartbeats 2000000
set_option linter.unusedSimpArgs false
set_option linter.unusedVariables false
set_option pp.deepTerms false
set_option pp.deepTerms.threshold 6
namespace Go.Sx
open Go Go.Proofs
theorem eqI (k : Int) : (k == k) = true := by simp
theorem law_DistanceSegments (s t : Sg) (p : Pt) : Fn PP f_narrowslaw26_DistanceSegments [sV s, sV t, pV p] (.bool true) := by
  refine Fn.of TBgood mixed h_narrowslaw26_DistanceSegments rfl rfl (Nat.le_of_ble_eq_true rfl) ?_
  intro w
  conv => whnf
  have hg := fun A c (hc : 5 ≤ c) => c_great A c [s.A, s.B, t.A, t.B, p] (by simp)
  refine CallVC.v (hg none 5 (Nat.le_refl _)).enters (CallV.sl1 (x := .o (.s 32 0 5 5)) (fun z => [z]) (RdA.box rfl (Nat.le_refl _)) (List.mem_cons_self ..) (fun _ => rfl) hg) ?_
  cases hb : [s.A, s.B, t.A, t.B, p].any (bigP 12) with
  | true =>
    conv => whnf
    refine CallVC.fn c_awake rfl ?_
    conv => whnf
    exact postV_one rfl
  | false =>
  have hall := fun q hq => bigP_sm (k := 12) (p := q) (by
    have := List.any_eq_false.1 hb q hq
    simpa using this)
  have hs : s.sm KS := ⟨(hall s.A (by simp)).le (by decide), (hall s.B (by simp)).le (by decide)⟩
  have ht : t.sm KS := ⟨(hall t.A (by simp)).le (by decide), (hall t.B (by simp)).le (by decide)⟩
  have hp : p.sm KS := (hall p (by simp)).le (by decide)
  conv => whnf
  refine CallVC.fn (c_dPoint s p hs hp) rfl ?_
  generalize hv1 : dPt euPt s p = v1
  conv => whnf
  refine CallVC.fn (r_dPoint s p hs hp) rfl ?_
  rw [hv1]
  conv => whnf
  refine CallVC.fn (c_dSegments s t hs ht) rfl ?_
  generalize hv2 : dSg euPt s t = v2
  conv => whnf
  refine CallVC.fn (r_dSegments s t hs ht) rfl ?_
  rw [hv2]
  conv => whnf
  refine CallVC.fn (c_dSquarePoint s p hs hp) rfl ?_
  generalize hv3 : dPt sqPt s p = v3
  conv => whnf
  refine CallVC.fn (r_dSquarePoint s p hs hp) rfl ?_
  rw [hv3]
  conv => whnf
  refine CallVC.fn (c_dSquareSegments s t hs ht) rfl ?_
  generalize hv4 : dSg sqPt s t = v4
  conv => whnf
  refine CallVC.fn (r_dSquareSegments s t hs ht) rfl ?_
  rw [hv4]
  obtain ⟨x1, k1⟩ := v1
  obtain ⟨x2, k2⟩ := v2
  obtain ⟨x3, k3⟩ := v3
  obtain ⟨x4, k4⟩ := v4
  conv => whnf
  refine br_true ((eqR (Q x1) (Q x1)).trans (decide_eq_true rfl)) ?_
  conv => whnf
  refine br_true (eqI k1) ?_
  conv => whnf
  refine br_true ((eqR (Q x2) (Q x2)).trans (decide_eq_true rfl)) ?_
  conv => whnf
  refine br_true (eqI k2) ?_
  conv => whnf
  refine br_true ((eqR (Q x3) (Q x3)).trans (decide_eq_true rfl)) ?_
  conv => whnf
  refine br_true (eqI k3) ?_
  conv => whnf
  refine br_true ((eqR (Q x4) (Q x4)).trans (decide_eq_true rfl)) ?_
  conv => whnf
  refine br_true (eqI k4) ?_
  conv => whnf
  refine CallVC.fn c_awake rfl ?_
  conv => whnf
  exact postV_one rfl
end Go.Sx
end
section
/- What the arguments of the laws hold: numbers, points, segments; and the way from a law's walk to its statement. -/
set_option maxRecDepth 10000
set_option maxHeartbeats 2000000
set_option linter.unusedSimpArgs false
set_option linter.unusedVariables false
namespace Go.Sx
open Go Go.Proofs Go.ChangeShapes Go.WideShapes Go.RowKit
section
variable {H : Type} {enc : TypeId × Value → H} {w : World} {base : Nat} {spare : Nat → Bool} {held : Bool} {fuel : Nat} {cs : List Value} {x : DataW H × List MemPlace}
theorem cells_bool : PP.cellsOf t_bool = 1 := by kernel_rfl
theorem cells_string : PP.cellsOf t_string = 1 := by kernel_rfl
theorem cells_Rat : PP.cellsOf t_api_Rat = 3 := by kernel_rfl
theorem cells_Point : PP.cellsOf t_api_Point = 6 := by kernel_rfl
theorem cells_Segment : PP.cellsOf t_api_Segment = 12 := by kernel_rfl
theorem u_bool : PP.underlying t_bool = some .bool := (TBgood t_bool _ rfl).1.und
theorem u_string : PP.underlying t_string = some .string := (TBgood t_string _ rfl).1.und
theorem get_some {α : Type} {l : List α} {i : Nat} (h : i < l.length) : ∃ y, l[i]? = some y := ⟨_, List.getElem?_eq_getElem h⟩
theorem trod_rat (h : DataW.trod enc PP w base spare held fuel t_api_Rat cs = some x) : ∃ r : Raw, cs = ratC r := by
  obtain ⟨xs, n, _, _, hlen, hxl, hf⟩ := DataW.trod_struct (TBgood t_api_Rat _ rfl).1.und h
  rw [cells_Rat] at hlen
  match cs, hlen with
  | [a, b, c], _ =>
    obtain ⟨y0, h0⟩ := get_some (show 0 < xs.length by rw [hxl]; decide)
    obtain ⟨y1, h1⟩ := get_some (show 1 < xs.length by rw [hxl]; decide)
    obtain ⟨y2, h2⟩ := get_some (show 2 < xs.length by rw [hxl]; decide)
    have g0 : DataW.trod enc PP w base spare held n t_bool (([a, b, c].drop 0).take (PP.cellsOf t_bool)) = xs[0]? := hf 0 _ rfl
    have g1 : DataW.trod enc PP w base spare held n t_string (([a, b, c].drop 1).take (PP.cellsOf t_string)) = xs[1]? := hf 1 _ rfl
    have g2 : DataW.trod enc PP w base spare held n t_string (([a, b, c].drop 2).take (PP.cellsOf t_string)) = xs[2]? := hf 2 _ rfl
    rw [h0] at g0; rw [h1] at g1; rw [h2] at g2
    rw [cells_bool] at g0; rw [cells_string] at g1 g2
    obtain ⟨b0, e0, _⟩ := DataW.trod_bool u_bool g0
    obtain ⟨s1, e1, _⟩ := DataW.trod_string u_string g1
    obtain ⟨s2, e2, _⟩ := DataW.trod_string u_string g2
    cases e0; cases e1; cases e2
    exact ⟨⟨b0, s1.data.toList, s2.data.toList⟩, by rw [ratC, ← bs_surj, ← bs_surj]⟩
theorem trod_pt (h : DataW.trod enc PP w base spare held fuel t_api_Point cs = some x) : ∃ p : Pt, cs = ptC p := by
  obtain ⟨xs, n, _, _, hlen, hxl, hf⟩ := DataW.trod_struct (TBgood t_api_Point _ rfl).1.und h
  rw [cells_Point] at hlen
  match cs, hlen with
  | [a, b, c, a', b', c'], _ =>
    obtain ⟨y0, h0⟩ := get_some (show 0 < xs.length by rw [hxl]; decide)
    obtain ⟨y1, h1⟩ := get_some (show 1 < xs.length by rw [hxl]; decide)
    have g0 : DataW.trod enc PP w base spare held n t_api_Rat (([a, b, c, a', b', c'].drop 0).take (PP.cellsOf t_api_Rat)) = xs[0]? := hf 0 _ rfl
    have g1 : DataW.trod enc PP w base spare held n t_api_Rat (([a, b, c, a', b', c'].drop 3).take (PP.cellsOf t_api_Rat)) = xs[1]? := hf 1 _ rfl
    rw [h0] at g0; rw [h1] at g1
    rw [cells_Rat] at g0 g1
    obtain ⟨r, e0⟩ := trod_rat g0
    obtain ⟨s, e1⟩ := trod_rat g1
    exact ⟨⟨r, s⟩, by
      have e : [a, b, c, a', b', c'] = [a, b, c] ++ [a', b', c'] := rfl
      rw [e, show [a, b, c] = ratC r from e0, show [a', b', c'] = ratC s from e1]; rfl⟩
theorem trod_sg (h : DataW.trod enc PP w base spare held fuel t_api_Segment cs = some x) : ∃ e : Pt × Pt, cs = sgC e := by
  obtain ⟨xs, n, _, _, hlen, hxl, hf⟩ := DataW.trod_struct (TBgood t_api_Segment _ rfl).1.und h
  rw [cells_Segment] at hlen
  obtain ⟨y0, h0⟩ := get_some (show 0 < xs.length by rw [hxl]; decide)
  obtain ⟨y1, h1⟩ := get_some (show 1 < xs.length by rw [hxl]; decide)
  have g0 : DataW.trod enc PP w base spare held n t_api_Point ((cs.drop 0).take (PP.cellsOf t_api_Point)) = xs[0]? := hf 0 _ rfl
  have g1 : DataW.trod enc PP w base spare held n t_api_Point ((cs.drop 6).take (PP.cellsOf t_api_Point)) = xs[1]? := hf 1 _ rfl
  rw [h0] at g0; rw [h1] at g1
  rw [cells_Point] at g0 g1
  obtain ⟨p, e0⟩ := trod_pt g0
  obtain ⟨q, e1⟩ := trod_pt g1
  refine ⟨(p, q), ?_⟩
  rw [List.take_of_length_le (by rw [List.length_drop]; omega)] at e1
  rw [List.drop_zero] at e0
  rw [sgC, ← e0, ← e1, List.take_append_drop]
theorem open_pt {r : Reach} {b : Nat} {v : Value} {d : DataW H} {ps : List MemPlace} (hv : Value.okWide PP w r b t_api_Point v) (h : DataW.Trod enc PP w base spare held t_api_Point v d ps) : ∃ p : Pt, v = pV p := by
  obtain ⟨cs, rfl, _⟩ := okWide_struct (TBgood t_api_Point _ rfl).1.und hv
  obtain ⟨fuel, hf⟩ := h
  obtain ⟨r, hr⟩ := trod_pt hf
  exact ⟨r, by cases cs; exact congrArg (fun l : List Value => Value.agg ⟨l⟩) hr⟩
theorem open_sg {r : Reach} {b : Nat} {v : Value} {d : DataW H} {ps : List MemPlace} (hv : Value.okWide PP w r b t_api_Segment v) (h : DataW.Trod enc PP w base spare held t_api_Segment v d ps) : ∃ s : Sg, v = sV s := by
  obtain ⟨cs, rfl, _⟩ := okWide_struct (TBgood t_api_Segment _ rfl).1.und hv
  obtain ⟨fuel, hf⟩ := h
  obtain ⟨e, hr⟩ := trod_sg hf
  exact ⟨⟨e.1, e.2⟩, by cases cs; exact congrArg (fun l : List Value => Value.agg ⟨l⟩) hr⟩
end
theorem laidOut : laidOutB PP = true := by kernel_rfl
theorem ownP : ownKnob PP.godebug = none := by kernel_rfl
end Go.Sx
end
section
/-
  The law DistanceSegments of the program answers true for every input and leaves its arguments as they were; no conditions.
-/
set_option linter.unusedVariables false
namespace Go.Proofs.YtlnandkcoliejaaGreat
open Go.Sx Go.ChangeShapes Go.WideShapes Go.ChangeAt Go.RowKit
set_option maxRecDepth 100000 in
theorem lifted_distanceSegments (os : Os) (started : os.Started) (H : Type) (enc : TypeId × Value → H) :
    ReturnsInHanded {} Tryz.checked os 5 .any (Rows.distanceSegmentsSpec.pre6 enc Tryz.prog Tryz.f5 Rows.distanceSegmentsRow.domain false) (Rows.distanceSegmentsSpec.post enc Tryz.prog Tryz.f5 false true false false) := by
  refine returnsInHanded_of_change (C := Tryz.checked) ownP started (by kernel_rfl) Tryz.func5
    (ChangeSpec.witness6 (enc := enc) (C := Tryz.checked) false ⟨#[], #[.agg #[.bool false, .string ByteArray.empty, .string ByteArray.empty, .bool false, .string ByteArray.empty, .string ByteArray.empty, .bool false, .string ByteArray.empty, .string ByteArray.empty, .bool false, .string ByteArray.empty, .string ByteArray.empty], .agg #[.bool false, .string ByteArray.empty, .string ByteArray.empty, .bool false, .string ByteArray.empty, .string ByteArray.empty, .bool false, .string ByteArray.empty, .string ByteArray.empty, .bool false, .string ByteArray.empty, .string ByteArray.empty], .agg #[.bool false, .string ByteArray.empty, .string ByteArray.empty, .bool false, .string ByteArray.empty, .string ByteArray.empty]], []⟩ 8 (by kernel_rfl) (by kernel_rfl) (by kernel_rfl) (by kernel_rfl)) ?_
  intro W base args ds gs before hval0 hW hcnd _
  have hval : ∀ (j : Nat) t v, Tryz.f5.params[j]? = some t → args[j]? = some v → Value.okWide Tryz.prog W .any base t v := hval0
  have hW' := hW
  obtain ⟨p, q, hA0, hV, rfl, hfz, hnd⟩ := hW
  have hA : DataW.TrodAll enc Tryz.prog W 0 (fun _ => true) true Tryz.f5.params.toList args.toList ds p := hA0
  rw [Tryz.params5] at hA hval
  obtain ⟨v0, vs0, d0, ds0, p0, q0, hargs, rfl, rfl, h0, r0⟩ := trodAll_cons hA
  obtain ⟨v1, vs1, d1, ds1, p1, q1, rfl, rfl, rfl, h1, r1⟩ := trodAll_cons r0
  obtain ⟨v2, vs2, d2, ds2, p2, q2, rfl, rfl, rfl, h2, r2⟩ := trodAll_cons r1
  obtain ⟨rfl, rfl, rfl⟩ := trodAll_nil r2
  obtain rfl : args = #[v0, v1, v2] := by cases args; simp_all
  obtain ⟨rfl, rfl⟩ := trodVars_none hV
  have lt0 : ∀ x ∈ p0, x.block < W.heap.size := by obtain ⟨m, hm⟩ := h0; exact DataW.trod_lt m _ _ _ hm
  have k0 : DataW.Trod enc PP W 0 (fun _ => true) true t_api_Segment v0 d0 p0 := h0
  obtain ⟨a0, rfl⟩ := open_sg (hval 0 _ v0 rfl rfl) k0
  have lt1 : ∀ x ∈ p1, x.block < W.heap.size := by obtain ⟨m, hm⟩ := h1; exact DataW.trod_lt m _ _ _ hm
  have k1 : DataW.Trod enc PP W 0 (fun _ => true) true t_api_Segment v1 d1 p1 := h1
  obtain ⟨a1, rfl⟩ := open_sg (hval 1 _ v1 rfl rfl) k1
  have lt2 : ∀ x ∈ p2, x.block < W.heap.size := by obtain ⟨m, hm⟩ := h2; exact DataW.trod_lt m _ _ _ hm
  have k2 : DataW.Trod enc PP W 0 (fun _ => true) true t_api_Point v2 d2 p2 := h2
  obtain ⟨a2, rfl⟩ := open_pt (hval 2 _ v2 rfl rfl) k2
  clear hA0 hval0
  refine ((law_DistanceSegments a0 a1 a2).calls W trivial).mono fun e W' ⟨he, bel⟩ => ?_
  subst he
  exact ⟨_, rfl, _, _, _, [], _, [], hW', trodAll_mk1 (shut_bool u_bool _), (trodAll_cons_mk (Below.trod laidOut (by kernel_rfl) (of_decide_eq_true (by kernel_rfl)) k0 bel lt0) (trodAll_cons_mk (Below.trod laidOut (by kernel_rfl) (of_decide_eq_true (by kernel_rfl)) k1 bel lt1) (trodAll_cons_mk (Below.trod laidOut (by kernel_rfl) (of_decide_eq_true (by kernel_rfl)) k2 bel lt2) trodAll_mk0))), rfl, bel.frame _, fun h => by cases h⟩
/-- DistanceSegments, as it is said. -/
theorem distanceSegments_holds : Rows.DistanceSegmentsSaid :=
  OpenClaim.holds_of_wide 5 Tryz.f5 rfl rfl rfl rfl rfl rfl rfl ⟨rfl, rfl, rfl, rfl, rfl⟩ rfl rfl rfl rfl rfl (by kernel_rfl) Tryz.func5 (by kernel_rfl)
    (of_decide_eq_true (by kernel_rfl)) (by unfold Func.isWrapper; first | (rw [if_pos (by decide +kernel)]; kernel_rfl) | (rw [if_neg (by decide +kernel)]; exact ⟨rfl, rfl⟩))
    (fun os started H enc _ => lifted_distanceSegments os started H enc)
end Go.Proofs.YtlnandkcoliejaaGreat
end
#print axioms Go.Proofs.YtlnandkcoliejaaGreat.distanceSegments_holds
