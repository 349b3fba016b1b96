/- The law DistanceConvex of the program answers true for every input, and its arguments read as before. No conditions. -/
import Derived.Test.YtlnandkcoliejaaGreatM6
import Derived.Test.YtlnandkcoliejaaGreatM5
import Derived.ProofKit
import Derived.OpenShut
import Derived.Carry
import Derived.ChangeArms
import Derived.Deep.Slices
import Derived.Test.YtlnandkcoliejaaGreatRows
import Derived.WalkKit
import Derived.ShutString
import Derived.ChangeOld
import Derived.Below
import Derived.Handed
set_option linter.unusedVariables false
set_option linter.unusedSimpArgs false
set_option linter.unusedSectionVars false
section
set_option maxRecDepth 10000
set_option maxHeartbeats 2000000
namespace Go.Sx
open Go Go.Proofs
theorem low_iff (l : List Pt) : (List.range l.length).any (fun k => decide (0 < k) && lowB l k) = (l.drop 1).any (belowB (l.getD 0 P0)) := by
 have h : (List.range l.length).any (fun k => decide (0 < k) && lowB l k) = false ↔ (l.drop 1).any (belowB (l.getD 0 P0)) = false := by
   rw [least_iff, List.any_eq_false]
   constructor
   · intro h k hk hkl
     have h2 := h k (List.mem_range.2 hkl)
     rw [decide_eq_true hk, Bool.true_and, lowB, decide_eq_true_eq] at h2
     exact cmpV_lt.1 (by omega)
   · intro h k hk
     have hkl := List.mem_range.1 hk
     by_cases h0 : 0 < k
     · have := cmpV_lt.2 (h k h0 hkl)
       rw [decide_eq_true h0, Bool.true_and, lowB, decide_eq_true_eq]
       omega
     · rw [decide_eq_false h0, Bool.false_and]; decide
 cases h1 : (List.range l.length).any (fun k => decide (0 < k) && lowB l k) with
 | false => rw [h.1 h1]
 | true =>
   cases h2 : (l.drop 1).any (belowB (l.getD 0 P0)) with
   | true => rfl
   | false => rw [h.2 h2] at h1; cases h1
theorem cmp_pos {x : Rat} : ¬ cmpQ x 0 ≤ 0 ↔ 0 < x := by
 rw [← cmpQ_gt]; omega
theorem turn_iff {l : List Pt} (h3 : 3 ≤ l.length) (h0 : ∀ k, 0 < k → k < l.length → ltP2 (at_ l 0) (at_ l k)) : (List.range l.length).any (turnB l) = (edgesL l).any (fun e => l.any (sideB e.1 e.2)) := by
 have h : (List.range l.length).any (turnB l) = false ↔ (edgesL l).any (fun e => l.any (sideB e.1 e.2)) = false := by
   constructor
   · intro h
     rw [List.any_eq_false] at h
     have hT : ∀ i, i < l.length → 0 < ori (at_ l i) (at_ l ((i + 1) % l.length)) (at_ l ((i + 2) % l.length)) ∧ (0 < i → i + 1 < l.length → 0 < ori (at_ l 0) (at_ l i) (at_ l (i + 1))) := fun i hi => by
       have h2 := h i (List.mem_range.2 hi)
       rw [turnB, Bool.or_eq_true, decide_eq_true_eq, Bool.and_eq_true, Bool.and_eq_true, decide_eq_true_eq, decide_eq_true_eq, decide_eq_true_eq] at h2
       refine ⟨cmp_pos.1 (fun k => h2 (.inl k)), fun a b => cmp_pos.1 (fun k => h2 (.inr ⟨a, b, k⟩))⟩
     have R2 : ∀ i, 0 < i → i + 1 < l.length → 0 < ori (at_ l 0) (at_ l i) (at_ l (i + 1)) := fun i a b => (hT i (by omega)).2 a b
     have R1 : ∀ i, 0 < i → i + 2 < l.length → 0 < ori (at_ l i) (at_ l (i + 1)) (at_ l (i + 2)) := fun i a b => by
       have := (hT i (by omega)).1
       rwa [Nat.mod_eq_of_lt (show i + 1 < l.length by omega), Nat.mod_eq_of_lt b] at this
     rw [List.any_eq_false]
     intro e he
     obtain ⟨i, hi⟩ := List.getElem?_of_mem he
     have hil : i < l.length := by rw [← edgesL_len l]; exact (List.getElem?_eq_some_iff.1 hi).1
     rw [edgesL_get hil] at hi
     cases hi
     refine Bool.eq_false_iff.1 (List.any_eq_false.2 ?_)
     intro r hr
     obtain ⟨k, hk⟩ := List.getElem?_of_mem hr
     have hkl : k < l.length := (List.getElem?_eq_some_iff.1 hk).1
     have hrk : r = l.getD k P0 := (getD_of hk).symm
     intro hs
     rw [sideB, Bool.and_eq_true, Bool.and_eq_true, decide_eq_true_eq, decide_eq_true_eq, decide_eq_true_eq] at hs
     obtain ⟨n1, n2, hle⟩ := hs
     have h5 := convex_all h0 R2 R1 hil hkl (fun e => n1 (by rw [hrk, e])) (fun e => n2 (by rw [hrk, e]))
     rw [hrk] at hle
     exact cmp_pos.2 h5 hle
   · intro h
     have P := left_of h
     rw [List.any_eq_false]
     intro i hi
     have hil := List.mem_range.1 hi
     have t1 := convex_turn h3 h0 P hil
     rw [turnB, Bool.or_eq_true, decide_eq_true_eq, Bool.and_eq_true, Bool.and_eq_true, decide_eq_true_eq, decide_eq_true_eq, decide_eq_true_eq]
     rintro (k | ⟨a, b, k⟩)
     · exact cmp_pos.2 t1 k
     · exact cmp_pos.2 (convex_fan h3 h0 P a b) k
 cases h1 : (List.range l.length).any (turnB l) with
 | false => rw [h.1 h1]
 | true =>
   cases h2 : (edgesL l).any (fun e => l.any (sideB e.1 e.2)) with
   | true => rfl
   | false => rw [h.2 h2] at h1; cases h1
theorem chkR_eq (l : List Pt) : chkR l = chkC l := by
 unfold chkR chkC
 by_cases h3 : l.length < 3
 · rw [if_pos h3, if_pos h3]
 rw [if_neg h3, if_neg h3]
 by_cases h64 : 64 < l.length
 · rw [if_pos h64, if_pos h64]
 rw [if_neg h64, if_neg h64]
 by_cases hc : canonL l = false
 · rw [if_pos hc, if_pos hc]
 rw [if_neg hc, if_neg hc, low_iff]
 by_cases hb : (l.drop 1).any (belowB (l.getD 0 P0)) = true
 · rw [if_pos hb, if_pos hb]
 rw [if_neg hb, if_neg hb, turn_iff (by omega) (least_iff.1 (by simpa using hb))]
theorem r_cvRings (A B : Option Addr) (c d : Nat) (a b : List Pt) (hsa : Lsm KS a) (hsb : Lsm KS b) :
   FnM PP f_narrowsref13_rings [.slice A a.length c, .slice B b.length d] (facts [SlRes A (rowV ptC a), SlRes B (rowV ptC b)]) (retsV (.bool (decide (chkC a = 0) && decide (chkC b = 0)))) := by
 refine FnS.of TBgood mixed h_narrowsref13_rings rfl rfl (Nat.le_of_ble_eq_true rfl) (by simp [SlRes.ok]) ?_
 intro w hw
 conv => whnf
 refine CallVC.v (r_cvCheck A c a hsa).enters (CallV.facts (r_cvCheck A c a hsa) rfl (fun R hR => by rw [List.mem_singleton.1 hR]; exact List.mem_cons_self ..)) ?_
 rw [chkR_eq]
 by_cases h1 : chkC a = 0
 rotate_left
 · conv => whnf
   refine br_false (beq_eq_false_iff_ne.2 h1) ?_
   conv => whnf
   refine postV_one ?_
   rw [decide_eq_false h1, Bool.false_and]
 conv => whnf
 refine br_true (beq_iff_eq.2 h1) ?_
 conv => whnf
 refine CallVC.v (r_cvCheck B d b hsb).enters (CallV.facts (r_cvCheck B d b hsb) rfl (fun R hR => by rw [List.mem_singleton.1 hR]; exact List.mem_cons_of_mem _ (List.mem_cons_self ..))) ?_
 rw [chkR_eq]
 conv => whnf
 refine postV_one ?_
 rw [decide_eq_true h1, Bool.true_and]
 by_cases h2 : chkC b = 0
 · rw [decide_eq_true h2, h2]; rfl
 · rw [decide_eq_false h2]
   exact congrArg Value.bool (beq_eq_false_iff_ne.2 h2)
def maxI (a b : Int) : Int := if b > a then b else a
theorem bsdP_take {b : List Pt} {j : Nat} {r : Pt} (e : Pt × Pt) (hr : b[j]? = some r) : bsdP (b.take (j + 1)) e = (bsdP (b.take j) e && rightB e.1 e.2 r) := by
 unfold bsdP
 rw [take_snoc' hr, List.any_append]
 simp
theorem r_cvSep (A B : Option Addr) (c d : Nat) (a b : List Pt) (ha : a.length ≤ 1000) (hb : b.length ≤ 1000) (hsa : Lsm KS a) (hsb : Lsm KS b) :
   FnM PP f_narrowsref13_separator [.slice A a.length c, .slice B b.length d, .bool false] (facts [SlRes A (rowV ptC a), SlRes B (rowV ptC b)]) (retsV (.int .i64 (idxF (bsdP b) 0 (edgesL a)))) := by
 refine FnS.of TBgood mixed h_narrowsref13_separator rfl rfl (Nat.le_of_ble_eq_true rfl) (by simp [SlRes.ok]) ?_
 intro w hw
 obtain ⟨n, hn⟩ : ∃ n, n = a.length := ⟨_, rfl⟩
 obtain ⟨m, hm⟩ : ∃ m, m = b.length := ⟨_, rfl⟩
 have hA : 0 < n → A.isSome = true := fun h => slres_some (facts_two hw).1 (by rw [rowV_length ptC_len]; omega)
 have hB : 0 < m → B.isSome = true := fun h => slres_some (facts_two hw).2 (by rw [rowV_length ptC_len]; omega)
 have hel : (edgesL a).length = n := by rw [edgesL_len, hn]
 rw [← hn, ← hm]
 conv => whnf
 refine sexec_loop (ι := Nat) (fun i => ⟨[(0, .o (.v (.slice A n c))), (1, .o (.v (.slice B m d))), (2, .o (.v (.bool false))), (6, .o (.v (.int .i64 0))), (7, .o (.v (.int .i64 i)))], [], [SlRes A (rowV ptC a), SlRes B (rowV ptC b)]⟩)
   (fun i => i ≤ n ∧ idxF (bsdP b) 0 (edgesL a) = idxF (bsdP b) i ((edgesL a).drop i)) (fun i => n - i) 0 ⟨Nat.zero_le _, rfl⟩
   (SLe.id ⟨rfl, rfl, rfl, rfl, rfl, trivial⟩ trivial (fun R hR => hR)) ?_
 rintro i ⟨hi, hx⟩
 conv => whnf
 refine br_split ?_ ?_
 · intro h
   have hi2 : i < n := by
     have : (i : Int) < (n : Int) := of_decide_eq_true h
     omega
   obtain ⟨p, hp⟩ : ∃ p, a[i]? = some p := ⟨_, List.getElem?_eq_getElem (by omega)⟩
   have hm1 : (i + 1) % n < n := Nat.mod_lt _ (by omega)
   obtain ⟨q, hq⟩ : ∃ q, a[(i + 1) % n]? = some q := ⟨_, List.getElem?_eq_getElem (by omega)⟩
   have he : (edgesL a)[i]? = some (p, q) := by rw [edgesL_get (by omega), getD_of hp, ← hn, getD_of hq]
   have r1 := rem_mod (i := i) (k := 1) (n := n) (by omega) (by omega) (by omega)
   have hps := hsa p (List.mem_of_getElem? hp)
   have hqs := hsa q (List.mem_of_getElem? hq)
   rw [drop_cons he] at hx
   simp only [idxF] at hx
   conv => whnf
   refine sexec_loop (ι := Nat × Int) (fun ⟨j, v⟩ => ⟨[(0, .o (.v (.slice A n c))), (1, .o (.v (.slice B m d))), (2, .o (.v (.bool false))), (6, .o (.v (.int .i64 0))), (7, .o (.v (.int .i64 i))), (8, .o (.v (.int .i64 v))), (9, .o (.v (.int .i64 j)))], [], [SlRes A (rowV ptC a), SlRes B (rowV ptC b)]⟩)
     (fun ⟨j, v⟩ => j ≤ m ∧ decide (v < 0) = bsdP (b.take j) (p, q)) (fun ⟨j, v⟩ => m - j) (0, -1) ⟨Nat.zero_le _, rfl⟩
     (SLe.id ⟨rfl, rfl, rfl, rfl, rfl, rfl, rfl, trivial⟩ trivial (fun R hR => hR)) ?_
   rintro ⟨j, v⟩ ⟨hj, hv⟩
   conv => whnf
   refine br_split ?_ ?_
   · intro h
     have hj2 : j < m := by
       have : (j : Int) < (m : Int) := of_decide_eq_true h
       omega
     obtain ⟨r, hr⟩ : ∃ r, b[j]? = some r := ⟨_, List.getElem?_eq_getElem (by omega)⟩
     have hrs := hsb r (List.mem_of_getElem? hr)
     conv => whnf
     refine DrawVC.quiet (by kernel_rfl) ?_
     conv => whnf
     refine ⟨⟨by omega, by omega, hA (by omega)⟩, ?_⟩
     conv => whnf
     refine LoadVC.elem (A := A) (xs := a) (j := (i : Int)) ptC ptC_len (List.mem_cons_self ..) rfl (by rw [Int.toNat_natCast]; omega) (by decide) (fun h => by cases h) ?_
     intro p' hp'
     obtain rfl := elem_eq hp' hp
     conv => whnf
     refine ⟨by omega, ?_⟩
     conv => whnf
     refine ⟨⟨by show 0 ≤ (IntKind.i64.wrap ((i : Int) + 1)).tmod (n : Int); rw [show ((i : Int) + 1) = (i : Int) + ((1 : Nat) : Int) from rfl, r1]; omega, by show (IntKind.i64.wrap ((i : Int) + 1)).tmod (n : Int) < (n : Int); rw [show ((i : Int) + 1) = (i : Int) + ((1 : Nat) : Int) from rfl, r1]; omega, hA (by omega)⟩, ?_⟩
     conv => whnf
     refine LoadVC.elem (A := A) (xs := a) (j := (((i + 1) % n : Nat) : Int)) ptC ptC_len (List.mem_cons_self ..) (by show A.map (fun x => x.add (((IntKind.i64.wrap ((i : Int) + ((1 : Nat) : Int))).tmod (n : Int)).toNat * 6)) = _; rw [r1]; rfl) (by rw [Int.toNat_natCast]; omega) (by decide) (fun h => by cases h) ?_
     intro q' hq'
     obtain rfl := elem_eq hq' hq
     conv => whnf
     refine ⟨⟨by omega, by omega, hB (by omega)⟩, ?_⟩
     conv => whnf
     refine LoadVC.elem (A := B) (xs := b) (j := (j : Int)) ptC ptC_len (List.mem_cons_of_mem _ (List.mem_singleton.2 rfl)) rfl (by rw [Int.toNat_natCast]; omega) (by decide) (fun h => by cases h) ?_
     intro r' hr'
     obtain rfl := elem_eq hr' hr
     conv => whnf
     refine CallVCd.fn (r_Orient p' q' r' (hps.le (by decide)) (hqs.le (by decide)) (hrs.le (by decide))) rfl ?_
     rw [show (q'.v - p'.v).cross (r'.v - p'.v) = ori p'.v q'.v r'.v from rfl]
     conv => whnf
     refine ⟨(j + 1, maxI v (cmpQ (ori p'.v q'.v r'.v) 0)), ⟨by omega, ?_⟩, by show m - (j + 1) < m - j; omega, SLe.id ⟨rfl, rfl, rfl, rfl, rfl, rfl, some_wrap hj2 (by omega), trivial⟩ trivial (fun R hR => hR)⟩
     rw [bsdP_take _ hr, ← hv]
     show _ = (decide (v < 0) && decide (cmpQ (ori p'.v q'.v r'.v) 0 < 0))
     unfold maxI
     by_cases h1 : cmpQ (ori p'.v q'.v r'.v) 0 > v
     · rw [if_pos h1]
       by_cases h2 : cmpQ (ori p'.v q'.v r'.v) 0 < 0
       · rw [decide_eq_true h2, decide_eq_true (show v < 0 by omega)]; rfl
       · rw [decide_eq_false h2, Bool.and_false]
     · rw [if_neg h1]
       by_cases h2 : v < 0
       · rw [decide_eq_true h2, decide_eq_true (show cmpQ (ori p'.v q'.v r'.v) 0 < 0 by omega)]; rfl
       · rw [decide_eq_false h2]; rfl
   · intro h
     have hj2 : j = m := by
       have : ¬ (j : Int) < (m : Int) := of_decide_eq_false h
       omega
     rw [hj2, List.take_of_length_le (by omega)] at hv
     conv => whnf
     refine br_split ?_ ?_ <;> intro hlt
     · rw [hv] at hlt
       rw [hlt, if_pos rfl] at hx
       conv => whnf
       refine postV_one ?_
       rw [hx]
     · rw [hv] at hlt
       rw [hlt, if_neg (by decide)] at hx
       conv => whnf
       exact ⟨i + 1, ⟨by omega, hx⟩, by omega, SLe.id ⟨rfl, rfl, rfl, rfl, some_wrap hi2 (by omega), trivial⟩ trivial (fun R hR => hR)⟩
 · intro h
   have hi2 : i = n := by
     have : ¬ (i : Int) < (n : Int) := of_decide_eq_false h
     omega
   rw [hi2, List.drop_of_length_le (by omega)] at hx
   conv => whnf
   refine postV_one ?_
   rw [hx]; rfl
end Go.Sx
end
section
set_option maxRecDepth 10000
set_option maxHeartbeats 2000000
namespace Go.Sx
open Go Go.Proofs
def edD (e f : Pt × Pt) : Rat := segD sqPt e.1.v e.2.v f.1.v f.2.v
def prsD (a b : List Pt) : List Rat := (edgesL a).flatMap fun e => (edgesL b).map (edD e)
def lstQ (l : List Rat) : Rat := match l with
 | [] => 0
 | x :: r => extQ (-1) x r
def sqC (a b : List Pt) : Rat × Int := if (tchL a b).2 ≠ 0 then (0, 1) else if (tchL a b).1 = true then (0, 0) else (lstQ (prsD a b), 0)
abbrev sqMB : ME := .box [.v (fnV f_vector_Square), .v (fnV f_distance_square_1)] t_distance_metric
theorem prs_snoc {es fs : List (Pt × Pt)} {i : Nat} {e : Pt × Pt} (he : es[i]? = some e) : (es.take (i + 1)).flatMap (fun e => fs.map (edD e)) = (es.take i).flatMap (fun e => fs.map (edD e)) ++ fs.map (edD e) := by
 rw [take_snoc' he, List.flatMap_append]; simp
theorem edD_sz {a b : List Pt} (hsa : Lsm KS a) (hsb : Lsm KS b) {e f : Pt × Pt} (he : e ∈ edgesL a) (hf : f ∈ edgesL b) : Sz 1000000 (edD e f) := by
 obtain ⟨h1, h2⟩ := edgesL_sm hsa he
 obtain ⟨h3, h4⟩ := edgesL_sm hsb hf
 have k1 := h1.sz (by decide)
 have k2 := h2.sz (by decide)
 have k3 := h3.sz (by decide)
 have k4 := h4.sz (by decide)
 unfold edD segD
 split
 · exact (show Sz 1 (0 : Rat) from ⟨by decide, by decide⟩).le (by decide)
 · refine extQ_sz _ _ (sqPt_sz k1 k2 k3) (fun r hr => ?_)
   simp only [List.mem_cons, List.not_mem_nil, or_false] at hr
   rcases hr with rfl | rfl | rfl
   · exact sqPt_sz k1 k2 k4
   · exact sqPt_sz k3 k4 k1
   · exact sqPt_sz k3 k4 k2
theorem c_dSquareConvex (A B : Option Addr) (c d : Nat) (a b : List Pt) (hca : a.length ≤ c) (hcb : b.length ≤ d) (hsa : Lsm KS a) (hsb : Lsm KS b) :
   FnM PP f_distance_SquareConvex [.slice A a.length c, .slice B b.length d] (facts [SlRes A (rowV ptC a), SlRes B (rowV ptC b)]) (retsV (rerV (sqC a b))) := by
 refine FnS.of TBgood mixed h_distance_SquareConvex rfl rfl (Nat.le_of_ble_eq_true rfl) (by simp [SlRes.ok]) ?_
 intro w hw
 conv => whnf
 refine CallVC.v (c_cvTouch A B c d a b hca hcb hsa hsb).enters (CallV.facts (c_cvTouch A B c d a b hca hcb hsa hsb) rfl (fun R hR => hR)) ?_
 by_cases hk : chkC a ≠ 0 ∨ chkC b ≠ 0
 · have e1 : sqC a b = (0, 1) := by rw [sqC, tchL, if_pos hk]; rfl
   rw [e1, tchL, if_pos hk]
   conv => whnf
   exact postV_two (by rw [rerV, qV, rawV0])
 have va := cvx_of (l := a) (by by_cases h : chkC a = 0; exact h; exact absurd (.inl h) hk)
 have vb := cvx_of (l := b) (by by_cases h : chkC b = 0; exact h; exact absurd (.inr h) hk)
 have n3 := va.n3
 have n64 := va.n64
 have m3 := vb.n3
 have m64 := vb.n64
 have e2 : (sepL a b).isSome = false → sqC a b = (0, 0) := fun h => by rw [sqC, tchL, if_neg hk, h]; rfl
 have e3 : (sepL a b).isSome = true → sqC a b = (lstQ (prsD a b), 0) := fun h => by rw [sqC, tchL, if_neg hk, h]; rfl
 rw [tchL, if_neg hk]
 cases hs : (sepL a b).isSome with
 | false =>
   rw [e2 hs]
   conv => whnf
   exact postV_two (by rw [rerV, qV, rawV0])
 | true =>
 rw [e3 hs]
 conv => whnf
 refine CallVC.fn c_square rfl ?_
 conv => whnf
 refine CallVC.o 27 (c_Edges A c a (by omega)).enters (CallV.facts (c_Edges A c a (by omega)) rfl (fun R hR => by rw [List.mem_singleton.1 hR]; exact List.mem_cons_self ..)) rfl rfl ?_
 obtain ⟨n, hn⟩ : ∃ n, n = a.length := ⟨_, rfl⟩
 obtain ⟨m, hm⟩ : ∃ m, m = b.length := ⟨_, rfl⟩
 obtain ⟨es, hes⟩ : ∃ es, es = edgesL a := ⟨_, rfl⟩
 obtain ⟨fs, hfs⟩ : ∃ fs, fs = edgesL b := ⟨_, rfl⟩
 have hel : es.length = n := by rw [hes, edgesL_len, hn]
 have hfl : fs.length = m := by rw [hfs, edgesL_len, hm]
 have hgood : ∀ e ∈ es, ∀ f ∈ fs, (sgE e).sm KS ∧ (sgE f).sm KS ∧ ¬ degen (sgE e) ∧ ¬ degen (sgE f) ∧ (sgE e).A.ok ∧ (sgE f).A.ok ∧ Sz 1000000 (edD e f) := fun e he f hf => by
   rw [hes] at he
   rw [hfs] at hf
   obtain ⟨h1, h2⟩ := edgesL_sm hsa he
   obtain ⟨h3, h4⟩ := edgesL_sm hsb hf
   obtain ⟨o1, _, o2⟩ := va.edge he
   obtain ⟨o3, _, o4⟩ := vb.edge hf
   exact ⟨⟨h1, h2⟩, ⟨h3, h4⟩, o2, o4, o1, o3, edD_sz hsa hsb he hf⟩
 rw [show prsD a b = es.flatMap (fun e => fs.map (edD e)) by rw [hes, hfs]; rfl]
 have hEdB := c_Edges B d b (by omega)
 rw [← hm, ← hfs] at hEdB
 rw [← hn, ← hes, ← hm]
 conv => whnf
 refine sexec_loop (ι := Nat × List Rat) (fun ⟨i, L⟩ => match L with
     | [] => ⟨[(0, .o (.v (.slice A n c))), (1, .o (.v (.slice B m d))), (4, .o (.p 4 0)), (5, .o (.v (.int .i64 0))), (8, .o (.p 8 0)), (9, .o (.v (.slice none 0 0))), (27, .o (.w 27)), (28, .o (.v (.int .i64 n))), (29, .o (.v (.int .i64 i)))], [(4, ratM ⟨false, [], []⟩), (8, sqMB), (27, .own t_api_Segment 12 n (rowV sgC es))], [SlRes A (rowV ptC a), SlRes B (rowV ptC b)]⟩
     | r :: l => ⟨[(0, .o (.v (.slice A n c))), (1, .o (.v (.slice B m d))), (4, .o (.p 4 0)), (5, .o (.v (.int .i64 0))), (8, .o (.p 8 0)), (9, .o (.w 3)), (27, .o (.w 27)), (28, .o (.v (.int .i64 n))), (29, .o (.v (.int .i64 i)))], [(4, ratM ⟨false, [], []⟩), (8, sqMB), (27, .own t_api_Segment 12 n (rowV sgC es)), (3, .own t_api_Rat 3 (l.length + 1) (rowV ratC ((r :: l).map Q)))], [SlRes A (rowV ptC a), SlRes B (rowV ptC b)]⟩)
   (fun ⟨i, L⟩ => i ≤ n ∧ L = (es.take i).flatMap fun e => fs.map (edD e)) (fun ⟨i, L⟩ => n - i) (0, []) ⟨Nat.zero_le _, rfl⟩
   (SLe.id ⟨rfl, rfl, rfl, rfl, rfl, rfl, rfl, rfl, rfl, trivial⟩ ⟨⟨_, rfl, .refl _⟩, ⟨_, rfl, .refl _⟩, ⟨_, rfl, .refl _⟩, trivial⟩ (fun R hR => hR)) ?_
 rintro ⟨i, L⟩ ⟨hi, hL⟩
 by_cases hin : i < n
 · obtain ⟨e, he⟩ : ∃ e, es[i]? = some e := ⟨_, List.getElem?_eq_getElem (by omega)⟩
   have hnx := prs_snoc (fs := fs) he
   have inner : ∀ (w : World) (C : Cx), True := fun _ _ => trivial
   rcases L with _ | ⟨r, l⟩
   · conv => whnf
     refine br_true (decide_eq_true (show (i : Int) < (n : Int) by omega)) ?_
     conv => whnf
     refine ⟨⟨by omega, by omega⟩, ?_⟩
     conv => whnf
     refine RowVC.elem sgC sgC_len (k := i) (by show (i : Int).toNat * 12 = i * 12; rw [Int.toNat_natCast]) (by omega) (by decide) (fun h => by cases h) ?_
     intro e' he'
     obtain rfl : e' = e := by rw [he] at he'; exact (Option.some.inj he').symm
     conv => whnf
     refine CallVC.o 34 hEdB.enters (CallV.facts hEdB rfl (fun R hR => by rw [List.mem_singleton.1 hR]; exact List.mem_cons_of_mem _ (List.mem_cons_self ..))) rfl rfl ?_
     conv => whnf
     refine sexec_loop (ι := Nat × List Rat) (fun ⟨j, L⟩ => match L with
         | [] => ⟨[(0, .o (.v (.slice A n c))), (1, .o (.v (.slice B m d))), (4, .o (.p 4 0)), (5, .o (.v (.int .i64 0))), (8, .o (.p 8 0)), (9, .o (.v (.slice none 0 0))), (27, .o (.w 27)), (28, .o (.v (.int .i64 n))), (29, .o (.v (.int .i64 i))), (11, .o (.p 11 0)), (34, .o (.w 34)), (35, .o (.v (.int .i64 m))), (36, .o (.v (.int .i64 j)))], [(4, ratM ⟨false, [], []⟩), (8, sqMB), (27, .own t_api_Segment 12 n (rowV sgC es)), (11, sgB (sgE e')), (34, .own t_api_Segment 12 m (rowV sgC fs))], [SlRes A (rowV ptC a), SlRes B (rowV ptC b)]⟩
         | r :: l => ⟨[(0, .o (.v (.slice A n c))), (1, .o (.v (.slice B m d))), (4, .o (.p 4 0)), (5, .o (.v (.int .i64 0))), (8, .o (.p 8 0)), (9, .o (.w 3)), (27, .o (.w 27)), (28, .o (.v (.int .i64 n))), (29, .o (.v (.int .i64 i))), (11, .o (.p 11 0)), (34, .o (.w 34)), (35, .o (.v (.int .i64 m))), (36, .o (.v (.int .i64 j)))], [(4, ratM ⟨false, [], []⟩), (8, sqMB), (27, .own t_api_Segment 12 n (rowV sgC es)), (11, sgB (sgE e')), (34, .own t_api_Segment 12 m (rowV sgC fs)), (3, .own t_api_Rat 3 (l.length + 1) (rowV ratC ((r :: l).map Q)))], [SlRes A (rowV ptC a), SlRes B (rowV ptC b)]⟩)
       (fun ⟨j, L⟩ => j ≤ m ∧ L = ((es.take i).flatMap fun e => fs.map (edD e)) ++ (fs.take j).map (edD e')) (fun ⟨j, L⟩ => m - j) (0, []) ⟨Nat.zero_le _, by rw [← hL]; rfl⟩
       (SLe.id ⟨rfl, rfl, rfl, rfl, rfl, rfl, rfl, rfl, rfl, rfl, rfl, rfl, rfl, trivial⟩ ⟨⟨_, rfl, .refl _⟩, ⟨_, rfl, .refl _⟩, ⟨_, rfl, .refl _⟩, ⟨_, rfl, .refl _⟩, ⟨_, rfl, .refl _⟩, trivial⟩ (fun R hR => hR)) ?_
     rintro ⟨j, M⟩ ⟨hj, hM⟩
     have hMlen : M.length ≤ 4096 := by
       have h1 : M.length = min i es.length * m + j := by
         rw [hM, List.length_append, List.length_flatMap, List.length_map, List.length_take]
         simp only [List.length_map]
         rw [List.map_const', List.sum_replicate_nat, List.length_take, hfl, Nat.min_eq_left (show j ≤ m by omega)]
       have h2 : (i + 1) * m ≤ 64 * 64 := Nat.mul_le_mul (by omega) (by omega)
       rw [Nat.add_mul] at h2
       rw [Nat.min_eq_left (by omega)] at h1
       omega
     by_cases hjm : j < m
     · obtain ⟨f, hf⟩ : ∃ f, fs[j]? = some f := ⟨_, List.getElem?_eq_getElem (by omega)⟩
       obtain ⟨g1, g2, g3, g4, g5, g6, g7⟩ := hgood e' (List.mem_of_getElem? he) f (List.mem_of_getElem? hf)
       have hM2 : M ++ [edD e' f] = ((es.take i).flatMap fun e => fs.map (edD e)) ++ (fs.take (j + 1)).map (edD e') := by
         rw [hM, take_snoc' hf, List.map_append, List.append_assoc]; rfl
       rcases M with _ | ⟨s, M⟩
       · conv => whnf
         refine br_true (decide_eq_true (show (j : Int) < (m : Int) by omega)) ?_
         conv => whnf
         refine ⟨⟨by omega, by omega⟩, ?_⟩
         conv => whnf
         refine RowVC.elem sgC sgC_len (k := j) (by show (j : Int).toNat * 12 = j * 12; rw [Int.toNat_natCast]) (by omega) (by decide) (fun h => by cases h) ?_
         intro f' hf'
         obtain rfl : f' = f := by rw [hf] at hf'; exact (Option.some.inj hf').symm
         conv => whnf
         refine CallVC.fn (c_sqSegs (sgE e') (sgE f') g1 g2 g3 g4 g5 g6) rfl ?_
         rw [show segD sqPt (sgE e').A.v (sgE e').B.v (sgE f').A.v (sgE f').B.v = edD e' f' from rfl]
         conv => whnf
         refine ⟨by decide, ?_⟩
         conv => whnf
         exact ⟨(j + 1, [edD e' f']), ⟨by omega, hM2⟩, by show m - (j + 1) < m - j; omega, SLe.mk (fun k => bif Nat.beq k 3 then 46 else k) ⟨rfl, rfl, rfl, rfl, rfl, rfl, rfl, rfl, rfl, rfl, rfl, rfl, some_wrap hjm (by omega), trivial⟩ ⟨⟨_, rfl, .refl _⟩, ⟨_, rfl, .refl _⟩, ⟨_, rfl, .refl _⟩, ⟨_, rfl, .refl _⟩, ⟨_, rfl, .refl _⟩, ⟨_, rfl, .refl _⟩, trivial⟩ rfl (fun R hR => hR)⟩
       · have hMl : M.length ≤ 4096 := by simp only [List.length_cons] at hMlen; omega
         conv => whnf
         refine br_true (decide_eq_true (show (j : Int) < (m : Int) by omega)) ?_
         conv => whnf
         refine ⟨⟨by omega, by omega⟩, ?_⟩
         conv => whnf
         refine RowVC.elem sgC sgC_len (k := j) (by show (j : Int).toNat * 12 = j * 12; rw [Int.toNat_natCast]) (by omega) (by decide) (fun h => by cases h) ?_
         intro f' hf'
         obtain rfl : f' = f := by rw [hf] at hf'; exact (Option.some.inj hf').symm
         conv => whnf
         refine CallVC.fn (c_sqSegs (sgE e') (sgE f') g1 g2 g3 g4 g5 g6) rfl ?_
         rw [show segD sqPt (sgE e').A.v (sgE e').B.v (sgE f').A.v (sgE f').B.v = edD e' f' from rfl]
         conv => whnf
         refine ⟨by show M.length + 1 + 1 ≤ 9223372036854775807 ∧ (M.length + 1 + 1) * 40 ≤ 140737488355328; omega, ?_⟩
         conv => whnf
         refine ⟨(j + 1, s :: (M ++ [edD e' f'])), ⟨by omega, hM2⟩, by show m - (j + 1) < m - j; omega, SLe.mk (fun k => bif Nat.beq k 3 then 46 else k) ⟨rfl, rfl, rfl, rfl, rfl, rfl, rfl, rfl, rfl, rfl, rfl, rfl, some_wrap hjm (by omega), trivial⟩ ⟨⟨_, rfl, .refl _⟩, ⟨_, rfl, .refl _⟩, ⟨_, rfl, .refl _⟩, ⟨_, rfl, .refl _⟩, ⟨_, rfl, .refl _⟩, ⟨_, rfl, ?_⟩, trivial⟩ rfl (fun R hR => hR)⟩
         show MEle (ME.own t_api_Rat 3 (M.length + 1 + 1) (app (rowV ratC ((s :: M).map Q)) (ratC (Q (edD e' f'))))) (ME.own t_api_Rat 3 ((M ++ [edD e' f']).length + 1) (rowV ratC ((s :: (M ++ [edD e' f'])).map Q)))
         rw [app_eq, List.length_append, show (s :: (M ++ [edD e' f'])).map Q = (s :: M).map Q ++ [Q (edD e' f')] by simp, rowV_append]
         exact .refl _
     · obtain rfl : j = m := by omega
       rw [show fs.take j = fs from List.take_of_length_le (by omega)] at hM
       rw [← hnx] at hM
       rcases M with _ | ⟨s, M⟩
       · conv => whnf
         refine br_false (decide_eq_false (by omega)) ?_
         conv => whnf
         exact ⟨(i + 1, []), ⟨by omega, hM⟩, by show n - (i + 1) < n - i; omega, SLe.id ⟨rfl, rfl, rfl, rfl, rfl, rfl, rfl, rfl, some_wrap hin (by omega), trivial⟩ ⟨⟨_, rfl, .refl _⟩, ⟨_, rfl, .refl _⟩, ⟨_, rfl, .refl _⟩, trivial⟩ (fun R hR => hR)⟩
       · conv => whnf
         refine br_false (decide_eq_false (by omega)) ?_
         conv => whnf
         exact ⟨(i + 1, s :: M), ⟨by omega, hM⟩, by show n - (i + 1) < n - i; omega, SLe.id ⟨rfl, rfl, rfl, rfl, rfl, rfl, rfl, rfl, some_wrap hin (by omega), trivial⟩ ⟨⟨_, rfl, .refl _⟩, ⟨_, rfl, .refl _⟩, ⟨_, rfl, .refl _⟩, ⟨_, rfl, .refl _⟩, trivial⟩ (fun R hR => hR)⟩
   · conv => whnf
     refine br_true (decide_eq_true (show (i : Int) < (n : Int) by omega)) ?_
     conv => whnf
     refine ⟨⟨by omega, by omega⟩, ?_⟩
     conv => whnf
     refine RowVC.elem sgC sgC_len (k := i) (by show (i : Int).toNat * 12 = i * 12; rw [Int.toNat_natCast]) (by omega) (by decide) (fun h => by cases h) ?_
     intro e' he'
     obtain rfl : e' = e := by rw [he] at he'; exact (Option.some.inj he').symm
     conv => whnf
     refine CallVC.o 34 hEdB.enters (CallV.facts hEdB rfl (fun R hR => by rw [List.mem_singleton.1 hR]; exact List.mem_cons_of_mem _ (List.mem_cons_self ..))) rfl rfl ?_
     conv => whnf
     refine sexec_loop (ι := Nat × List Rat) (fun ⟨j, L⟩ => match L with
         | [] => ⟨[(0, .o (.v (.slice A n c))), (1, .o (.v (.slice B m d))), (4, .o (.p 4 0)), (5, .o (.v (.int .i64 0))), (8, .o (.p 8 0)), (9, .o (.v (.slice none 0 0))), (27, .o (.w 27)), (28, .o (.v (.int .i64 n))), (29, .o (.v (.int .i64 i))), (11, .o (.p 11 0)), (34, .o (.w 34)), (35, .o (.v (.int .i64 m))), (36, .o (.v (.int .i64 j)))], [(4, ratM ⟨false, [], []⟩), (8, sqMB), (27, .own t_api_Segment 12 n (rowV sgC es)), (11, sgB (sgE e')), (34, .own t_api_Segment 12 m (rowV sgC fs))], [SlRes A (rowV ptC a), SlRes B (rowV ptC b)]⟩
         | r :: l => ⟨[(0, .o (.v (.slice A n c))), (1, .o (.v (.slice B m d))), (4, .o (.p 4 0)), (5, .o (.v (.int .i64 0))), (8, .o (.p 8 0)), (9, .o (.w 3)), (27, .o (.w 27)), (28, .o (.v (.int .i64 n))), (29, .o (.v (.int .i64 i))), (11, .o (.p 11 0)), (34, .o (.w 34)), (35, .o (.v (.int .i64 m))), (36, .o (.v (.int .i64 j)))], [(4, ratM ⟨false, [], []⟩), (8, sqMB), (27, .own t_api_Segment 12 n (rowV sgC es)), (11, sgB (sgE e')), (34, .own t_api_Segment 12 m (rowV sgC fs)), (3, .own t_api_Rat 3 (l.length + 1) (rowV ratC ((r :: l).map Q)))], [SlRes A (rowV ptC a), SlRes B (rowV ptC b)]⟩)
       (fun ⟨j, L⟩ => j ≤ m ∧ L = ((es.take i).flatMap fun e => fs.map (edD e)) ++ (fs.take j).map (edD e')) (fun ⟨j, L⟩ => m - j) (0, r :: l) ⟨Nat.zero_le _, by rw [← hL]; simp⟩
       (SLe.id ⟨rfl, rfl, rfl, rfl, rfl, rfl, rfl, rfl, rfl, rfl, rfl, rfl, rfl, trivial⟩ ⟨⟨_, rfl, .refl _⟩, ⟨_, rfl, .refl _⟩, ⟨_, rfl, .refl _⟩, ⟨_, rfl, .refl _⟩, ⟨_, rfl, .refl _⟩, ⟨_, rfl, .refl _⟩, trivial⟩ (fun R hR => hR)) ?_
     rintro ⟨j, M⟩ ⟨hj, hM⟩
     have hMlen : M.length ≤ 4096 := by
       have h1 : M.length = min i es.length * m + j := by
         rw [hM, List.length_append, List.length_flatMap, List.length_map, List.length_take]
         simp only [List.length_map]
         rw [List.map_const', List.sum_replicate_nat, List.length_take, hfl, Nat.min_eq_left (show j ≤ m by omega)]
       have h2 : (i + 1) * m ≤ 64 * 64 := Nat.mul_le_mul (by omega) (by omega)
       rw [Nat.add_mul] at h2
       rw [Nat.min_eq_left (by omega)] at h1
       omega
     by_cases hjm : j < m
     · obtain ⟨f, hf⟩ : ∃ f, fs[j]? = some f := ⟨_, List.getElem?_eq_getElem (by omega)⟩
       obtain ⟨g1, g2, g3, g4, g5, g6, g7⟩ := hgood e' (List.mem_of_getElem? he) f (List.mem_of_getElem? hf)
       have hM2 : M ++ [edD e' f] = ((es.take i).flatMap fun e => fs.map (edD e)) ++ (fs.take (j + 1)).map (edD e') := by
         rw [hM, take_snoc' hf, List.map_append, List.append_assoc]; rfl
       rcases M with _ | ⟨s, M⟩
       · conv => whnf
         refine br_true (decide_eq_true (show (j : Int) < (m : Int) by omega)) ?_
         conv => whnf
         refine ⟨⟨by omega, by omega⟩, ?_⟩
         conv => whnf
         refine RowVC.elem sgC sgC_len (k := j) (by show (j : Int).toNat * 12 = j * 12; rw [Int.toNat_natCast]) (by omega) (by decide) (fun h => by cases h) ?_
         intro f' hf'
         obtain rfl : f' = f := by rw [hf] at hf'; exact (Option.some.inj hf').symm
         conv => whnf
         refine CallVC.fn (c_sqSegs (sgE e') (sgE f') g1 g2 g3 g4 g5 g6) rfl ?_
         rw [show segD sqPt (sgE e').A.v (sgE e').B.v (sgE f').A.v (sgE f').B.v = edD e' f' from rfl]
         conv => whnf
         refine ⟨by decide, ?_⟩
         conv => whnf
         exact ⟨(j + 1, [edD e' f']), ⟨by omega, hM2⟩, by show m - (j + 1) < m - j; omega, SLe.mk (fun k => bif Nat.beq k 3 then 46 else k) ⟨rfl, rfl, rfl, rfl, rfl, rfl, rfl, rfl, rfl, rfl, rfl, rfl, some_wrap hjm (by omega), trivial⟩ ⟨⟨_, rfl, .refl _⟩, ⟨_, rfl, .refl _⟩, ⟨_, rfl, .refl _⟩, ⟨_, rfl, .refl _⟩, ⟨_, rfl, .refl _⟩, ⟨_, rfl, .refl _⟩, trivial⟩ rfl (fun R hR => hR)⟩
       · have hMl : M.length ≤ 4096 := by simp only [List.length_cons] at hMlen; omega
         conv => whnf
         refine br_true (decide_eq_true (show (j : Int) < (m : Int) by omega)) ?_
         conv => whnf
         refine ⟨⟨by omega, by omega⟩, ?_⟩
         conv => whnf
         refine RowVC.elem sgC sgC_len (k := j) (by show (j : Int).toNat * 12 = j * 12; rw [Int.toNat_natCast]) (by omega) (by decide) (fun h => by cases h) ?_
         intro f' hf'
         obtain rfl : f' = f := by rw [hf] at hf'; exact (Option.some.inj hf').symm
         conv => whnf
         refine CallVC.fn (c_sqSegs (sgE e') (sgE f') g1 g2 g3 g4 g5 g6) rfl ?_
         rw [show segD sqPt (sgE e').A.v (sgE e').B.v (sgE f').A.v (sgE f').B.v = edD e' f' from rfl]
         conv => whnf
         refine ⟨by show M.length + 1 + 1 ≤ 9223372036854775807 ∧ (M.length + 1 + 1) * 40 ≤ 140737488355328; omega, ?_⟩
         conv => whnf
         refine ⟨(j + 1, s :: (M ++ [edD e' f'])), ⟨by omega, hM2⟩, by show m - (j + 1) < m - j; omega, SLe.mk (fun k => bif Nat.beq k 3 then 46 else k) ⟨rfl, rfl, rfl, rfl, rfl, rfl, rfl, rfl, rfl, rfl, rfl, rfl, some_wrap hjm (by omega), trivial⟩ ⟨⟨_, rfl, .refl _⟩, ⟨_, rfl, .refl _⟩, ⟨_, rfl, .refl _⟩, ⟨_, rfl, .refl _⟩, ⟨_, rfl, .refl _⟩, ⟨_, rfl, ?_⟩, trivial⟩ rfl (fun R hR => hR)⟩
         show MEle (ME.own t_api_Rat 3 (M.length + 1 + 1) (app (rowV ratC ((s :: M).map Q)) (ratC (Q (edD e' f'))))) (ME.own t_api_Rat 3 ((M ++ [edD e' f']).length + 1) (rowV ratC ((s :: (M ++ [edD e' f'])).map Q)))
         rw [app_eq, List.length_append, show (s :: (M ++ [edD e' f'])).map Q = (s :: M).map Q ++ [Q (edD e' f')] by simp, rowV_append]
         exact .refl _
     · obtain rfl : j = m := by omega
       rw [show fs.take j = fs from List.take_of_length_le (by omega)] at hM
       rw [← hnx] at hM
       rcases M with _ | ⟨s, M⟩
       · conv => whnf
         refine br_false (decide_eq_false (by omega)) ?_
         conv => whnf
         exact ⟨(i + 1, []), ⟨by omega, hM⟩, by show n - (i + 1) < n - i; omega, SLe.id ⟨rfl, rfl, rfl, rfl, rfl, rfl, rfl, rfl, some_wrap hin (by omega), trivial⟩ ⟨⟨_, rfl, .refl _⟩, ⟨_, rfl, .refl _⟩, ⟨_, rfl, .refl _⟩, trivial⟩ (fun R hR => hR)⟩
       · conv => whnf
         refine br_false (decide_eq_false (by omega)) ?_
         conv => whnf
         exact ⟨(i + 1, s :: M), ⟨by omega, hM⟩, by show n - (i + 1) < n - i; omega, SLe.id ⟨rfl, rfl, rfl, rfl, rfl, rfl, rfl, rfl, some_wrap hin (by omega), trivial⟩ ⟨⟨_, rfl, .refl _⟩, ⟨_, rfl, .refl _⟩, ⟨_, rfl, .refl _⟩, ⟨_, rfl, .refl _⟩, trivial⟩ (fun R hR => hR)⟩
 · obtain rfl : i = n := by omega
   rw [List.take_of_length_le (by omega)] at hL
   have hpos : 0 < es.length ∧ 0 < fs.length := by omega
   rcases L with _ | ⟨r, l⟩
   · exfalso
     rcases es with _ | ⟨e, es⟩
     · simp at hpos
     rcases fs with _ | ⟨f, fs⟩
     · simp at hpos
     simp at hL
   · rw [← hL]
     have hszs : ∀ x ∈ r :: l, Sz 1000000 x := fun x hx => by
       rw [hL] at hx
       obtain ⟨e, he, hx⟩ := List.mem_flatMap.1 hx
       obtain ⟨f, hf, rfl⟩ := List.mem_map.1 hx
       exact (hgood e he f hf).2.2.2.2.2.2
     have hlen : (r :: l).length ≤ 4096 := by
       rw [hL, List.length_flatMap]
       simp only [List.length_map]
       rw [List.map_const', List.sum_replicate_nat, hel, hfl]
       exact Nat.le_trans (Nat.mul_le_mul (show i ≤ 64 by omega) (show m ≤ 64 by omega)) (by decide)
     conv => whnf
     refine br_false (decide_eq_false (by omega)) ?_
     conv => whnf
     have hx := fun A c hc => c_least A c (Q r) (l.map Q) (by simp only [List.length_cons, List.length_map] at hlen ⊢; omega) hc (by
       intro x hx
       rcases List.mem_cons.1 hx with rfl | hx
       · exact (hszs r (List.mem_cons_self ..)).q.le (by decide)
       · obtain ⟨y, hy, rfl⟩ := List.mem_map.1 hx
         exact (hszs y (List.mem_cons_of_mem _ hy)).q.le (by decide))
     rw [extR_Q, List.length_cons, List.length_map] at hx
     refine CallVC.v (hx none (l.length + 1) (Nat.le_refl _)).enters (CallV.sl1 (x := .o (.w 3)) (fun z => [z]) (RdA.own rfl) (List.mem_cons_self ..) (fun _ => rfl) hx) ?_
     conv => whnf
     exact postV_two rfl
end Go.Sx
end
section
set_option maxRecDepth 10000
set_option maxHeartbeats 2000000
namespace Go.Sx
open Go Go.Proofs
theorem bsd_idx (a b : List Pt) : (bsdL a b).isSome = decide (idxF (bsdP b) 0 (edgesL a) ≥ 0) := by
 rw [idxF_any, bsdL, Bool.eq_iff_iff, List.find?_isSome, List.any_eq_true]
theorem sep_some (a b : List Pt) : (sepL a b).isSome = ((bsdL a b).isSome || (bsdL b a).isSome) := by
 unfold sepL; cases bsdL a b <;> rfl
theorem r_cvTouch (A B : Option Addr) (c d : Nat) (a b : List Pt) (hsa : Lsm KS a) (hsb : Lsm KS b) :
   FnM PP f_narrowsref13_Touch [.slice A a.length c, .slice B b.length d] (facts [SlRes A (rowV ptC a), SlRes B (rowV ptC b)]) (retsV (.tuple #[.bool (tchL a b).1, .int .i64 (tchL a b).2])) := by
 refine FnS.of TBgood mixed h_narrowsref13_Touch rfl rfl (Nat.le_of_ble_eq_true rfl) (by simp [SlRes.ok]) ?_
 intro w hw
 conv => whnf
 refine CallVC.v (r_cvRings A B c d a b hsa hsb).enters (CallV.facts (r_cvRings A B c d a b hsa hsb) rfl (fun R hR => hR)) ?_
 by_cases hk : chkC a ≠ 0 ∨ chkC b ≠ 0
 · have h1 : (decide (chkC a = 0) && decide (chkC b = 0)) = false := by
     rcases hk with h | h
     · rw [decide_eq_false h, Bool.false_and]
     · rw [decide_eq_false h, Bool.and_false]
   rw [h1, tchL, if_pos hk]
   conv => whnf
   exact postV_two rfl
 have ha : chkC a = 0 := by by_cases h : chkC a = 0; exact h; exact absurd (.inl h) hk
 have hb : chkC b = 0 := by by_cases h : chkC b = 0; exact h; exact absurd (.inr h) hk
 have la := chkC_len ha
 have lb := chkC_len hb
 rw [ha, hb, tchL, if_neg hk, sep_some, bsd_idx, bsd_idx]
 conv => whnf
 refine CallVC.v (r_cvSep A B c d a b (by omega) (by omega) hsa hsb).enters (CallV.facts (r_cvSep A B c d a b (by omega) (by omega) hsa hsb) rfl (fun R hR => hR)) ?_
 conv => whnf
 by_cases h1 : idxF (bsdP b) 0 (edgesL a) < 0
 rotate_left
 · refine br_false (decide_eq_false h1) ?_
   conv => whnf
   refine postV_two ?_
   rw [decide_eq_true (show idxF (bsdP b) 0 (edgesL a) ≥ 0 by omega)]; rfl
 refine br_true (decide_eq_true h1) ?_
 conv => whnf
 refine CallVC.v (r_cvSep B A d c b a (by omega) (by omega) hsb hsa).enters (CallV.facts (r_cvSep B A d c b a (by omega) (by omega) hsb hsa) rfl (fun R hR => by
     simp only [List.mem_cons, List.not_mem_nil, or_false] at hR
     rcases hR with rfl | rfl
     · exact List.mem_cons_of_mem _ (List.mem_cons_self ..)
     · exact List.mem_cons_self ..)) ?_
 conv => whnf
 refine postV_two ?_
 rw [decide_eq_false (show ¬ idxF (bsdP b) 0 (edgesL a) ≥ 0 by omega), Bool.false_or]
 by_cases h2 : idxF (bsdP a) 0 (edgesL b) < 0
 · rw [decide_eq_true h2, decide_eq_false (by omega)]; rfl
 · rw [decide_eq_false h2, decide_eq_true (by omega)]; rfl
def stepP (m : Rat) (x : (Pt × Pt) × (Pt × Pt)) : Rat := mnQ m (mnQ (sqPt x.1.1.v x.1.2.v x.2.1.v) (sqPt x.2.1.v x.2.2.v x.1.1.v))
def prs2 (es fs : List (Pt × Pt)) : List ((Pt × Pt) × (Pt × Pt)) := es.flatMap fun e => fs.map fun f => (e, f)
def sqCR (a b : List Pt) : Rat × Int := if (tchL a b).2 ≠ 0 then (0, 1) else if (tchL a b).1 = true then (0, 0) else ((prs2 (edgesL a) (edgesL b)).foldl stepP ((at_ a 0).sq (at_ b 0)), 0)
theorem mnQ_sz {a b : Rat} {k : Nat} (ha : Sz k a) (hb : Sz k b) : Sz k (mnQ a b) := by unfold mnQ; split; exact hb; exact ha
theorem r_dSquareConvex (A B : Option Addr) (c d : Nat) (a b : List Pt) (hsa : Lsm KS a) (hsb : Lsm KS b) :
   FnM PP f_narrowsref26_SquareConvex [.slice A a.length c, .slice B b.length d] (facts [SlRes A (rowV ptC a), SlRes B (rowV ptC b)]) (retsV (rerV (sqCR a b))) := by
 refine FnS.of TBgood mixed h_narrowsref26_SquareConvex rfl rfl (Nat.le_of_ble_eq_true rfl) (by simp [SlRes.ok]) ?_
 intro w hw
 have hA0 : 0 < a.length → A.isSome = true := fun h => slres_some (facts_two hw).1 (by rw [rowV_length ptC_len]; omega)
 have hB0 : 0 < b.length → B.isSome = true := fun h => slres_some (facts_two hw).2 (by rw [rowV_length ptC_len]; omega)
 conv => whnf
 refine CallVC.v (r_cvTouch A B c d a b hsa hsb).enters (CallV.facts (r_cvTouch A B c d a b hsa hsb) rfl (fun R hR => hR)) ?_
 by_cases hk : chkC a ≠ 0 ∨ chkC b ≠ 0
 · have e1 : sqCR a b = (0, 1) := by rw [sqCR, tchL, if_pos hk]; rfl
   rw [e1, tchL, if_pos hk]
   conv => whnf
   exact postV_two (by rw [rerV, qV, rawV0])
 have va := cvx_of (l := a) (by by_cases h : chkC a = 0; exact h; exact absurd (.inl h) hk)
 have vb := cvx_of (l := b) (by by_cases h : chkC b = 0; exact h; exact absurd (.inr h) hk)
 have n3 := va.n3
 have n64 := va.n64
 have m3 := vb.n3
 have m64 := vb.n64
 have e2 : (sepL a b).isSome = false → sqCR a b = (0, 0) := fun h => by rw [sqCR, tchL, if_neg hk, h]; rfl
 have e3 : (sepL a b).isSome = true → sqCR a b = ((prs2 (edgesL a) (edgesL b)).foldl stepP ((at_ a 0).sq (at_ b 0)), 0) := fun h => by rw [sqCR, tchL, if_neg hk, h]; rfl
 rw [tchL, if_neg hk]
 cases hs : (sepL a b).isSome with
 | false =>
   rw [e2 hs]
   conv => whnf
   exact postV_two (by rw [rerV, qV, rawV0])
 | true =>
 rw [e3 hs]
 have hA := hA0 (by omega)
 have hB := hB0 (by omega)
 obtain ⟨n, hn⟩ : ∃ n, n = a.length := ⟨_, rfl⟩
 obtain ⟨m, hm⟩ : ∃ m, m = b.length := ⟨_, rfl⟩
 obtain ⟨es, hes⟩ : ∃ es, es = edgesL a := ⟨_, rfl⟩
 obtain ⟨fs, hfs⟩ : ∃ fs, fs = edgesL b := ⟨_, rfl⟩
 have hel : es.length = n := by rw [hes, edgesL_len, hn]
 have hfl : fs.length = m := by rw [hfs, edgesL_len, hm]
 obtain ⟨o, ho⟩ : ∃ o, a[0]? = some o := ⟨_, List.getElem?_eq_getElem (by omega)⟩
 obtain ⟨o2, ho2⟩ : ∃ o, b[0]? = some o := ⟨_, List.getElem?_eq_getElem (by omega)⟩
 have hos := hsa o (List.mem_of_getElem? ho)
 have ho2s := hsb o2 (List.mem_of_getElem? ho2)
 have z0 : Sz 1000000 (o.v.sq o2.v) := (V.sq_sz (hos.sz (by decide)) (ho2s.sz (by decide))).le (by decide)
 rw [at_get ho, at_get ho2, ← hes, ← hfs, ← hn, ← hm]
 conv => whnf
 refine DrawVC.quiet (by kernel_rfl) ?_
 conv => whnf
 refine ⟨⟨by decide, by omega, hA⟩, ?_⟩
 conv => whnf
 refine LoadVC.elem (A := A) (xs := a) (j := ((0 : Nat) : Int)) ptC ptC_len (List.mem_cons_self ..) rfl (by show 0 < a.length; omega) (by decide) (fun h => by cases h) ?_
 intro o' ho'
 obtain rfl : o' = o := elem_eq ho' ho
 conv => whnf
 refine ⟨⟨by decide, by omega, hB⟩, ?_⟩
 conv => whnf
 refine LoadVC.elem (A := B) (xs := b) (j := ((0 : Nat) : Int)) ptC ptC_len (List.mem_cons_of_mem _ (List.mem_singleton.2 rfl)) rfl (by show 0 < b.length; omega) (by decide) (fun h => by cases h) ?_
 intro o3 ho3
 obtain rfl : o3 = o2 := elem_eq ho3 ho2
 conv => whnf
 refine CallVCd.fn (r_vSquare o' o3 (hos.le (by decide)) (ho2s.le (by decide))) rfl ?_
 conv => whnf
 obtain ⟨TOT, hTOT⟩ : ∃ T, T = (prs2 es fs).foldl stepP (o'.v.sq o3.v) := ⟨_, rfl⟩
 rw [← hTOT]
 refine sexec_loop (ι := Nat × Rat) (fun ⟨i, s⟩ => ⟨[(0, .o (.v (.slice A n c))), (1, .o (.v (.slice B m d))), (4, .o (.p 4 0)), (5, .o (.v (.int .i64 0))), (8, .o (.p 8 0)), (9, .o (.v (.int .i64 i)))], [(4, ratM ⟨false, [], []⟩), (8, ratM (Q s))], [SlRes A (rowV ptC a), SlRes B (rowV ptC b)]⟩)
   (fun ⟨i, s⟩ => i ≤ n ∧ TOT = (prs2 (es.drop i) fs).foldl stepP s ∧ Sz 1000000 s) (fun ⟨i, s⟩ => n - i) (0, o'.v.sq o3.v) ⟨Nat.zero_le _, hTOT, z0⟩
   (SLe.id ⟨rfl, rfl, rfl, rfl, rfl, rfl, trivial⟩ ⟨⟨_, rfl, .refl _⟩, ⟨_, rfl, .refl _⟩, trivial⟩ (fun R hR => hR)) ?_
 rintro ⟨i, s⟩ ⟨hi, hT, hss⟩
 conv => whnf
 refine br_split ?_ ?_
 · intro h
   have hi2 : i < n := by
     have : (i : Int) < (n : Int) := of_decide_eq_true h
     omega
   obtain ⟨p, hp⟩ : ∃ p, a[i]? = some p := ⟨_, List.getElem?_eq_getElem (by omega)⟩
   have hm1 : (i + 1) % n < n := Nat.mod_lt _ (by omega)
   obtain ⟨q, hq⟩ : ∃ q, a[(i + 1) % n]? = some q := ⟨_, List.getElem?_eq_getElem (by omega)⟩
   have he : es[i]? = some (p, q) := by rw [hes, edgesL_get (by omega), getD_of hp, ← hn, getD_of hq]
   have r1 := rem_mod (i := i) (k := 1) (n := n) (by omega) (by omega) (by omega)
   have hps := hsa p (List.mem_of_getElem? hp)
   have hqs := hsa q (List.mem_of_getElem? hq)
   rw [drop_cons he, prs2, List.flatMap_cons] at hT
   conv => whnf
   refine sexec_loop (ι := Nat × Rat) (fun ⟨j, s⟩ => ⟨[(0, .o (.v (.slice A n c))), (1, .o (.v (.slice B m d))), (4, .o (.p 4 0)), (5, .o (.v (.int .i64 0))), (8, .o (.p 8 0)), (9, .o (.v (.int .i64 i))), (10, .o (.v (.int .i64 j)))], [(4, ratM ⟨false, [], []⟩), (8, ratM (Q s))], [SlRes A (rowV ptC a), SlRes B (rowV ptC b)]⟩)
     (fun ⟨j, s⟩ => j ≤ m ∧ TOT = ((fs.drop j).map (fun f => ((p, q), f)) ++ prs2 (es.drop (i + 1)) fs).foldl stepP s ∧ Sz 1000000 s) (fun ⟨j, s⟩ => m - j) (0, s) ⟨Nat.zero_le _, hT, hss⟩
     (SLe.id ⟨rfl, rfl, rfl, rfl, rfl, rfl, rfl, trivial⟩ ⟨⟨_, rfl, .refl _⟩, ⟨_, rfl, .refl _⟩, trivial⟩ (fun R hR => hR)) ?_
   rintro ⟨j, s⟩ ⟨hj, hT, hss⟩
   conv => whnf
   refine br_split ?_ ?_
   · intro h
     have hj2 : j < m := by
       have : (j : Int) < (m : Int) := of_decide_eq_true h
       omega
     obtain ⟨r, hr⟩ : ∃ r, b[j]? = some r := ⟨_, List.getElem?_eq_getElem (by omega)⟩
     have hm2 : (j + 1) % m < m := Nat.mod_lt _ (by omega)
     obtain ⟨t, ht⟩ : ∃ t, b[(j + 1) % m]? = some t := ⟨_, List.getElem?_eq_getElem (by omega)⟩
     have hf : fs[j]? = some (r, t) := by rw [hfs, edgesL_get (by omega), getD_of hr, ← hm, getD_of ht]
     have r2 := rem_mod (i := j) (k := 1) (n := m) (by omega) (by omega) (by omega)
     have hrs := hsb r (List.mem_of_getElem? hr)
     have hts := hsb t (List.mem_of_getElem? ht)
     rw [drop_cons hf, List.map_cons, List.cons_append, List.foldl_cons] at hT
     conv => whnf
     refine DrawVC.quiet (by kernel_rfl) ?_
     conv => whnf
     refine ⟨⟨by omega, by omega, hA⟩, ?_⟩
     conv => whnf
     refine LoadVC.elem (A := A) (xs := a) (j := (i : Int)) ptC ptC_len (List.mem_cons_self ..) rfl (by rw [Int.toNat_natCast]; omega) (by decide) (fun h => by cases h) ?_
     intro p' hp'
     obtain rfl := elem_eq hp' hp
     conv => whnf
     refine ⟨by omega, ?_⟩
     conv => whnf
     refine ⟨⟨by show 0 ≤ (IntKind.i64.wrap ((i : Int) + 1)).tmod (n : Int); rw [show ((i : Int) + 1) = (i : Int) + ((1 : Nat) : Int) from rfl, r1]; omega, by show (IntKind.i64.wrap ((i : Int) + 1)).tmod (n : Int) < (n : Int); rw [show ((i : Int) + 1) = (i : Int) + ((1 : Nat) : Int) from rfl, r1]; omega, hA⟩, ?_⟩
     conv => whnf
     refine LoadVC.elem (A := A) (xs := a) (j := (((i + 1) % n : Nat) : Int)) ptC ptC_len (List.mem_cons_self ..) (by show A.map (fun x => x.add (((IntKind.i64.wrap ((i : Int) + ((1 : Nat) : Int))).tmod (n : Int)).toNat * 6)) = _; rw [r1]; rfl) (by rw [Int.toNat_natCast]; omega) (by decide) (fun h => by cases h) ?_
     intro q' hq'
     obtain rfl := elem_eq hq' hq
     conv => whnf
     refine DrawVC.quiet (by kernel_rfl) ?_
     conv => whnf
     refine ⟨⟨by omega, by omega, hB⟩, ?_⟩
     conv => whnf
     refine LoadVC.elem (A := B) (xs := b) (j := (j : Int)) ptC ptC_len (List.mem_cons_of_mem _ (List.mem_singleton.2 rfl)) rfl (by rw [Int.toNat_natCast]; omega) (by decide) (fun h => by cases h) ?_
     intro r' hr'
     obtain rfl := elem_eq hr' hr
     conv => whnf
     refine ⟨by omega, ?_⟩
     conv => whnf
     refine ⟨⟨by show 0 ≤ (IntKind.i64.wrap ((j : Int) + 1)).tmod (m : Int); rw [show ((j : Int) + 1) = (j : Int) + ((1 : Nat) : Int) from rfl, r2]; omega, by show (IntKind.i64.wrap ((j : Int) + 1)).tmod (m : Int) < (m : Int); rw [show ((j : Int) + 1) = (j : Int) + ((1 : Nat) : Int) from rfl, r2]; omega, hB⟩, ?_⟩
     conv => whnf
     refine LoadVC.elem (A := B) (xs := b) (j := (((j + 1) % m : Nat) : Int)) ptC ptC_len (List.mem_cons_of_mem _ (List.mem_singleton.2 rfl)) (by show B.map (fun x => x.add (((IntKind.i64.wrap ((j : Int) + ((1 : Nat) : Int))).tmod (m : Int)).toNat * 6)) = _; rw [r2]; rfl) (by rw [Int.toNat_natCast]; omega) (by decide) (fun h => by cases h) ?_
     intro t' ht'
     obtain rfl := elem_eq ht' ht
     have zp := hps.sz (k := KS) (by decide)
     have zq := hqs.sz (k := KS) (by decide)
     have zr := hrs.sz (k := KS) (by decide)
     have zt := hts.sz (k := KS) (by decide)
     have y1 := sqPt_sz zp zq zr
     have y2 := sqPt_sz zr zt zp
     conv => whnf
     refine DrawVC.quiet (by kernel_rfl) ?_
     conv => whnf
     refine CallVCd.fn (r_square ⟨p', q'⟩ r' ⟨hps, hqs⟩ hrs) rfl ?_
     conv => whnf
     refine CallVCd.fn (r_square ⟨r', t'⟩ p' ⟨hrs, hts⟩ hps) rfl ?_
     conv => whnf
     refine CallVCd.fn (r_rMin (Q (sqPt p'.v q'.v r'.v)) (Q (sqPt r'.v t'.v p'.v)) (y1.q.le (by decide)) (y2.q.le (by decide))) rfl ?_
     rw [mnR_Q]
     conv => whnf
     refine CallVCd.fn (r_rMin (Q s) (Q (mnQ (sqPt p'.v q'.v r'.v) (sqPt r'.v t'.v p'.v))) (hss.q.le (by decide)) ((mnQ_sz y1 y2).q.le (by decide))) rfl ?_
     rw [mnR_Q]
     conv => whnf
     exact ⟨(j + 1, mnQ s (mnQ (sqPt p'.v q'.v r'.v) (sqPt r'.v t'.v p'.v))), ⟨by omega, hT, mnQ_sz hss (mnQ_sz y1 y2)⟩, by show m - (j + 1) < m - j; omega, SLe.id ⟨rfl, rfl, rfl, rfl, rfl, rfl, some_wrap hj2 (by omega), trivial⟩ ⟨⟨_, rfl, .refl _⟩, ⟨_, rfl, .refl _⟩, trivial⟩ (fun R hR => hR)⟩
   · intro h
     have hj2 : j = m := by
       have : ¬ (j : Int) < (m : Int) := of_decide_eq_false h
       omega
     rw [hj2, show fs.drop m = [] from List.drop_of_length_le (by omega)] at hT
     conv => whnf
     exact ⟨(i + 1, s), ⟨by omega, hT, hss⟩, by show n - (i + 1) < n - i; omega, SLe.id ⟨rfl, rfl, rfl, rfl, rfl, some_wrap hi2 (by omega), trivial⟩ ⟨⟨_, rfl, .refl _⟩, ⟨_, rfl, .refl _⟩, trivial⟩ (fun R hR => hR)⟩
 · intro h
   have hi2 : i = n := by
     have : ¬ (i : Int) < (n : Int) := of_decide_eq_false h
     omega
   rw [hi2, show es.drop n = [] from List.drop_of_length_le (by omega)] at hT
   rw [hT]
   conv => whnf
   exact postV_two rfl
end Go.Sx
end
section
namespace Go.Sx
theorem ori_at (A B x y : V) (t : Rat) : ori A B (x.at y t) = ori A B x * (1 - t) + ori A B y * t := by
 simp only [ori, V.cross, V.sub_x, V.sub_y, V.at_x, V.at_y]; grind
theorem ori_self1 (A B : V) : ori A B A = 0 := by simp only [ori, V.cross, V.sub_x, V.sub_y]; grind
theorem ori_self2 (A B : V) : ori A B B = 0 := by simp only [ori, V.cross, V.sub_x, V.sub_y]; grind
theorem edge_idx {l : List Pt} {e : Pt × Pt} (he : e ∈ edgesL l) : ∃ i, i < l.length ∧ e = (l.getD i P0, l.getD ((i + 1) % l.length) P0) := by
 obtain ⟨i, hi⟩ := List.getElem?_of_mem he
 have hil : i < l.length := by rw [← edgesL_len l]; exact (List.getElem?_eq_some_iff.1 hi).1
 rw [edgesL_get hil] at hi
 exact ⟨i, hil, (Option.some.inj hi).symm⟩
theorem edge_ends {l : List Pt} {e : Pt × Pt} (he : e ∈ edgesL l) : e.1 ∈ l ∧ e.2 ∈ l ∧ ∃ e' ∈ edgesL l, e'.1 = e.2 := by
 obtain ⟨i, hi, rfl⟩ := edge_idx he
 have hm : (i + 1) % l.length < l.length := Nat.mod_lt _ (by omega)
 exact ⟨getD_mem' hi, getD_mem' hm, _, List.mem_of_getElem? (edgesL_get hm), rfl⟩
theorem Cvx.side {l : List Pt} (h : Cvx l) {e : Pt × Pt} (he : e ∈ edgesL l) {x : Pt} (hx : x ∈ l) : 0 ≤ ori e.1.v e.2.v x.v := by
 obtain ⟨i, hi, rfl⟩ := edge_idx he
 obtain ⟨k, hk⟩ := List.getElem?_of_mem hx
 have hkl : k < l.length := (List.getElem?_eq_some_iff.1 hk).1
 have hxk : x.v = at_ l k := (at_get hk).symm
 rw [hxk]
 show 0 ≤ ori (at_ l i) (at_ l ((i + 1) % l.length)) (at_ l k)
 by_cases h1 : at_ l k = at_ l i
 · rw [h1, ori_self1]; exact Rat.le_refl
 by_cases h2 : at_ l k = at_ l ((i + 1) % l.length)
 · rw [h2, ori_self2]; exact Rat.le_refl
 exact Rat.le_of_lt (h.left i k hi hkl h1 h2)
theorem Cvx.edge_side {l : List Pt} (h : Cvx l) {e d : Pt × Pt} (he : e ∈ edgesL l) (hd : d ∈ edgesL l) {p : V} (hp : onS d.1.v d.2.v p) : 0 ≤ ori e.1.v e.2.v p := by
 obtain ⟨t, ⟨h0, h1⟩, rfl⟩ := hp
 obtain ⟨m1, m2, _⟩ := edge_ends hd
 have k1 := Rat.mul_nonneg (h.side he m1) (show 0 ≤ 1 - t by grind)
 have k2 := Rat.mul_nonneg (h.side he m2) h0
 rw [ori_at]; grind
theorem bsd_right {b : List Pt} {e : Pt × Pt} (h : bsdP b e = true) {x : Pt} (hx : x ∈ b) : ori e.1.v e.2.v x.v < 0 := by
 have h2 : (b.any fun r => !rightB e.1 e.2 r) = false := by simpa [bsdP] using h
 have h3 := List.any_eq_false.1 h2 x hx
 have h4 : rightB e.1 e.2 x = true := by simpa using h3
 exact cmpQ_lt.1 (of_decide_eq_true h4)
theorem bsd_edge {b : List Pt} {e d : Pt × Pt} (h : bsdP b e = true) (hd : d ∈ edgesL b) {p : V} (hp : onS d.1.v d.2.v p) : ori e.1.v e.2.v p < 0 := by
 obtain ⟨t, ⟨h0, h1⟩, rfl⟩ := hp
 obtain ⟨m1, m2, _⟩ := edge_ends hd
 have b1 := bsd_right h m1
 have b2 := bsd_right h m2
 rw [ori_at]
 by_cases ht : t = 0
 · rw [ht]; grind
 · have k2 := mpos (show 0 < -ori e.1.v e.2.v d.2.v by grind) (show 0 < t by grind)
   have k1 := Rat.mul_nonneg (show 0 ≤ -ori e.1.v e.2.v d.1.v by grind) (show 0 ≤ 1 - t by grind)
   grind
theorem apart {a b : List Pt} (ha : Cvx a) (hb : Cvx b) (hs : (sepL a b).isSome = true) {e f : Pt × Pt} (he : e ∈ edgesL a) (hf : f ∈ edgesL b) {p : V} (hp : onS e.1.v e.2.v p) (hq : onS f.1.v f.2.v p) : False := by
 rw [sep_some, Bool.or_eq_true] at hs
 rcases hs with h | h
 · obtain ⟨d, hd⟩ := Option.isSome_iff_exists.1 h
   have h1 := List.mem_of_find?_eq_some hd
   have h2 := List.find?_some hd
   have k1 := ha.edge_side h1 he hp
   have k2 := bsd_edge h2 hf hq
   grind
 · obtain ⟨d, hd⟩ := Option.isSome_iff_exists.1 h
   have h1 := List.mem_of_find?_eq_some hd
   have h2 := List.find?_some hd
   have k1 := hb.edge_side h1 hf hq
   have k2 := bsd_edge h2 he hp
   grind
theorem extm_le {m : Rat} : ∀ (l : List Rat) (x : Rat), m ≤ extQ (-1) x l ↔ m ≤ x ∧ ∀ r ∈ l, m ≤ r
 | [], x => by simp [extQ]
 | r :: l, x => by
   rw [extQ, extm_le l]
   by_cases h : cmpQ r x = -1
   · have h1 : r < x := cmpQ_lt.1 (by omega)
     rw [if_pos h]
     constructor
     · rintro ⟨k1, k2⟩; exact ⟨by grind, fun y hy => by rcases List.mem_cons.1 hy with rfl | hy; exact k1; exact k2 y hy⟩
     · rintro ⟨k1, k2⟩; exact ⟨k2 r (List.mem_cons_self ..), fun y hy => k2 y (List.mem_cons_of_mem _ hy)⟩
   · have h1 : ¬ r < x := fun k => h (by have := cmpQ_val r x; have := cmpQ_lt.2 k; omega)
     rw [if_neg h]
     constructor
     · rintro ⟨k1, k2⟩; exact ⟨k1, fun y hy => by rcases List.mem_cons.1 hy with rfl | hy; grind; exact k2 y hy⟩
     · rintro ⟨k1, k2⟩; exact ⟨k1, fun y hy => k2 y (List.mem_cons_of_mem _ hy)⟩
theorem fold_le {α : Type} {z : Rat} (g : α → Rat) : ∀ (l : List α) (m : Rat), z ≤ l.foldl (fun m x => mnQ m (g x)) m ↔ z ≤ m ∧ ∀ x ∈ l, z ≤ g x
 | [], m => by simp
 | x :: l, m => by
   rw [List.foldl_cons, fold_le g l, mnQ_le]
   constructor
   · rintro ⟨⟨k1, k2⟩, k3⟩; exact ⟨k1, fun y hy => by rcases List.mem_cons.1 hy with rfl | hy; exact k2; exact k3 y hy⟩
   · rintro ⟨k1, k2⟩; exact ⟨⟨k1, k2 x (List.mem_cons_self ..)⟩, fun y hy => k2 y (List.mem_cons_of_mem _ hy)⟩
theorem lst_le {z : Rat} {l : List Rat} (h : l ≠ []) : z ≤ lstQ l ↔ ∀ r ∈ l, z ≤ r := by
 rcases l with _ | ⟨x, l⟩
 · exact absurd rfl h
 · rw [lstQ, extm_le]
   constructor
   · rintro ⟨k1, k2⟩ y hy; rcases List.mem_cons.1 hy with rfl | hy; exact k1; exact k2 y hy
   · intro k; exact ⟨k x (List.mem_cons_self ..), fun y hy => k y (List.mem_cons_of_mem _ hy)⟩
theorem first_edge {l : List Pt} (h : 0 < l.length) : ∃ e ∈ edgesL l, e.1.v = at_ l 0 := ⟨_, List.mem_of_getElem? (edgesL_get h), rfl⟩
theorem prs_mem {a b : List Pt} {z : Rat} : (∀ r ∈ prsD a b, z ≤ r) ↔ ∀ e ∈ edgesL a, ∀ f ∈ edgesL b, z ≤ edD e f := by
 constructor
 · intro h e he f hf; exact h _ (List.mem_flatMap.2 ⟨e, he, List.mem_map_of_mem hf⟩)
 · intro h r hr
   obtain ⟨e, he, hr⟩ := List.mem_flatMap.1 hr
   obtain ⟨f, hf, rfl⟩ := List.mem_map.1 hr
   exact h e he f hf
theorem prs_ne {a b : List Pt} (ha : 0 < a.length) (hb : 0 < b.length) : prsD a b ≠ [] := fun h => by
 obtain ⟨e, he, _⟩ := first_edge ha
 obtain ⟨f, hf, _⟩ := first_edge hb
 have : edD e f ∈ prsD a b := List.mem_flatMap.2 ⟨e, he, List.mem_map_of_mem hf⟩
 rw [h] at this; cases this
theorem sqC_le {a b : List Pt} (ha : Cvx a) (hb : Cvx b) (hs : (sepL a b).isSome = true) {z : Rat} : z ≤ lstQ (prsD a b) ↔ ∀ e ∈ edgesL a, ∀ f ∈ edgesL b, z ≤ sqPt e.1.v e.2.v f.1.v ∧ z ≤ sqPt f.1.v f.2.v e.1.v := by
 have n3 := ha.n3
 have m3 := hb.n3
 rw [lst_le (prs_ne (by omega) (by omega)), prs_mem]
 have hed : ∀ e ∈ edgesL a, ∀ f ∈ edgesL b, (z ≤ edD e f ↔ z ≤ sqPt e.1.v e.2.v f.1.v ∧ z ≤ sqPt e.1.v e.2.v f.2.v ∧ z ≤ sqPt f.1.v f.2.v e.1.v ∧ z ≤ sqPt f.1.v f.2.v e.2.v) := fun e he f hf => by
   have hne := (ha.edge he).2.2
   have hnf := (hb.edge hf).2.2
   have hm : (meetV e.1.v e.2.v f.1.v f.2.v).isSome = false := by
     cases h : (meetV e.1.v e.2.v f.1.v f.2.v).isSome with
     | false => rfl
     | true =>
       obtain ⟨p, h1, h2⟩ := (meet_iff (fun e => hne (degen_iff.2 e)) (fun e => hnf (degen_iff.2 e))).1 h
       exact (apart ha hb hs he hf h1 h2).elim
   unfold edD segD
   rw [hm, if_neg (by decide), ext4_le]
 constructor
 · intro h e he f hf
   have := (hed e he f hf).1 (h e he f hf)
   exact ⟨this.1, this.2.2.1⟩
 · intro h e he f hf
   rw [hed e he f hf]
   obtain ⟨_, _, e', he', k1⟩ := edge_ends he
   obtain ⟨_, _, f', hf', k2⟩ := edge_ends hf
   have c1 := h e he f hf
   have c2 := h e he f' hf'
   have c3 := h e' he' f hf
   rw [k2] at c2
   rw [k1] at c3
   exact ⟨c1.1, c2.1, c1.2, c3.2⟩
theorem sqCR_eq (a b : List Pt) : sqCR a b = sqC a b := by
 unfold sqCR sqC
 by_cases hk : chkC a ≠ 0 ∨ chkC b ≠ 0
 · rw [tchL, if_pos hk]; rfl
 have va := cvx_of (l := a) (by by_cases h : chkC a = 0; exact h; exact absurd (.inl h) hk)
 have vb := cvx_of (l := b) (by by_cases h : chkC b = 0; exact h; exact absurd (.inr h) hk)
 have n3 := va.n3
 have m3 := vb.n3
 rw [tchL, if_neg hk]
 cases hs : (sepL a b).isSome with
 | false => rfl
 | true =>
   have key : ∀ z, z ≤ (prs2 (edgesL a) (edgesL b)).foldl stepP ((at_ a 0).sq (at_ b 0)) ↔ z ≤ lstQ (prsD a b) := fun z => by
     rw [sqC_le va vb hs]
     have hf : (prs2 (edgesL a) (edgesL b)).foldl stepP ((at_ a 0).sq (at_ b 0)) = (prs2 (edgesL a) (edgesL b)).foldl (fun m x => mnQ m (mnQ (sqPt x.1.1.v x.1.2.v x.2.1.v) (sqPt x.2.1.v x.2.2.v x.1.1.v))) ((at_ a 0).sq (at_ b 0)) := rfl
     rw [hf, fold_le (fun x : (Pt × Pt) × (Pt × Pt) => mnQ (sqPt x.1.1.v x.1.2.v x.2.1.v) (sqPt x.2.1.v x.2.2.v x.1.1.v))]
     constructor
     · rintro ⟨_, h⟩ e he f hf
       exact mnQ_le.1 (h (e, f) (List.mem_flatMap.2 ⟨e, he, List.mem_map_of_mem hf⟩))
     · intro h
       refine ⟨?_, fun x hx => ?_⟩
       · obtain ⟨e, he, k1⟩ := first_edge (l := a) (by omega)
         obtain ⟨f, hf, k2⟩ := first_edge (l := b) (by omega)
         have c := (h e he f hf).1
         have c2 := sqPt_le (A := e.1.v) (B := e.2.v) (p := f.1.v) (t := 0) (by grind) (by grind)
         rw [V.at_zero, k1, k2] at c2
         rw [k1, k2] at c
         exact Rat.le_trans c c2
       · obtain ⟨e, he, hx⟩ := List.mem_flatMap.1 hx
         obtain ⟨f, hf, rfl⟩ := List.mem_map.1 hx
         exact mnQ_le.2 (h e he f hf)
   have := Rat.le_antisymm ((key _).1 Rat.le_refl) ((key _).2 Rat.le_refl)
   show (_, (0 : Int)) = (_, (0 : Int))
   rw [this]
end Go.Sx
end
section
set_option maxRecDepth 10000
set_option maxHeartbeats 2000000
namespace Go.Sx
open Go Go.Proofs
theorem r_GreatPoint (p : Pt) : Fn PP f_narrowsref13_GreatPoint [pV p] (.bool (bigP 12 p)) := by
 refine Fn.of TBgood mixed h_narrowsref13_GreatPoint rfl rfl (Nat.le_of_ble_eq_true rfl) ?_
 intro w
 conv => whnf
 refine br_split ?_ ?_
 · intro h
   have h1 : 12 < p.x.num.length := by
     have : ((p.x.num.length : Nat) : Int) > 12 := of_decide_eq_true h
     omega
   conv => whnf
   refine postV_one (congrArg Value.bool ?_)
   simp [bigP, h1]
 intro h
 have h1 : ¬ 12 < p.x.num.length := by
   have : ¬ ((p.x.num.length : Nat) : Int) > 12 := of_decide_eq_false h
   omega
 conv => whnf
 refine br_split ?_ ?_
 · intro h
   have h2 : 12 < p.x.den.length := by
     have : ((p.x.den.length : Nat) : Int) > 12 := of_decide_eq_true h
     omega
   conv => whnf
   refine postV_one (congrArg Value.bool ?_)
   simp [bigP, h2]
 intro h
 have h2 : ¬ 12 < p.x.den.length := by
   have : ¬ ((p.x.den.length : Nat) : Int) > 12 := of_decide_eq_false h
   omega
 conv => whnf
 refine br_split ?_ ?_
 · intro h
   have h3 : 12 < p.y.num.length := by
     have : ((p.y.num.length : Nat) : Int) > 12 := of_decide_eq_true h
     omega
   conv => whnf
   refine postV_one (congrArg Value.bool ?_)
   simp [bigP, h3]
 intro h
 have h3 : ¬ 12 < p.y.num.length := by
   have : ¬ ((p.y.num.length : Nat) : Int) > 12 := of_decide_eq_false h
   omega
 conv => whnf
 refine postV_one (congrArg Value.bool ?_)
 show decide (((p.y.den.length : Nat) : Int) > 12) = _
 rw [bigP, decide_eq_false h1, decide_eq_false h2, decide_eq_false h3]
 simp only [Bool.false_or]
 exact decide_eq_decide.2 (by omega)
def grtL (l : List Pt) : Bool := (decide (10 < l.length) && decide (l.length < 63)) || (decide (66 < l.length) || l.any (bigP 12))
theorem r_Great13 (A : Option Addr) (c : Nat) (l : List Pt) :
   FnM PP f_narrowsref13_Great [.slice A l.length c] (facts [SlRes A (rowV ptC l)]) (retsV (.bool (grtL l))) := by
 refine FnS.of TBgood mixed h_narrowsref13_Great rfl rfl (Nat.le_of_ble_eq_true rfl) (by simp [SlRes.ok]) ?_
 intro w hw
 obtain ⟨n, hn⟩ : ∃ n, n = l.length := ⟨_, rfl⟩
 have hA : 0 < n → A.isSome = true := fun h => slres_some (facts_one hw) (by rw [rowV_length ptC_len]; omega)
 rw [grtL, ← hn]
 have tail : True := trivial
 conv => whnf
 by_cases h1 : 10 < n
 · refine br_true (decide_eq_true (show (n : Int) > 10 by omega)) ?_
   conv => whnf
   by_cases h2 : n < 63
   · refine br_true (decide_eq_true (show (n : Int) < 63 by omega)) ?_
     conv => whnf
     refine postV_one ?_
     rw [decide_eq_true h1, decide_eq_true h2]; rfl
   refine br_false (decide_eq_false (show ¬ (n : Int) < 63 by omega)) ?_
   rw [decide_eq_false h2, Bool.and_false, Bool.false_or]
   conv => whnf
   by_cases h3 : 66 < n
   · refine br_true (decide_eq_true (show (n : Int) > 66 by omega)) ?_
     conv => whnf
     refine postV_one ?_
     rw [decide_eq_true h3]; rfl
   refine br_false (decide_eq_false (show ¬ (n : Int) > 66 by omega)) ?_
   rw [decide_eq_false h3, Bool.false_or]
   conv => whnf
   refine sexec_loop (ι := Nat) (fun i => ⟨[(0, .o (.v (.slice A n c))), (2, .o (.v (.bool false))), (3, .o (.v (.int .i64 i)))], [], [SlRes A (rowV ptC l)]⟩)
     (fun i => i ≤ n ∧ l.any (bigP 12) = (l.drop i).any (bigP 12)) (fun i => n - i) 0 ⟨Nat.zero_le _, rfl⟩
     (SLe.id ⟨rfl, rfl, rfl, trivial⟩ trivial (fun R hR => hR)) ?_
   rintro i ⟨hi, hx⟩
   conv => whnf
   refine br_split ?_ ?_
   · intro h
     have hi2 : i < n := by
       have : (i : Int) < (n : Int) := of_decide_eq_true h
       omega
     obtain ⟨p, hp⟩ : ∃ p, l[i]? = some p := ⟨_, List.getElem?_eq_getElem (by omega)⟩
     rw [drop_cons hp, List.any_cons] at hx
     conv => whnf
     refine ⟨⟨by omega, by omega, hA (by omega)⟩, ?_⟩
     conv => whnf
     refine LoadVC.elem (A := A) (xs := l) (j := (i : Int)) ptC ptC_len (List.mem_singleton.2 rfl) rfl (by rw [Int.toNat_natCast]; omega) (by decide) (fun h => by cases h) ?_
     intro p' hp'
     obtain rfl := elem_eq hp' hp
     conv => whnf
     refine CallVC.fn (r_GreatPoint p') rfl ?_
     cases hb : bigP 12 p' with
     | true =>
       rw [hb, Bool.true_or] at hx
       conv => whnf
       refine postV_one ?_
       rw [hx]
     | false =>
       rw [hb, Bool.false_or] at hx
       conv => whnf
       exact ⟨i + 1, ⟨by omega, hx⟩, by omega, SLe.id ⟨rfl, rfl, some_wrap hi2 (by omega), trivial⟩ trivial (fun R hR => hR)⟩
   · intro h
     have hi2 : i = n := by
       have : ¬ (i : Int) < (n : Int) := of_decide_eq_false h
       omega
     rw [hi2, List.drop_of_length_le (by omega), List.any_nil] at hx
     conv => whnf
     refine postV_one ?_
     rw [hx]
 · refine br_false (decide_eq_false (show ¬ (n : Int) > 10 by omega)) ?_
   rw [decide_eq_false h1, Bool.false_and, Bool.false_or]
   conv => whnf
   refine br_false (decide_eq_false (show ¬ (n : Int) > 66 by omega)) ?_
   have h3 : ¬ 66 < n := by omega
   rw [decide_eq_false h3, Bool.false_or]
   conv => whnf
   refine sexec_loop (ι := Nat) (fun i => ⟨[(0, .o (.v (.slice A n c))), (2, .o (.v (.bool false))), (3, .o (.v (.int .i64 i)))], [], [SlRes A (rowV ptC l)]⟩)
     (fun i => i ≤ n ∧ l.any (bigP 12) = (l.drop i).any (bigP 12)) (fun i => n - i) 0 ⟨Nat.zero_le _, rfl⟩
     (SLe.id ⟨rfl, rfl, rfl, trivial⟩ trivial (fun R hR => hR)) ?_
   rintro i ⟨hi, hx⟩
   conv => whnf
   refine br_split ?_ ?_
   · intro h
     have hi2 : i < n := by
       have : (i : Int) < (n : Int) := of_decide_eq_true h
       omega
     obtain ⟨p, hp⟩ : ∃ p, l[i]? = some p := ⟨_, List.getElem?_eq_getElem (by omega)⟩
     rw [drop_cons hp, List.any_cons] at hx
     conv => whnf
     refine ⟨⟨by omega, by omega, hA (by omega)⟩, ?_⟩
     conv => whnf
     refine LoadVC.elem (A := A) (xs := l) (j := (i : Int)) ptC ptC_len (List.mem_singleton.2 rfl) rfl (by rw [Int.toNat_natCast]; omega) (by decide) (fun h => by cases h) ?_
     intro p' hp'
     obtain rfl := elem_eq hp' hp
     conv => whnf
     refine CallVC.fn (r_GreatPoint p') rfl ?_
     cases hb : bigP 12 p' with
     | true =>
       rw [hb, Bool.true_or] at hx
       conv => whnf
       refine postV_one ?_
       rw [hx]
     | false =>
       rw [hb, Bool.false_or] at hx
       conv => whnf
       exact ⟨i + 1, ⟨by omega, hx⟩, by omega, SLe.id ⟨rfl, rfl, some_wrap hi2 (by omega), trivial⟩ trivial (fun R hR => hR)⟩
   · intro h
     have hi2 : i = n := by
       have : ¬ (i : Int) < (n : Int) := of_decide_eq_false h
       omega
     rw [hi2, List.drop_of_length_le (by omega), List.any_nil] at hx
     conv => whnf
     refine postV_one ?_
     rw [hx]
end Go.Sx
end
section
set_option maxRecDepth 10000
set_option maxHeartbeats 2000000
namespace Go.Sx
open Go Go.Proofs
theorem grt_sm {l : List Pt} (h : grtL l = false) : Lsm KS l := fun p hp => by
 rw [grtL, Bool.or_eq_false_iff, Bool.or_eq_false_iff] at h
 have := List.any_eq_false.1 h.2.2 p hp
 exact (bigP_sm (k := 12) (by simpa using this)).le (by decide)
theorem law_DistanceConvex (A : Option Addr) (c : Nat) (a : List Pt) (hca : a.length ≤ c) (B : Option Addr) (d : Nat) (b : List Pt) (hcb : b.length ≤ d) :
   FnM PP f_narrowslaw26_DistanceConvex [.slice A a.length c, .slice B b.length d] (facts [SlRes A (rowV ptC a), SlRes B (rowV ptC b)]) (retsV (.bool true)) := by
 refine FnS.of TBgood mixed h_narrowslaw26_DistanceConvex rfl rfl (Nat.le_of_ble_eq_true rfl) (by simp [SlRes.ok]) ?_
 intro w hw
 conv => whnf
 refine CallVC.v (r_Great13 A c a).enters (CallV.facts (r_Great13 A c a) rfl (fun R hR => by rw [List.mem_singleton.1 hR]; exact List.mem_cons_self ..)) ?_
 cases h1 : grtL a with
 | true =>
   conv => whnf
   refine CallVC.fn c_awake rfl ?_
   conv => whnf
   exact postV_one rfl
 | false =>
 conv => whnf
 refine CallVC.v (r_Great13 B d b).enters (CallV.facts (r_Great13 B d b) rfl (fun R hR => by rw [List.mem_singleton.1 hR]; exact List.mem_cons_of_mem _ (List.mem_cons_self ..))) ?_
 cases h2 : grtL b with
 | true =>
   conv => whnf
   refine CallVC.fn c_awake rfl ?_
   conv => whnf
   exact postV_one rfl
 | false =>
 have hsa := grt_sm h1
 have hsb := grt_sm h2
 conv => whnf
 refine CallVC.v (c_dSquareConvex A B c d a b hca hcb hsa hsb).enters (CallV.facts (c_dSquareConvex A B c d a b hca hcb hsa hsb) rfl (fun R hR => hR)) ?_
 generalize hv1 : sqC a b = v1
 conv => whnf
 refine CallVC.v (r_dSquareConvex A B c d a b hsa hsb).enters (CallV.facts (r_dSquareConvex A B c d a b hsa hsb) rfl (fun R hR => hR)) ?_
 rw [sqCR_eq, hv1]
 obtain ⟨x1, k1⟩ := v1
 conv => whnf
 refine br_true ((eqR (Q x1) (Q x1)).trans (decide_eq_true rfl)) ?_
 conv => whnf
 refine br_true (by simp) ?_
 conv => whnf
 refine CallVC.fn c_awake rfl ?_
 conv => whnf
 exact postV_one rfl
end Go.Sx
end
section
/- What the arguments of the laws hold: numbers, points, segments; and the way from a law's walk to its statement. -/
set_option maxRecDepth 10000
set_option maxHeartbeats 2000000
namespace Go.Sx
open Go Go.Proofs Go.ChangeShapes Go.WideShapes Go.RowKit
section
variable {H : Type} {enc : TypeId × Value → H} {w : World} {base : Nat} {spare : Nat → Bool} {held : Bool} {fuel : Nat} {cs : List Value} {x : DataW H × List MemPlace}
theorem cells_bool : PP.cellsOf t_bool = 1 := by kernel_rfl
theorem cells_string : PP.cellsOf t_string = 1 := by kernel_rfl
theorem cells_Rat : PP.cellsOf t_api_Rat = 3 := by kernel_rfl
theorem cells_Point : PP.cellsOf t_api_Point = 6 := by kernel_rfl
theorem u_bool : PP.underlying t_bool = some .bool := (TBgood t_bool _ rfl).1.und
theorem u_string : PP.underlying t_string = some .string := (TBgood t_string _ rfl).1.und
theorem get_some {α : Type} {l : List α} {i : Nat} (h : i < l.length) : ∃ y, l[i]? = some y := ⟨_, List.getElem?_eq_getElem h⟩
theorem trod_rat (h : DataW.trod enc PP w base spare held fuel t_api_Rat cs = some x) : ∃ r : Raw, cs = ratC r := by
 obtain ⟨xs, n, _, _, hlen, hxl, hf⟩ := DataW.trod_struct (TBgood t_api_Rat _ rfl).1.und h
 rw [cells_Rat] at hlen
 match cs, hlen with
 | [a, b, c], _ =>
   obtain ⟨y0, h0⟩ := get_some (show 0 < xs.length by rw [hxl]; decide)
   obtain ⟨y1, h1⟩ := get_some (show 1 < xs.length by rw [hxl]; decide)
   obtain ⟨y2, h2⟩ := get_some (show 2 < xs.length by rw [hxl]; decide)
   have g0 : DataW.trod enc PP w base spare held n t_bool (([a, b, c].drop 0).take (PP.cellsOf t_bool)) = xs[0]? := hf 0 _ rfl
   have g1 : DataW.trod enc PP w base spare held n t_string (([a, b, c].drop 1).take (PP.cellsOf t_string)) = xs[1]? := hf 1 _ rfl
   have g2 : DataW.trod enc PP w base spare held n t_string (([a, b, c].drop 2).take (PP.cellsOf t_string)) = xs[2]? := hf 2 _ rfl
   rw [h0] at g0; rw [h1] at g1; rw [h2] at g2
   rw [cells_bool] at g0; rw [cells_string] at g1 g2
   obtain ⟨b0, e0, _⟩ := DataW.trod_bool u_bool g0
   obtain ⟨s1, e1, _⟩ := DataW.trod_string u_string g1
   obtain ⟨s2, e2, _⟩ := DataW.trod_string u_string g2
   cases e0; cases e1; cases e2
   exact ⟨⟨b0, s1.data.toList, s2.data.toList⟩, by rw [ratC, ← bs_surj, ← bs_surj]⟩
theorem trod_pt (h : DataW.trod enc PP w base spare held fuel t_api_Point cs = some x) : ∃ p : Pt, cs = ptC p := by
 obtain ⟨xs, n, _, _, hlen, hxl, hf⟩ := DataW.trod_struct (TBgood t_api_Point _ rfl).1.und h
 rw [cells_Point] at hlen
 match cs, hlen with
 | [a, b, c, a', b', c'], _ =>
   obtain ⟨y0, h0⟩ := get_some (show 0 < xs.length by rw [hxl]; decide)
   obtain ⟨y1, h1⟩ := get_some (show 1 < xs.length by rw [hxl]; decide)
   have g0 : DataW.trod enc PP w base spare held n t_api_Rat (([a, b, c, a', b', c'].drop 0).take (PP.cellsOf t_api_Rat)) = xs[0]? := hf 0 _ rfl
   have g1 : DataW.trod enc PP w base spare held n t_api_Rat (([a, b, c, a', b', c'].drop 3).take (PP.cellsOf t_api_Rat)) = xs[1]? := hf 1 _ rfl
   rw [h0] at g0; rw [h1] at g1
   rw [cells_Rat] at g0 g1
   obtain ⟨r, e0⟩ := trod_rat g0
   obtain ⟨s, e1⟩ := trod_rat g1
   exact ⟨⟨r, s⟩, by
     have e : [a, b, c, a', b', c'] = [a, b, c] ++ [a', b', c'] := rfl
     rw [e, show [a, b, c] = ratC r from e0, show [a', b', c'] = ratC s from e1]; rfl⟩
end
theorem laidOut : laidOutB PP = true := by kernel_rfl
theorem ownP : ownKnob PP.godebug = none := by kernel_rfl
end Go.Sx
end
section
/- Arguments of the laws that are slices. -/
set_option maxRecDepth 10000
set_option maxHeartbeats 2000000
namespace Go.Sx
open Go Go.Proofs Go.ChangeShapes Go.WideShapes Go.RowKit Go.Deep
section
variable {H : Type} {enc : TypeId × Value → H} {w : World} {base : Nat} {spare : Nat → Bool} {held : Bool} {fuel : Nat} {cs : List Value} {x : DataW H × List MemPlace}
theorem row_at {α : Type} {f : α → List Value} {es : Nat} (hf : ∀ x, (f x).length = es) (h0 : 0 < es) {l : List α} {j : Nat} {v : Value} (h : (rowV f l)[j]? = some v) : ∃ x, l[j / es]? = some x ∧ (f x)[j % es]? = some v := by
 have hj : j < l.length * es := by rw [← rowV_length hf]; exact (List.getElem?_eq_some_iff.1 h).1
 have hi : j / es < l.length := Nat.div_lt_of_lt_mul (by rw [Nat.mul_comm]; exact hj)
 refine ⟨l[j / es], List.getElem?_eq_getElem hi, ?_⟩
 rw [← rowV_part hf (List.getElem?_eq_getElem hi), List.getElem?_take, if_pos (Nat.mod_lt _ h0), List.getElem?_drop, Nat.mul_comm, Nat.div_add_mod]
 exact h
theorem open_row {α : Type} (f : α → List Value) {es : Nat} (hf : ∀ x, (f x).length = es) (h0 : 0 < es) {t e : TypeId} (ht : PP.underlying t = some (.slice e)) (hc : PP.cellsOf e = es)
   (htr : ∀ {n : Nat} {cs : List Value} {y : DataW H × List MemPlace}, DataW.trod enc PP w base spare held n e cs = some y → ∃ x, cs = f x) (h : DataW.trod enc PP w base spare held fuel t cs = some x) :
   ∃ (A : Option Addr) (c : Nat) (l : List α), cs = [.slice A l.length c] ∧ l.length ≤ c ∧ SlF A (rowV f l) w := by
 rcases open_slice ht h with ⟨h1, _⟩ | ⟨a, len, cap, m, n, D, Pl, hcs, hb, hl, hm, hmm, _, hall⟩
 · exact ⟨none, 0, [], h1, Nat.le_refl _, .inl rfl⟩
 have hlm : len ≤ m := by rw [hmm]; split <;> omega
 have key : ∀ k, k ≤ len → ∃ l : List α, l.length = k ∧ ∀ i x, l[i]? = some x → w.cells? base (a.add (i * es)) es = some (f x) := by
   intro k
   induction k with
   | zero => intro _; exact ⟨[], rfl, fun i x h => by simp at h⟩
   | succ k ih =>
     intro hk
     obtain ⟨l, hl1, hl2⟩ := ih (by omega)
     obtain ⟨cs', e1, e2⟩ := hall k (by omega)
     obtain ⟨x, rfl⟩ := htr e2
     rw [hc] at e1
     refine ⟨l ++ [x], by simp [hl1], fun i y hy => ?_⟩
     by_cases hi : i < l.length
     · rw [List.getElem?_append_left hi] at hy; exact hl2 i y hy
     · rw [List.getElem?_append_right (by omega)] at hy
       have : i - l.length = 0 := by
         by_cases h5 : i - l.length = 0
         · exact h5
         · rw [List.getElem?_eq_none (by simp; omega)] at hy; cases hy
       rw [this] at hy
       cases hy
       rw [show i = k by omega]; exact e1
 obtain ⟨l, hl1, hl2⟩ := key len (Nat.le_refl _)
 subst hl1
 refine ⟨some a, cap, l, hcs, hl, ?_⟩
 rcases l with _ | ⟨x0, l⟩
 · exact .inl rfl
 right
 have hcell : ∀ {i : Nat} {x : α} {r : Nat}, (x0 :: l)[i]? = some x → r < es → w.cell? ((a.add (i * es)).add r) = (f x)[r]? := fun hi hr => ((World.cells?_some (hl2 _ _ hi)).2.2 _ hr)
 have hspot : a.spot = none := by
   have h1 := hcell (i := 0) (x := x0) (r := 0) rfl h0
   rw [Nat.zero_mul] at h1
   have h2 : ∃ v, (f x0)[0]? = some v := ⟨_, List.getElem?_eq_getElem (by rw [hf]; exact h0)⟩
   obtain ⟨v, h2⟩ := h2
   rw [h2] at h1
   have h3 : w.cell? a = some v := h1
   unfold World.cell? at h3
   split at h3
   · split at h3
     · cases h3
     · rename_i hs
       simpa using hs
   · cases h3
 refine ⟨a.block, a.off, ?_, fun j v hj => ?_⟩
 · obtain ⟨b, o, s⟩ := a
   simp only at hspot
   rw [hspot]
 · obtain ⟨x, hx, hv⟩ := row_at hf h0 hj
   have h1 := hcell hx (Nat.mod_lt j h0)
   rw [hv] at h1
   rw [← h1]
   obtain ⟨b, o, s⟩ := a
   simp only at hspot
   subst hspot
   rw [Addr.add_lit, Addr.add_lit, Nat.add_assoc, Nat.mul_comm, Nat.div_add_mod]
theorem open_pts {r : Reach} {b : Nat} {v : Value} {d : DataW H} {ps : List MemPlace} (hv : Value.okWide PP w r b t_sl_api_Point v) (h : DataW.Trod enc PP w base spare held t_sl_api_Point v d ps) :
   ∃ (A : Option Addr) (c : Nat) (l : List Pt), v = .slice A l.length c ∧ l.length ≤ c ∧ SlF A (rowV ptC l) w := by
 obtain ⟨a, len, cap, rfl⟩ := okWide_slice (TBgood t_sl_api_Point _ rfl).1.und hv
 obtain ⟨fuel, hf⟩ := h
 obtain ⟨A, c, l, e, h1, h2⟩ := open_row ptC ptC_len (by decide) (TBgood t_sl_api_Point _ rfl).1.und cells_Point trod_pt hf
 exact ⟨A, c, l, List.head_eq_of_cons_eq e, h1, h2⟩
end
theorem factsTwo {A B : Option Addr} {xs ys : List Value} {w : World} (h : SlF A xs w) (k : SlF B ys w) : facts [SlRes A xs, SlRes B ys] w := fun R hR => by
 rcases List.mem_cons.1 hR with rfl | hR
 · exact h
 · rw [List.mem_singleton.1 hR]; exact k
end Go.Sx
end
section
/-
 The law DistanceConvex of the program answers true for every input and leaves its arguments as they were; no conditions.
-/
namespace Go.Proofs.YtlnandkcoliejaaGreat
open Go.Sx Go.ChangeShapes Go.WideShapes Go.ChangeAt Go.RowKit
set_option maxRecDepth 100000 in
theorem lifted_distanceConvex (os : Os) (started : os.Started) (H : Type) (enc : TypeId × Value → H) :
   ReturnsInHanded {} Tryz.checked os 7 .any (Rows.distanceConvexSpec.pre6 enc Tryz.prog Tryz.f7 Rows.distanceConvexRow.domain false) (Rows.distanceConvexSpec.post enc Tryz.prog Tryz.f7 false true false false) := by
 refine returnsInHanded_of_change (C := Tryz.checked) ownP started (by kernel_rfl) Tryz.func7
   (ChangeSpec.witness6 (enc := enc) (C := Tryz.checked) false ⟨#[], #[.slice none 0 0, .slice none 0 0], []⟩ 8 (by kernel_rfl) (by kernel_rfl) (by kernel_rfl) (by kernel_rfl)) ?_
 intro W base args ds gs before hval0 hW hcnd _
 have hval : ∀ (j : Nat) t v, Tryz.f7.params[j]? = some t → args[j]? = some v → Value.okWide Tryz.prog W .any base t v := hval0
 have hW' := hW
 obtain ⟨p, q, hA0, hV, rfl, hfz, hnd⟩ := hW
 have hA : DataW.TrodAll enc Tryz.prog W 0 (fun _ => true) true Tryz.f7.params.toList args.toList ds p := hA0
 rw [Tryz.params7] at hA hval
 obtain ⟨v0, vs0, d0, ds0, p0, q0, hargs, rfl, rfl, h0, r0⟩ := trodAll_cons hA
 obtain ⟨v1, vs1, d1, ds1, p1, q1, rfl, rfl, rfl, h1, r1⟩ := trodAll_cons r0
 obtain ⟨rfl, rfl, rfl⟩ := trodAll_nil r1
 obtain rfl : args = #[v0, v1] := by cases args; simp_all
 obtain ⟨rfl, rfl⟩ := trodVars_none hV
 have lt0 : ∀ x ∈ p0, x.block < W.heap.size := by obtain ⟨m, hm⟩ := h0; exact DataW.trod_lt m _ _ _ hm
 have k0 : DataW.Trod enc PP W 0 (fun _ => true) true t_sl_api_Point v0 d0 p0 := h0
 obtain ⟨A0, c0, a0, rfl, l0, F0⟩ := open_pts (hval 0 _ v0 rfl rfl) k0
 have lt1 : ∀ x ∈ p1, x.block < W.heap.size := by obtain ⟨m, hm⟩ := h1; exact DataW.trod_lt m _ _ _ hm
 have k1 : DataW.Trod enc PP W 0 (fun _ => true) true t_sl_api_Point v1 d1 p1 := h1
 obtain ⟨A1, c1, a1, rfl, l1, F1⟩ := open_pts (hval 1 _ v1 rfl rfl) k1
 clear hA0 hval0
 refine ((law_DistanceConvex A0 c0 a0 l0 A1 c1 a1 l1).calls W (factsTwo F0 F1)).mono fun e W' ⟨he, bel⟩ => ?_
 subst he
 exact ⟨_, rfl, _, _, _, [], _, [], hW', trodAll_mk1 (shut_bool u_bool _), (trodAll_cons_mk (Below.trod laidOut (by kernel_rfl) (of_decide_eq_true (by kernel_rfl)) k0 bel lt0) (trodAll_cons_mk (Below.trod laidOut (by kernel_rfl) (of_decide_eq_true (by kernel_rfl)) k1 bel lt1) trodAll_mk0)), rfl, bel.frame _, fun h => by cases h⟩
theorem distanceConvex_holds : Rows.DistanceConvexSaid :=
 OpenClaim.holds_of_wide 7 Tryz.f7 rfl rfl rfl rfl rfl rfl rfl ⟨rfl, rfl, rfl, rfl, rfl⟩ rfl rfl rfl rfl rfl (by kernel_rfl) Tryz.func7 (by kernel_rfl)
   (of_decide_eq_true (by kernel_rfl)) (by unfold Func.isWrapper; first | (rw [if_pos (by decide +kernel)]; kernel_rfl) | (rw [if_neg (by decide +kernel)]; exact ⟨rfl, rfl⟩))
   (fun os started H enc _ => lifted_distanceConvex os started H enc)
end Go.Proofs.YtlnandkcoliejaaGreat
end
#print axioms Go.Proofs.YtlnandkcoliejaaGreat.distanceConvex_holds
