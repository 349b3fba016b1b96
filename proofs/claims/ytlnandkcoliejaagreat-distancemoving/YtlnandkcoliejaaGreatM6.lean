/- The law DistanceMoving of the program answers true for every input, and its arguments read as before. No conditions. -/
import Derived.Test.YtlnandkcoliejaaGreatM5
import Derived.Test.YtlnandkcoliejaaGreatM4
import Derived.ProofKit
import Derived.OpenShut
import Derived.Carry
import Derived.ChangeArms
import Derived.Deep.Slices
import Derived.Test.YtlnandkcoliejaaGreatRows
import Derived.WalkKit
import Derived.ShutString
import Derived.ChangeOld
import Derived.Below
import Derived.Handed
set_option linter.unusedVariables false
set_option linter.unusedSimpArgs false
set_option linter.unusedSectionVars false
section
set_option maxRecDepth 10000
set_option maxHeartbeats 2000000
namespace Go.Sx
open Go Go.Proofs
theorem box_at {P : Program} {E : Env} {st : SS} {w : World} {k : Nat} {xs : List Value} (hx : boxV st k = some xs) (he : ∀ mm, lk k st.me = some mm → MEok E w k mm) : ∃ b, E.β k = some b ∧ SlF (some ⟨b, 0, none⟩) xs w := by
 have hb : ∃ b ty, E.β k = some b ∧ w.heap[b]? = some (.cells xs.toArray ty (0, 0)) := by
   unfold boxV at hx
   split at hx
   · rename_i cs' ty hl
     obtain ⟨b, hb, hcells⟩ := he _ hl
     rw [allV_real E hx] at hcells
     exact ⟨b, ty, hb, hcells⟩
   · rename_i cs' ty hl
     cases hx
     obtain ⟨b, hb, hcells⟩ := he _ hl
     exact ⟨b, ty, hb, hcells⟩
   · cases hx
 obtain ⟨b, ty, hb, hcells⟩ := hb
 exact ⟨b, hb, .inr ⟨b, 0, rfl, fun j v hj => by rw [cell_of hcells, Nat.zero_add]; simpa using hj⟩⟩
theorem CallV.c2 {P : Program} {st : SS} {g g0 : FuncId} {args : List SV} {R : World → Ending → World → Prop} {k1 k2 : Nat} {x1 x2 : List Value} {re : List Res} (mk : Value → List Value) (h1 : boxV st k1 = some x1) (h2 : boxV st k2 = some x2) (hm : SV.o (.clo g0 [.l k1, .l k2]) ∈ args)
   (hargs : ∀ E, args.map (SV.real E) = mk ((SV.o (.clo g0 [.l k1, .l k2])).real E)) (hre : ∀ w, Sx.facts st.re w → Sx.facts re w) (h : ∀ a b, FnM P g (mk (cloV g0 [ptrV a, ptrV b])) (Sx.facts (SlRes (some a) x1 :: SlRes (some b) x2 :: re)) R) : CallV P g args st R := by
 intro E w he hw
 obtain ⟨b1, e1, f1⟩ := box_at (P := P) h1 (fun mm hl => he k1 mm (any_mem hm (by simp [SV.has, AV.has, CP.has])) hl)
 obtain ⟨b2, e2, f2⟩ := box_at (P := P) h2 (fun mm hl => he k2 mm (any_mem hm (by simp [SV.has, AV.has, CP.has])) hl)
 have hp : (SV.o (.clo g0 [.l k1, .l k2])).real E = cloV g0 [ptrV ⟨b1, 0, none⟩, ptrV ⟨b2, 0, none⟩] := by simp [SV.real, AV.real, CP.real, e1, e2, ptrV]
 rw [hargs, hp]
 refine (h ⟨b1, 0, none⟩ ⟨b2, 0, none⟩).calls w (fun R hR => ?_)
 rcases List.mem_cons.1 hR with rfl | hR
 · exact f1
 rcases List.mem_cons.1 hR with rfl | hR
 · exact f2
 · exact hre w hw R hR
theorem CallV.c3 {P : Program} {st : SS} {g g0 : FuncId} {args : List SV} {R : World → Ending → World → Prop} {k1 k2 k3 : Nat} {x1 x2 x3 : List Value} {re : List Res} (mk : Value → List Value) (h1 : boxV st k1 = some x1) (h2 : boxV st k2 = some x2) (h3 : boxV st k3 = some x3) (hm : SV.o (.clo g0 [.l k1, .l k2, .l k3]) ∈ args)
   (hargs : ∀ E, args.map (SV.real E) = mk ((SV.o (.clo g0 [.l k1, .l k2, .l k3])).real E)) (hre : ∀ w, Sx.facts st.re w → Sx.facts re w) (h : ∀ a b c, FnM P g (mk (cloV g0 [ptrV a, ptrV b, ptrV c])) (Sx.facts (SlRes (some a) x1 :: SlRes (some b) x2 :: SlRes (some c) x3 :: re)) R) : CallV P g args st R := by
 intro E w he hw
 obtain ⟨b1, e1, f1⟩ := box_at (P := P) h1 (fun mm hl => he k1 mm (any_mem hm (by simp [SV.has, AV.has, CP.has])) hl)
 obtain ⟨b2, e2, f2⟩ := box_at (P := P) h2 (fun mm hl => he k2 mm (any_mem hm (by simp [SV.has, AV.has, CP.has])) hl)
 obtain ⟨b3, e3, f3⟩ := box_at (P := P) h3 (fun mm hl => he k3 mm (any_mem hm (by simp [SV.has, AV.has, CP.has])) hl)
 have hp : (SV.o (.clo g0 [.l k1, .l k2, .l k3])).real E = cloV g0 [ptrV ⟨b1, 0, none⟩, ptrV ⟨b2, 0, none⟩, ptrV ⟨b3, 0, none⟩] := by simp [SV.real, AV.real, CP.real, e1, e2, e3, ptrV]
 rw [hargs, hp]
 refine (h ⟨b1, 0, none⟩ ⟨b2, 0, none⟩ ⟨b3, 0, none⟩).calls w (fun R hR => ?_)
 rcases List.mem_cons.1 hR with rfl | hR
 · exact f1
 rcases List.mem_cons.1 hR with rfl | hR
 · exact f2
 rcases List.mem_cons.1 hR with rfl | hR
 · exact f3
 · exact hre w hw R hR
theorem c_IndexFuncQ (A : Option Addr) (c : Nat) (l : List Pt) (g : FuncId) (caps : List Value) (f : Pt → Bool) (re : List Res) (hl : l.length ≤ 1000000) (hok : ∀ R ∈ re, R.ok)
   (hf : ∀ x ∈ l, FnM PP g (pV x :: caps) (facts re) (retsV (.bool (f x)))) :
   FnM PP f_slices_IndexFunc_sl_api_Point_api_Point [.slice A l.length c, cloV g caps] (facts (SlRes A (rowV ptC l) :: re)) (retsV (.int .i64 (idxF f 0 l))) := by
 refine FnS.of TBgood mixed h_slices_IndexFunc_sl_api_Point_api_Point rfl rfl (Nat.le_of_ble_eq_true rfl) (fun R hR => by rcases List.mem_cons.1 hR with rfl | hR; exact SlRes.ok _ _; exact hok R hR) ?_
 intro w hw
 obtain ⟨n, hn⟩ : ∃ n, n = l.length := ⟨_, rfl⟩
 have hA : 0 < n → A.isSome = true := fun h => slres_some (hw _ (List.mem_cons_self ..)) (by rw [rowV_length ptC_len]; omega)
 rw [← hn] at hl ⊢
 conv => whnf
 refine sexec_loop (ι := Nat) (fun i => ⟨[(0, .o (.v (.slice A n c))), (1, .o (.v (cloV g caps))), (6, .o (.v (.slice A n c))), (7, .o (.v (.int .i64 n))), (8, .o (.v (.int .i64 i)))], [], SlRes A (rowV ptC l) :: re⟩)
   (fun i => i ≤ n ∧ idxF f 0 l = idxF f i (l.drop i)) (fun i => n - i) 0 ⟨Nat.zero_le _, rfl⟩
   (SLe.id ⟨rfl, rfl, rfl, rfl, rfl, trivial⟩ trivial (fun R hR => hR)) ?_
 rintro i ⟨hi, hx⟩
 conv => whnf
 refine br_split ?_ ?_
 · intro h
   have hi2 : i < n := by
     have : (i : Int) < (n : Int) := of_decide_eq_true h
     omega
   conv => whnf
   refine ⟨⟨by omega, by omega, hA (by omega)⟩, ?_⟩
   conv => whnf
   obtain ⟨p, hp⟩ : ∃ p, l[i]? = some p := ⟨_, List.getElem?_eq_getElem (by omega)⟩
   refine LoadVC.elem (A := A) (xs := l) (j := (i : Int)) ptC ptC_len (List.mem_cons_self ..) rfl (by rw [Int.toNat_natCast]; omega) (by decide) (fun h => by cases h) ?_
   intro p' hp'
   obtain rfl := elem_eq hp' hp
   conv => whnf
   refine CallVC.v (hf p' (List.mem_of_getElem? hp)).enters (CallV.facts (hf p' (List.mem_of_getElem? hp)) rfl (fun R hR => List.mem_cons_of_mem _ hR)) ?_
   have hdrop : l.drop i = p' :: l.drop (i + 1) := by
     obtain ⟨h1, h2⟩ := List.getElem?_eq_some_iff.1 hp
     rw [← h2]; exact List.drop_eq_getElem_cons h1
   rw [hdrop] at hx
   simp only [idxF] at hx
   cases hfp : f p' with
   | true =>
     rw [hfp, if_pos rfl] at hx
     conv => whnf
     refine postV_one ?_
     rw [hx]
   | false =>
     rw [hfp, if_neg (by simp)] at hx
     conv => whnf
     exact ⟨i + 1, ⟨by omega, hx⟩, by omega, SLe.id ⟨rfl, rfl, rfl, rfl, some_wrap (n := 1000001) (by omega) (by omega), trivial⟩ trivial (fun R hR => hR)⟩
 · intro h
   have hi2 : i = n := by
     have : ¬ (i : Int) < (n : Int) := of_decide_eq_false h
     omega
   rw [hi2, hn, List.drop_length] at hx
   conv => whnf
   refine postV_one ?_
   rw [hx]; rfl
theorem c_ContainsFuncQ (A : Option Addr) (c : Nat) (l : List Pt) (g : FuncId) (caps : List Value) (f : Pt → Bool) (re : List Res) (hl : l.length ≤ 1000000) (hok : ∀ R ∈ re, R.ok)
   (hf : ∀ x ∈ l, FnM PP g (pV x :: caps) (facts re) (retsV (.bool (f x)))) :
   FnM PP f_slices_ContainsFunc_sl_api_Point_api_Point [.slice A l.length c, cloV g caps] (facts (SlRes A (rowV ptC l) :: re)) (retsV (.bool (l.any f))) := by
 refine FnS.of TBgood mixed h_slices_ContainsFunc_sl_api_Point_api_Point rfl rfl (Nat.le_of_ble_eq_true rfl) (fun R hR => by rcases List.mem_cons.1 hR with rfl | hR; exact SlRes.ok _ _; exact hok R hR) ?_
 intro w hw
 conv => whnf
 refine CallVC.v (c_IndexFuncQ A c l g caps f re hl hok hf).enters (CallV.facts (c_IndexFuncQ A c l g caps f re hl hok hf) rfl (fun R hR => hR)) ?_
 conv => whnf
 refine postV_one ?_
 show Value.bool (decide (idxF f 0 l ≥ 0)) = _
 rw [idxF_any]
theorem c_cvEdges1 (A : Option Addr) (c : Nat) (a : Addr) (l : List Pt) (hl : l.length ≤ 1000000) :
   SeqC PP f_convex_edges_1 [ptrV a] [SlRes (some a) [.slice A l.length c], SlRes A (rowV ptC l)] (edgeXs l) := by
 refine SeqC.of TBgood mixed h_convex_edges_1 rfl rfl (Nat.le_of_ble_eq_true rfl) (by simp [SlRes.ok]) ?_
 intro yl W B R X hW hy
 rw [edgeXs_len] at hy ⊢
 refine WPS.of TBgood mixed ?_
 obtain ⟨n, hn⟩ : ∃ n, n = l.length := ⟨_, rfl⟩
 have hA : 0 < n → A.isSome = true := fun h => slres_some (hW (SlRes A (rowV ptC l)) (by simp)) (by rw [rowV_length ptC_len]; omega)
 rw [← hn] at hl hy ⊢
 conv => whnf
 refine LoadVC.row (off := 0) (List.mem_cons_of_mem _ (List.mem_cons_self ..)) rfl (Nat.le_refl _) (by decide) (fun _ => rfl) ?_
 conv => whnf
 have hre : ∀ i Z, ∀ S ∈ [SlRes (some a) [Value.slice A n c], SlRes A (rowV ptC l)], S ∈ R i Z :: [SlRes (some a) [Value.slice A n c], SlRes A (rowV ptC l)] := fun i Z S h => List.mem_cons_of_mem _ h
 refine sexec_loop (ι := Nat × List Nat) (fun ⟨i, Z⟩ => ⟨[(0, .o (.v (yieldV yl))), (1, .o (.v (ptrV a))), (5, .o (.v (.slice A n c))), (6, .o (.v (.int .i64 n))), (7, .o (.v (.int .i64 i)))], [], R i Z :: [SlRes (some a) [.slice A n c], SlRes A (rowV ptC l)]⟩)
   (fun ⟨i, Z⟩ => i ≤ n) (fun ⟨i, Z⟩ => n - i) (0, []) (Nat.zero_le _) (SLe.id ⟨rfl, rfl, rfl, rfl, rfl, trivial⟩ trivial (fun R hR => hR)) ?_
 rintro ⟨i, Z⟩ hi
 conv => whnf
 refine br_split ?_ ?_
 · intro h
   have hi2 : i < n := by
     have : (i : Int) < (n : Int) := of_decide_eq_true h
     omega
   conv => whnf
   refine ⟨⟨by omega, by omega, hA (by omega)⟩, ?_⟩
   conv => whnf
   obtain ⟨p, hp⟩ : ∃ p, p = l[i]'(by omega) := ⟨_, rfl⟩
   have hpl : l[i]? = some p := by rw [hp]; exact List.getElem?_eq_getElem _
   refine LoadVC.elem (A := A) (xs := l) (j := (i : Int)) ptC ptC_len (hre _ _ _ (by simp)) rfl (by rw [Int.toNat_natCast]; omega) (by decide) (fun h => by cases h) ?_
   intro p' hp'
   obtain rfl : p' = p := by rw [Int.toNat_natCast, hpl] at hp'; exact (Option.some.inj hp').symm
   conv => whnf
   refine DrawVC.at 10 (by kernel_rfl) ?_
   conv => whnf
   refine LoadVC.row (off := 0) (hre _ _ _ (List.mem_cons_self ..)) rfl (Nat.le_refl _) (by decide) (fun _ => rfl) ?_
   conv => whnf
   refine LoadVC.row (off := 0) (hre _ _ _ (List.mem_cons_self ..)) rfl (Nat.le_refl _) (by decide) (fun _ => rfl) ?_
   conv => whnf
   refine ⟨by omega, ?_⟩
   have hw : (IntKind.i64.wrap ((i : Int) + 1)).tmod (n : Int) = (((i + 1) % n : Nat) : Int) := by
     rw [wrap_i64 (by omega) (by omega), Int.tmod_eq_emod_of_nonneg (by omega)]; rfl
   have hmod : (i + 1) % n < n := Nat.mod_lt _ (by omega)
   conv => whnf
   refine ⟨⟨?_, ?_, hA (by omega)⟩, ?_⟩
   · show 0 ≤ (IntKind.i64.wrap ((i : Int) + 1)).tmod (n : Int)
     rw [hw]; omega
   · show (IntKind.i64.wrap ((i : Int) + 1)).tmod (n : Int) < (n : Int)
     rw [hw]; omega
   conv => whnf
   obtain ⟨q, hq⟩ : ∃ q, q = l[(i + 1) % n]'(by omega) := ⟨_, rfl⟩
   have hql : l[(i + 1) % n]? = some q := by rw [hq]; exact List.getElem?_eq_getElem _
   refine LoadVC.elem (A := A) (xs := l) (j := (((i + 1) % n : Nat) : Int)) ptC ptC_len (hre _ _ _ (by simp)) ?_ (by rw [Int.toNat_natCast]; omega) (by decide) (fun h => by cases h) ?_
   · show A.map (fun x => x.add (((IntKind.i64.wrap ((i : Int) + 1)).tmod (n : Int)).toNat * 6)) = _
     rw [hw]; rfl
   intro q' hq'
   obtain rfl : q' = q := by rw [Int.toNat_natCast, hql] at hq'; exact (Option.some.inj hq').symm
   conv => whnf
   have hxi : (edgeXs l).getD i [] = [pV p', pV q'] := edgeXs_get hpl (by rw [← hn]; exact hql)
   refine hy i Z _ _ _ hi2 rfl (by rw [hxi]; rfl) (fun Z' => ?_) (fun Z' => ?_)
   · conv => whnf
     refine ⟨(i + 1, Z'), by show i + 1 ≤ n; omega, by show n - (i + 1) < n - i; omega, SLe.id ⟨rfl, rfl, rfl, rfl, ?_, trivial⟩ trivial (fun S hS => hS)⟩
     show some (SV.o (.v (.int .i64 (IntKind.i64.wrap ((i : Int) + 1))))) = some (SV.o (.v (.int .i64 ((i + 1 : Nat) : Int))))
     rw [wrap_i64 (by omega) (by omega)]; rfl
   · conv => whnf
     exact .inr ⟨Z', List.mem_cons_self ..⟩
 · intro h
   have hi2 : i = n := by
     have : ¬ (i : Int) < (n : Int) := of_decide_eq_false h
     have : i ≤ n := hi
     omega
   conv => whnf
   exact .inl ⟨Z, by rw [hi2]; exact List.mem_cons_self ..⟩
theorem c_cvEdges (A : Option Addr) (c : Nat) (n : Nat) : FnM PP f_convex_edges [.slice A n c] (facts []) (retsF f_convex_edges_1 [[.slice A n c]]) := by
 refine FnF.of TBgood mixed h_convex_edges rfl rfl (Nat.le_of_ble_eq_true rfl) (by simp) ?_
 intro w hw
 conv => whnf
 exact postF_one rfl
theorem c_cvCanonical1 (p : Pt) (hp : p.sm KK) : Fn PP f_convex_canonical_1 [pV p] (.bool (!decide p.ok)) := by
 refine Fn.of TBgood mixed h_convex_canonical_1 rfl rfl (Nat.le_of_ble_eq_true rfl) ?_
 intro w
 conv => whnf
 refine CallVC.fn (c_vCheck p hp) rfl ?_
 by_cases h : p.ok
 · rw [if_pos h]
   conv => whnf
   refine postV_one ?_
   rw [decide_eq_true h]; rfl
 · rw [if_neg h]
   conv => whnf
   refine postV_one ?_
   rw [decide_eq_false h]; rfl
theorem c_cvCanonical (A : Option Addr) (c : Nat) (l : List Pt) (hl : l.length ≤ 1000000) (hs : Lsm KK l) :
   FnM PP f_convex_canonical [.slice A l.length c] (facts [SlRes A (rowV ptC l)]) (retsV (.bool (canonL l))) := by
 refine FnS.of TBgood mixed h_convex_canonical rfl rfl (Nat.le_of_ble_eq_true rfl) (by simp [SlRes.ok]) ?_
 intro w hw
 conv => whnf
 have h := c_ContainsFuncP A c l f_convex_canonical_1 (fun p => !decide p.ok) hl (fun x hx => c_cvCanonical1 x (hs x hx))
 refine CallVC.v h.enters (CallV.facts h rfl (fun R hR => hR)) ?_
 conv => whnf
 refine postV_one ?_
 rw [← canonL_any]
end Go.Sx
end
section
set_option maxRecDepth 10000
set_option maxHeartbeats 2000000
namespace Go.Sx
open Go Go.Proofs
end Go.Sx
end
section
set_option maxRecDepth 10000
set_option maxHeartbeats 2000000
namespace Go.Sx
open Go Go.Proofs
def low (l : List UInt8) (j : Nat) : Nat := nat (l.drop (l.length - j))
end Go.Sx
end
section
set_option maxRecDepth 10000
set_option maxHeartbeats 2000000
namespace Go.Sx
open Go Go.Proofs
end Go.Sx
end
section
set_option maxRecDepth 10000
set_option maxHeartbeats 2000000
namespace Go.Sx
open Go Go.Proofs
end Go.Sx
end
section
set_option maxRecDepth 10000
set_option maxHeartbeats 2000000
namespace Go.Sx
open Go Go.Proofs
end Go.Sx
end
section
set_option maxRecDepth 10000
set_option maxHeartbeats 2000000
namespace Go.Sx
open Go Go.Proofs
end Go.Sx
end
section
set_option maxRecDepth 10000
set_option maxHeartbeats 2000000
namespace Go.Sx
open Go Go.Proofs
end Go.Sx
end
section
set_option maxRecDepth 10000
set_option maxHeartbeats 2000000
namespace Go.Sx
open Go Go.Proofs
end Go.Sx
end
section
set_option maxRecDepth 10000
set_option maxHeartbeats 2000000
namespace Go.Sx
open Go Go.Proofs
end Go.Sx
end
section
set_option maxRecDepth 10000
set_option maxHeartbeats 2000000
namespace Go.Sx
open Go Go.Proofs
end Go.Sx
end
section
set_option maxRecDepth 10000
set_option maxHeartbeats 2000000
namespace Go.Sx
open Go Go.Proofs
end Go.Sx
end
section
set_option maxRecDepth 10000
set_option maxHeartbeats 2000000
namespace Go.Sx
open Go Go.Proofs
end Go.Sx
end
section
set_option maxRecDepth 10000
set_option maxHeartbeats 2000000
namespace Go.Sx
open Go Go.Proofs
theorem little_n {r : Raw} (h : r.little) : r.n.natAbs < 16777216 := Raw.n_bound (k := 3) h.1
theorem little_d {r : Raw} (h : r.little) : r.d < 16777216 := Raw.d_bound (k := 3) (by decide) h.2
theorem z1 {x : Int} {k : Nat} (h : x.natAbs < 256 ^ k) (m : Nat) (hk : k ≤ m) : (bytes x.natAbs).length ≤ m := Nat.le_trans (zl_le h) hk
end Go.Sx
end
section
set_option maxRecDepth 10000
set_option maxHeartbeats 2000000
namespace Go.Sx
open Go Go.Proofs
end Go.Sx
end
section
namespace Go.Sx
end Go.Sx
end
section
set_option maxRecDepth 10000
set_option maxHeartbeats 2000000
namespace Go.Sx
open Go Go.Proofs
theorem degen_iff {s : Sg} : degen s ↔ s.A.v = s.B.v := cmpV_zero
end Go.Sx
end
section
set_option maxRecDepth 10000
set_option maxHeartbeats 2000000
namespace Go.Sx
open Go Go.Proofs
end Go.Sx
end
section
set_option maxRecDepth 10000
set_option maxHeartbeats 2000000
namespace Go.Sx
open Go Go.Proofs
theorem eqP (p q : Pt) : (p.x.neg == q.x.neg && ((bs p.x.num).toList == (bs q.x.num).toList && ((bs p.x.den).toList == (bs q.x.den).toList && (p.y.neg == q.y.neg && ((bs p.y.num).toList == (bs q.y.num).toList && ((bs p.y.den).toList == (bs q.y.den).toList && true)))))) = decide (p = q) := by
 have h2 := eqR p.y q.y
 have h1 := eqR p.x q.x
 rw [h2]
 rw [Bool.eq_iff_iff] at h1 ⊢
 simp only [Bool.and_eq_true, decide_eq_true_eq] at h1 ⊢
 constructor
 · rintro ⟨a, b, c, d⟩
   have := h1.1 ⟨a, b, c, trivial⟩
   cases p; cases q; simp_all
 · rintro rfl
   obtain ⟨a, b, c, _⟩ := h1.2 rfl
   exact ⟨a, b, c, rfl⟩
end Go.Sx
end
section
namespace Go.Sx
end Go.Sx
end
section
namespace Go.Sx
def ori (a b c : V) : Rat := (b - a).cross (c - a)
theorem mpos {a b : Rat} (ha : 0 < a) (hb : 0 < b) : 0 < a * b := Rat.mul_pos ha hb
def half (u : V) : Prop := 0 < u.x ∨ (u.x = 0 ∧ 0 < u.y)
theorem ori_rot (a b c : V) : ori a b c = ori b c a := by simp only [ori, V.cross, V.sub_x, V.sub_y]; grind
section
variable {f : Nat → V} {n : Nat} (h0 : ∀ k, 0 < k → k < n → ltP2 (f 0) (f k)) (R2 : ∀ i, 0 < i → i + 1 < n → 0 < ori (f 0) (f i) (f (i + 1)))
include h0 R2
variable (R1 : ∀ i, 0 < i → i + 2 < n → 0 < ori (f i) (f (i + 1)) (f (i + 2)))
include R1
end
section
variable {f : Nat → V} {n : Nat} (hn : 3 ≤ n) (h0 : ∀ k, 0 < k → k < n → ltP2 (f 0) (f k)) (P : ∀ i k, i < n → k < n → f k ≠ f i → f k ≠ f ((i + 1) % n) → 0 < ori (f i) (f ((i + 1) % n)) (f k))
include hn h0 P
theorem ne_zero {k : Nat} (h : 0 < k) (hk : k < n) : f k ≠ f 0 := fun e => by
 have := h0 k h hk
 rw [e] at this
 exact ltP2_irr this
theorem ne_next {i : Nat} (hi : i < n) : f i ≠ f ((i + 1) % n) := fun e => by
 have z : ∀ k, k < n → f k = f i := fun k hk => by
   by_cases h : f k = f i
   · exact h
   · have := P i k hi hk h (by rw [← e]; exact h)
     rw [← e] at this
     have hz : ori (f i) (f i) (f k) = 0 := by simp only [ori, V.cross, V.sub_x, V.sub_y]; grind
     rw [hz] at this
     exact absurd this Rat.lt_irrefl
 exact ne_zero hn h0 P (k := 1) (by decide) (by omega) ((z 1 (by omega)).trans (z 0 (by omega)).symm)
theorem ne_two {i : Nat} (hi : i < n) : f i ≠ f ((i + 2) % n) := fun e => by
 have hm : (i + 1) % n < n := Nat.mod_lt _ (by omega)
 have hmm : ((i + 1) % n + 1) % n = (i + 2) % n := by rw [Nat.mod_add_mod]
 have hq := ne_next hn h0 P hi
 have z : ∀ k, k < n → f k = f i ∨ f k = f ((i + 1) % n) := fun k hk => by
   by_cases h : f k = f i
   · exact .inl h
   by_cases h' : f k = f ((i + 1) % n)
   · exact .inr h'
   have a := P i k hi hk h h'
   have b := P ((i + 1) % n) k hm hk h' (by rw [hmm, ← e]; exact h)
   rw [hmm, ← e] at b
   have hz : ori (f ((i + 1) % n)) (f i) (f k) = -ori (f i) (f ((i + 1) % n)) (f k) := by simp only [ori, V.cross, V.sub_x, V.sub_y]; grind
   rw [hz] at b
   grind
 rcases z 0 (by omega) with h | h
 · have hi0 : i = 0 := by
     rcases Nat.eq_zero_or_pos i with h1 | h1
     · exact h1
     · exact absurd h.symm (ne_zero hn h0 P h1 hi)
   subst hi0
   exact ne_zero hn h0 P (k := 2) (by decide) (by omega) (by rw [e, Nat.mod_eq_of_lt (show 0 + 2 < n by omega)])
 · have hi1 : (i + 1) % n = 0 := by
     rcases Nat.eq_zero_or_pos ((i + 1) % n) with h1 | h1
     · exact h1
     · exact absurd h.symm (ne_zero hn h0 P h1 hm)
   have w : ∀ k, 0 < k → k < n → f k = f i := fun k hk0 hk => by
     rcases z k hk with h2 | h2
     · exact h2
     · rw [hi1] at h2; exact absurd h2 (ne_zero hn h0 P hk0 hk)
   have := ne_next hn h0 P (i := 1) (by omega)
   rw [Nat.mod_eq_of_lt (show 1 + 1 < n by omega)] at this
   exact this ((w 1 (by decide) (by omega)).trans (w 2 (by decide) (by omega)).symm)
theorem convex_turn {i : Nat} (hi : i < n) : 0 < ori (f i) (f ((i + 1) % n)) (f ((i + 2) % n)) := by
 have hm : (i + 1) % n < n := Nat.mod_lt _ (by omega)
 have hmm : ((i + 1) % n + 1) % n = (i + 2) % n := by rw [Nat.mod_add_mod]
 refine P i _ hi (Nat.mod_lt _ (by omega)) (fun e => ne_two hn h0 P hi e.symm) (fun e => ?_)
 have := ne_next hn h0 P hm
 rw [hmm] at this
 exact this e.symm
theorem convex_fan {i : Nat} (h1 : 0 < i) (h2 : i + 1 < n) : 0 < ori (f 0) (f i) (f (i + 1)) := by
 have := P i 0 (by omega) (by omega) (fun e => ne_zero hn h0 P h1 (by omega) e.symm) (by rw [Nat.mod_eq_of_lt h2]; exact fun e => ne_zero hn h0 P (by omega) h2 e.symm)
 rw [Nat.mod_eq_of_lt h2] at this
 rw [ori_rot]; exact this
end
end Go.Sx
end
section
set_option maxRecDepth 10000
set_option maxHeartbeats 2000000
namespace Go.Sx
open Go Go.Proofs
theorem neqP (p q : Pt) : (!(p.x.neg == q.x.neg && ((bs p.x.num).toList == (bs q.x.num).toList && ((bs p.x.den).toList == (bs q.x.den).toList && (p.y.neg == q.y.neg && ((bs p.y.num).toList == (bs q.y.num).toList && ((bs p.y.den).toList == (bs q.y.den).toList && true))))))) = decide (p ≠ q) := by
 rw [eqP]; by_cases h : p = q <;> simp [h]
def belowB (o p : Pt) : Bool := decide (cmpV p.v o.v ≤ 0)
def sideB (p q r : Pt) : Bool := decide (r ≠ p) && (decide (r ≠ q) && decide (cmpQ (ori p.v q.v r.v) 0 ≤ 0))
def chkC (l : List Pt) : Int := if l.length < 3 then 4 else if 64 < l.length then 4 else if canonL l = false then 1 else if (l.drop 1).any (belowB (l.getD 0 P0)) = true then 8 else if (edgesL l).any (fun e => l.any (sideB e.1 e.2)) = true then 15 else 0
theorem c_cvCheck1 (A : Option Addr) (c : Nat) (a : Addr) (l : List Pt) (hl : 0 < l.length) (hs : Lsm KK l) (p : Pt) (hp : p.sm KK) :
   FnM PP f_convex_Check_1 [pV p, ptrV a] (facts [SlRes (some a) [.slice A l.length c], SlRes A (rowV ptC l)]) (retsV (.bool (belowB (l.getD 0 P0) p))) := by
 refine FnS.of TBgood mixed h_convex_Check_1 rfl rfl (Nat.le_of_ble_eq_true rfl) (by simp [SlRes.ok]) ?_
 intro w hw
 have hA : A.isSome = true := slres_some (facts_two hw).2 (by rw [rowV_length ptC_len]; omega)
 obtain ⟨o, ho⟩ : ∃ o, o = l.getD 0 P0 := ⟨_, rfl⟩
 have hol : l[0]? = some o := by rw [ho, getD_of (List.getElem?_eq_getElem hl)]; exact List.getElem?_eq_getElem _
 rw [← ho]
 obtain ⟨n, hn⟩ : ∃ n, n = l.length := ⟨_, rfl⟩
 rw [← hn]
 conv => whnf
 refine DrawVC.quiet (by kernel_rfl) ?_
 conv => whnf
 refine LoadVC.row (off := 0) (List.mem_cons_self ..) rfl (Nat.le_refl _) (by decide) (fun _ => rfl) ?_
 conv => whnf
 refine ⟨⟨by decide, by omega, hA⟩, ?_⟩
 conv => whnf
 refine LoadVC.elem (A := A) (xs := l) (j := ((0 : Nat) : Int)) ptC ptC_len (List.mem_cons_of_mem _ (List.mem_singleton.2 rfl)) rfl hl (by decide) (fun h => by cases h) ?_
 intro o' ho'
 obtain rfl : o' = o := elem_eq ho' hol
 conv => whnf
 refine CallVCd.fn (c_vCompare p o' hp (hs o' (List.mem_of_getElem? hol))) rfl ?_
 conv => whnf
 exact postV_one rfl
theorem c_cvCheck2 (a b : Addr) (p q r : Pt) (hp : p.sm (4 * KV)) (hq : q.sm (4 * KV)) (hr : r.sm (4 * KV)) :
   FnM PP f_convex_Check_2 [pV r, ptrV a, ptrV b] (facts [SlRes (some a) (ptC p), SlRes (some b) (ptC q)]) (retsV (.bool (sideB p q r))) := by
 refine FnS.of TBgood mixed h_convex_Check_2 rfl rfl (Nat.le_of_ble_eq_true rfl) (by simp [SlRes.ok]) ?_
 intro w hw
 obtain ⟨b1, o1, rfl⟩ := slf_addr (facts_two hw).1 (by simp [ptC])
 obtain ⟨b2, o2, rfl⟩ := slf_addr (facts_two hw).2 (by simp [ptC])
 have m1 : ∀ R : Res, R ∈ [SlRes (some ⟨b1, o1, none⟩) (ptC p), SlRes (some ⟨b2, o2, none⟩) (ptC q)] → True := fun _ _ => trivial
 conv => whnf
 refine LoadVC.row (off := 0) (List.mem_cons_self ..) (Addr_add0 _ _) (Nat.le_refl _) (by decide) (fun h => by cases h) ?_
 conv => whnf
 by_cases h1 : r = p
 · refine br_false ((neqP r p).trans (decide_eq_false (fun h => h h1))) ?_
   conv => whnf
   refine postV_one ?_
   rw [sideB, decide_eq_false (fun h => h h1)]; rfl
 refine br_true ((neqP r p).trans (decide_eq_true h1)) ?_
 conv => whnf
 refine LoadVC.row (off := 0) (List.mem_cons_of_mem _ (List.mem_singleton.2 rfl)) (Addr_add0 _ _) (Nat.le_refl _) (by decide) (fun h => by cases h) ?_
 conv => whnf
 by_cases h2 : r = q
 · refine br_false ((neqP r q).trans (decide_eq_false (fun h => h h2))) ?_
   conv => whnf
   refine postV_one ?_
   rw [sideB, decide_eq_true h1, decide_eq_false (fun h => h h2)]; rfl
 refine br_true ((neqP r q).trans (decide_eq_true h2)) ?_
 conv => whnf
 refine LoadVC.row (off := 0) (List.mem_cons_self ..) (Addr_add0 _ _) (Nat.le_refl _) (by decide) (fun h => by cases h) ?_
 conv => whnf
 refine LoadVC.row (off := 0) (List.mem_cons_of_mem _ (List.mem_singleton.2 rfl)) (Addr_add0 _ _) (Nat.le_refl _) (by decide) (fun h => by cases h) ?_
 conv => whnf
 refine CallVC.fn (c_Orient p q r hp hq hr) rfl ?_
 conv => whnf
 refine postV_one ?_
 rw [sideB, decide_eq_true h1, decide_eq_true h2]; rfl
theorem slf_drop1 {A : Option Addr} {c : Nat} {l : List Pt} {w : World} (h : SlF A (rowV ptC l) w) (hc : c ≠ 1) : SlF (if c = (1 : Int).toNat then A else A.map (·.add ((1 : Int).toNat * ty25.size))) (rowV ptC (l.drop 1)) w := by
 rw [if_neg (show ¬ c = (1 : Int).toNat from hc)]
 rcases h with h | ⟨b, o, rfl, h⟩
 · left
   have : l = [] := by
     rcases l with _ | ⟨x, l⟩
     · rfl
     · exact absurd h (by simp [rowV, ptC])
   rw [this]; rfl
 · right
   refine ⟨b, o + 6, rfl, fun j v hj => ?_⟩
   have h2 := h (6 + j) v (by
     rw [← rowV_drop ptC_len] at hj
     rw [List.getElem?_drop] at hj
     simpa using hj)
   rw [Nat.add_assoc]; exact h2
end Go.Sx
end
section
set_option maxRecDepth 10000
set_option maxHeartbeats 2000000
namespace Go.Sx
open Go Go.Proofs
theorem c_cvCheck (A : Option Addr) (c : Nat) (l : List Pt) (hcl : l.length ≤ c) (hs : Lsm KS l) :
   FnM PP f_convex_Check [.slice A l.length c] (facts [SlRes A (rowV ptC l)]) (retsV (.int .i64 (chkC l))) := by
 refine FnM.ofS TBgood mixed h_convex_Check rfl rfl (Nat.le_of_ble_eq_true rfl) (by simp [SlRes.ok]) (fun w l st E w' hp hm => postV_ok hp hm) ?_
 intro w hw
 have hK : Lsm KK l := fun p hp => (hs p hp).le (by decide)
 obtain ⟨n, hn⟩ : ∃ n, n = l.length := ⟨_, rfl⟩
 refine WPS.peel TBgood mixed ?_
 conv => whnf
 refine WPS.peel TBgood mixed ?_
 conv => whnf
 refine br_split ?_ ?_
 · intro h
   have hlt : l.length < 3 := by have : (l.length : Int) < 3 := of_decide_eq_true h; omega
   conv => whnf
   refine postV_one ?_
   rw [chkC, if_pos hlt]
 intro h
 have hlt : ¬ l.length < 3 := by have : ¬ (l.length : Int) < 3 := of_decide_eq_false h; omega
 conv => whnf
 refine br_split ?_ ?_
 · intro h
   have hgt : 64 < l.length := by have : (l.length : Int) > 64 := of_decide_eq_true h; omega
   conv => whnf
   refine postV_one ?_
   rw [chkC, if_neg hlt, if_pos hgt]
 intro h
 have hgt : ¬ 64 < l.length := by have : ¬ (l.length : Int) > 64 := of_decide_eq_false h; omega
 conv => whnf
 refine WPS.peel TBgood mixed ?_
 conv => whnf
 refine CallVC.v (c_cvCanonical A c l (by omega) hK).enters (CallV.facts (c_cvCanonical A c l (by omega) hK) rfl (fun R hR => hR)) ?_
 cases hcan : canonL l with
 | false =>
   conv => whnf
   refine postV_one ?_
   rw [chkC, if_neg hlt, if_neg hgt, if_pos hcan]
 | true =>
 conv => whnf
 refine WPS.peel TBgood mixed ?_
 conv => whnf
 refine ⟨⟨by decide, by omega, by omega⟩, ?_⟩
 conv => whnf
 obtain ⟨A1, hA1⟩ : ∃ A1, A1 = (if c = (1 : Int).toNat then A else A.map (·.add ((1 : Int).toNat * ty25.size))) := ⟨_, rfl⟩
 have hslice : Value.slice (if c = (1 : Int).toNat then A else A.map (·.add ((1 : Int).toNat * ty25.size))) (((l.length : Nat) : Int).toNat - (1 : Int).toNat) (c - (1 : Int).toNat) = Value.slice A1 (l.drop 1).length (c - 1) := by
   rw [← hA1, List.length_drop]; rfl
 have hcf := fun a => c_ContainsFuncQ A1 (c - 1) (l.drop 1) f_convex_Check_1 [ptrV a] (belowB (l.getD 0 P0)) [SlRes (some a) [.slice A l.length c], SlRes A (rowV ptC l)] (by rw [List.length_drop]; omega) (by simp [SlRes.ok]) (fun x hx => c_cvCheck1 A c a l (by omega) hK x (hK x (List.mem_of_mem_drop hx)))
 have hRE : ∀ w, facts [SlRes A (rowV ptC l)] w → facts [SlRes A1 (rowV ptC (l.drop 1)), SlRes A (rowV ptC l)] w := fun w hw R hR => by
   rcases List.mem_cons.1 hR with rfl | hR
   · rw [hA1]; exact slf_drop1 (hw _ (List.mem_cons_self ..)) (by omega)
   · exact hw R hR
 have hsw : ∀ a, FnM PP f_slices_ContainsFunc_sl_api_Point_api_Point [.slice A1 (l.drop 1).length (c - 1), cloV f_convex_Check_1 [ptrV a]] (facts [SlRes (some a) [.slice A l.length c], SlRes A1 (rowV ptC (l.drop 1)), SlRes A (rowV ptC l)]) (retsV (.bool ((l.drop 1).any (belowB (l.getD 0 P0))))) := fun a => (hcf a).weak (facts_sub fun R hR => by
   simp only [List.mem_cons, List.not_mem_nil, or_false] at hR ⊢
   rcases hR with h | h | h
   · exact .inr (.inl h)
   · exact .inl h
   · exact .inr (.inr h))
 refine CallVC.v (hsw ⟨0, 0, none⟩).enters (CallV.c1 (k := 1) (fun z => [.slice A1 (l.drop 1).length (c - 1), z]) rfl (List.mem_cons_of_mem _ (List.mem_cons_self ..)) (fun E => congrArg (fun z => [z, (SV.o (.clo f_convex_Check_1 [.l 1])).real E]) hslice) hRE hsw) ?_
 cases hbel : (l.drop 1).any (belowB (l.getD 0 P0)) with
 | true =>
   conv => whnf
   refine postV_one ?_
   rw [chkC, if_neg hlt, if_neg hgt, if_neg (by rw [hcan]; decide), if_pos hbel]
 | false =>
 conv => whnf
 refine WPS.seq ?_
 refine WPS.seq ?_
 refine WPS.of TBgood mixed ?_
 conv => whnf
 refine CallVC.f1 (c_cvEdges A c l.length).enters (CallV.facts (c_cvEdges A c l.length) rfl (by simp)) (fun a => ?_)
 conv => whnf
 refine WPS.block ?_
 refine WPS.range TBgood mixed rfl rfl (c_cvEdges1 A c a l (by omega)) (fun S hS => hS) 2 [(1, .o (.p 27 0)), (2, .o (.p 28 0))]
   (fun i (_ : Bool) => [(27, .box [.v (.slice A l.length c)] t_sl_api_Point), (28, .box [.v (.int .i64 0)] t_api_Errno)])
   (fun i _ => ((edgesL l).take i).any (fun e => l.any (sideB e.1 e.2)) = false) false rfl (SLe.mk (fun k => bif Nat.beq k 27 then 1 else bif Nat.beq k 28 then 2 else k) ⟨rfl, rfl, trivial⟩ ⟨⟨_, rfl, .refl _⟩, ⟨_, rfl, .refl _⟩, trivial⟩ rfl (fun R hR => hR)) rfl
   (fun i j _ => ⟨rfl, rfl⟩) rfl (fun x hx => by obtain ⟨e, _, rfl⟩ := List.mem_map.1 hx; rfl) rfl ?_ ?_
 · rintro W1 X i o Rx hi hv
   rw [edgeXs_len] at hi
   obtain ⟨e, he⟩ : ∃ e, (edgesL l)[i]? = some e := ⟨_, List.getElem?_eq_getElem (by rw [edgesL_len]; exact hi)⟩
   have hx : (edgeXs l).getD i [] = [pV e.1, pV e.2] := getD_of (by rw [List.getElem?_map, he]; rfl)
   rw [hx]
   have htake : (edgesL l).take (i + 1) = (edgesL l).take i ++ [e] := by rw [List.take_add_one, he]; rfl
   obtain ⟨he1, he2⟩ := edgesL_sm hs (List.mem_of_getElem? he)
   conv => whnf
   refine ⟨rfl, fun Ry => ?_⟩
   conv => whnf
   have hcq : ∀ a b, FnM PP f_slices_ContainsFunc_sl_api_Point_api_Point [.slice A l.length c, cloV f_convex_Check_2 [ptrV a, ptrV b]] (facts [SlRes (some a) (ptC e.1), SlRes (some b) (ptC e.2), SlRes A (rowV ptC l)]) (retsV (.bool (l.any (sideB e.1 e.2)))) := fun a b =>
     (c_ContainsFuncQ A c l f_convex_Check_2 [ptrV a, ptrV b] (sideB e.1 e.2) [SlRes (some a) (ptC e.1), SlRes (some b) (ptC e.2)] (by omega) (by simp [SlRes.ok]) (fun x hx => c_cvCheck2 a b e.1 e.2 x (he1.le (by decide)) (he2.le (by decide)) ((hs x hx).le (by decide)))).weak (facts_sub fun R hR => by
       simp only [List.mem_cons, List.not_mem_nil, or_false] at hR ⊢
       rcases hR with h | h | h
       · exact .inr (.inr h)
       · exact .inl h
       · exact .inr (.inl h))
   refine CallVC.v (hcq ⟨0, 0, none⟩ ⟨0, 0, none⟩).enters (CallV.c2 (k1 := 3) (k2 := 4) (fun z => [.slice A l.length c, z]) rfl rfl (List.mem_cons_of_mem _ (List.mem_cons_self ..)) (fun _ => rfl) (facts_sub (re := [SlRes A (rowV ptC l)]) (re' := [Ry, SlRes (some a) [.slice A l.length c], SlRes A (rowV ptC l)]) fun R hR => by rw [List.mem_singleton.1 hR]; simp) hcq) ?_
   cases hb : l.any (sideB e.1 e.2) with
   | true =>
     conv => whnf
     refine ⟨[(27, .box [.v (.slice A l.length c)] t_sl_api_Point), (28, .box [.v (.int .i64 15)] t_api_Errno)], rfl, rfl, SLe.id trivial ⟨⟨_, rfl, .refl _⟩, ⟨_, rfl, .refl _⟩, trivial⟩ (fun R hR => hR), ?_⟩
     conv => whnf
     refine postV_one ?_
     rw [chkC, if_neg hlt, if_neg hgt, if_neg (by rw [hcan]; decide), if_neg (by rw [hbel]; decide), if_pos (List.any_eq_true.2 ⟨e, List.mem_of_getElem? he, hb⟩)]
   | false =>
     conv => whnf
     exact ⟨false, by rw [htake, List.any_append, hv]; simp [hb], SLe.id trivial ⟨⟨_, rfl, .refl _⟩, ⟨_, rfl, .refl _⟩, trivial⟩ (fun R hR => hR)⟩
 · rintro o hv
   rw [edgeXs_len, List.take_of_length_le (by rw [edgesL_len]; exact Nat.le_refl _)] at hv
   refine WPS.of TBgood mixed ?_
   conv => whnf
   refine postV_one ?_
   rw [chkC, if_neg hlt, if_neg hgt, if_neg (by rw [hcan]; decide), if_neg (by rw [hbel]; decide), if_neg (by rw [hv]; decide)]
end Go.Sx
end
section
set_option maxRecDepth 10000
set_option maxHeartbeats 2000000
namespace Go.Sx
open Go Go.Proofs
def rightB (p q r : Pt) : Bool := decide (cmpQ (ori p.v q.v r.v) 0 < 0)
theorem c_cvTouch1 (z : Int) : Fn PP f_convex_Touch_1 [.int .i64 z] (.bool (decide (z < 0))) := by
 refine Fn.of TBgood mixed h_convex_Touch_1 rfl rfl (Nat.le_of_ble_eq_true rfl) ?_
 intro w
 conv => whnf
 exact postV_one rfl
theorem c_cvBeside1 (f a b : Addr) (p q r : Pt) (hp : p.sm (4 * KV)) (hq : q.sm (4 * KV)) (hr : r.sm (4 * KV)) :
   FnM PP f_convex_beside_1 [pV r, ptrV f, ptrV a, ptrV b] (facts [SlRes (some f) [fnV f_convex_Touch_1], SlRes (some a) (ptC p), SlRes (some b) (ptC q)]) (retsV (.bool (!rightB p q r))) := by
 refine FnS.of TBgood mixed h_convex_beside_1 rfl rfl (Nat.le_of_ble_eq_true rfl) (by simp [SlRes.ok]) ?_
 intro w hw
 obtain ⟨b1, o1, rfl⟩ := slf_addr (hw (SlRes (some a) (ptC p)) (by simp)) (by simp [ptC])
 obtain ⟨b2, o2, rfl⟩ := slf_addr (hw (SlRes (some b) (ptC q)) (by simp)) (by simp [ptC])
 conv => whnf
 refine DrawVC.quiet (by kernel_rfl) ?_
 conv => whnf
 refine LoadVC.row (off := 0) (List.mem_cons_self ..) rfl (Nat.le_refl _) (by decide) (fun _ => rfl) ?_
 conv => whnf
 refine LoadVC.row (off := 0) (List.mem_cons_of_mem _ (List.mem_cons_self ..)) (Addr_add0 _ _) (Nat.le_refl _) (by decide) (fun h => by cases h) ?_
 conv => whnf
 refine LoadVC.row (off := 0) (List.mem_cons_of_mem _ (List.mem_cons_of_mem _ (List.mem_cons_self ..))) (Addr_add0 _ _) (Nat.le_refl _) (by decide) (fun h => by cases h) ?_
 conv => whnf
 refine CallVCd.fn (c_Orient p q r hp hq hr) rfl ?_
 conv => whnf
 refine CallVCd.fn (c_cvTouch1 (cmpQ (ori p.v q.v r.v) 0)) rfl ?_
 conv => whnf
 exact postV_one rfl
def bsdP (b : List Pt) (e : Pt × Pt) : Bool := !(b.any fun r => !rightB e.1 e.2 r)
def bsdL (a b : List Pt) : Option (Pt × Pt) := (edgesL a).find? (bsdP b)
def bsdV (o : Option (Pt × Pt)) : Value := match o with
 | some e => .tuple #[sV (sgE e), .bool true]
 | none => .tuple #[sV S0, .bool false]
theorem find_take {α : Type} {L : List α} {i : Nat} {e : α} {P : α → Bool} (he : L[i]? = some e) (hn : (L.take i).find? P = none) (hp : P e = true) : L.find? P = some e := by
 have h : L = L.take i ++ e :: L.drop (i + 1) := by
   obtain ⟨h1, h2⟩ := List.getElem?_eq_some_iff.1 he
   rw [← h2, ← List.drop_eq_getElem_cons h1, List.take_append_drop]
 rw [h, List.find?_append, hn, List.find?_cons, hp]; rfl
theorem c_cvBeside (A B : Option Addr) (c d : Nat) (a b : List Pt) (ha : a.length ≤ 1000) (hb : b.length ≤ 1000) (hsa : Lsm KS a) (hsb : Lsm KS b) :
   FnM PP f_convex_beside [.slice A a.length c, .slice B b.length d, fnV f_convex_Touch_1] (facts [SlRes A (rowV ptC a), SlRes B (rowV ptC b)]) (retsV (bsdV (bsdL a b))) := by
 refine FnM.ofS TBgood mixed h_convex_beside rfl rfl (Nat.le_of_ble_eq_true rfl) (by simp [SlRes.ok]) (fun w l st E w' hp hm => postV_ok hp hm) ?_
 intro w hw
 refine WPS.peel TBgood mixed ?_
 conv => whnf
 refine WPS.seq ?_
 refine WPS.seq ?_
 refine WPS.of TBgood mixed ?_
 conv => whnf
 refine CallVC.f1 (c_cvEdges A c a.length).enters (CallV.facts (c_cvEdges A c a.length) rfl (by simp)) (fun ad => ?_)
 conv => whnf
 refine WPS.block ?_
 refine WPS.range TBgood mixed rfl rfl (c_cvEdges1 A c ad a (by omega)) (fun S hS => by
     rcases List.mem_cons.1 hS with rfl | hS
     · exact List.mem_cons_self ..
     · rw [List.mem_singleton.1 hS]; exact List.mem_cons_of_mem _ (List.mem_cons_self ..)) 4 [(4, .o (.p 22 0)), (5, .o (.p 23 0)), (6, .o (.p 24 0)), (7, .o (.p 25 0))]
   (fun i (_ : Bool) => [(22, .box [.v (.slice B b.length d)] t_sl_api_Point), (23, .box [.v (fnV f_convex_Touch_1)] t_fn_int_to_bool), (24, sgB S0), (25, .box [.v (.bool false)] t_bool)])
   (fun i _ => ((edgesL a).take i).find? (bsdP b) = none) false rfl (SLe.mk (fun k => bif Nat.beq k 22 then 4 else bif Nat.beq k 23 then 5 else bif Nat.beq k 24 then 6 else bif Nat.beq k 25 then 7 else k) ⟨rfl, rfl, rfl, rfl, trivial⟩ ⟨⟨_, rfl, .refl _⟩, ⟨_, rfl, .refl _⟩, ⟨_, rfl, .refl _⟩, ⟨_, rfl, .refl _⟩, trivial⟩ rfl (fun R hR => hR)) rfl
   (fun i j _ => ⟨rfl, rfl⟩) rfl (fun x hx => by obtain ⟨e, _, rfl⟩ := List.mem_map.1 hx; rfl) rfl ?_ ?_
 · rintro W1 X i o Rx hi hv
   rw [edgeXs_len] at hi
   obtain ⟨e, he⟩ : ∃ e, (edgesL a)[i]? = some e := ⟨_, List.getElem?_eq_getElem (by rw [edgesL_len]; exact hi)⟩
   have hx : (edgeXs a).getD i [] = [pV e.1, pV e.2] := getD_of (by rw [List.getElem?_map, he]; rfl)
   rw [hx]
   have htake : (edgesL a).take (i + 1) = (edgesL a).take i ++ [e] := by rw [List.take_add_one, he]; rfl
   obtain ⟨he1, he2⟩ := edgesL_sm hsa (List.mem_of_getElem? he)
   conv => whnf
   refine ⟨rfl, fun Ry => ?_⟩
   conv => whnf
   have hcq : ∀ f p q, FnM PP f_slices_ContainsFunc_sl_api_Point_api_Point [.slice B b.length d, cloV f_convex_beside_1 [ptrV f, ptrV p, ptrV q]] (facts [SlRes (some f) [fnV f_convex_Touch_1], SlRes (some p) (ptC e.1), SlRes (some q) (ptC e.2), SlRes B (rowV ptC b)]) (retsV (.bool (b.any fun r => !rightB e.1 e.2 r))) := fun f p q =>
     (c_ContainsFuncQ B d b f_convex_beside_1 [ptrV f, ptrV p, ptrV q] (fun r => !rightB e.1 e.2 r) [SlRes (some f) [fnV f_convex_Touch_1], SlRes (some p) (ptC e.1), SlRes (some q) (ptC e.2)] (by omega) (by simp [SlRes.ok]) (fun x hx => c_cvBeside1 f p q e.1 e.2 x (he1.le (by decide)) (he2.le (by decide)) ((hsb x hx).le (by decide)))).weak (facts_sub fun R hR => by
       simp only [List.mem_cons, List.not_mem_nil, or_false] at hR ⊢
       rcases hR with h | h | h | h
       · exact .inr (.inr (.inr h))
       · exact .inl h
       · exact .inr (.inl h)
       · exact .inr (.inr (.inl h)))
   refine CallVC.v (hcq ⟨0, 0, none⟩ ⟨0, 0, none⟩ ⟨0, 0, none⟩).enters (CallV.c3 (k1 := 23) (k2 := 8) (k3 := 9) (fun z => [.slice B b.length d, z]) rfl rfl rfl (List.mem_cons_of_mem _ (List.mem_cons_self ..)) (fun _ => rfl) (facts_sub (re := [SlRes B (rowV ptC b)]) (re' := [Ry, SlRes (some ad) [.slice A a.length c], SlRes A (rowV ptC a), SlRes B (rowV ptC b)]) fun R hR => by rw [List.mem_singleton.1 hR]; simp) hcq) ?_
   have hP : bsdP b e = !(b.any fun r => !rightB e.1 e.2 r) := rfl
   cases hb : b.any fun r => !rightB e.1 e.2 r with
   | false =>
     rw [hb] at hP
     conv => whnf
     refine ⟨[(22, .box [.v (.slice B b.length d)] t_sl_api_Point), (23, .box [.v (fnV f_convex_Touch_1)] t_fn_int_to_bool), (24, sgB (sgE e)), (25, .box [.v (.bool true)] t_bool)], rfl, rfl, SLe.id trivial ⟨⟨_, rfl, .refl _⟩, ⟨_, rfl, .refl _⟩, ⟨_, rfl, .refl _⟩, ⟨_, rfl, .refl _⟩, trivial⟩ (fun R hR => hR), ?_⟩
     conv => whnf
     refine postV_two ?_
     rw [bsdL, find_take he hv hP]; rfl
   | true =>
     rw [hb] at hP
     conv => whnf
     exact ⟨false, by rw [htake, List.find?_append, hv, List.find?_cons, hP]; rfl, SLe.id trivial ⟨⟨_, rfl, .refl _⟩, ⟨_, rfl, .refl _⟩, ⟨_, rfl, .refl _⟩, ⟨_, rfl, .refl _⟩, trivial⟩ (fun R hR => hR)⟩
 · rintro o hv
   rw [edgeXs_len, List.take_of_length_le (by rw [edgesL_len]; exact Nat.le_refl _)] at hv
   refine WPS.of TBgood mixed ?_
   conv => whnf
   refine postV_two ?_
   rw [bsdL, hv]; rfl
end Go.Sx
end
section
set_option maxRecDepth 10000
set_option maxHeartbeats 2000000
namespace Go.Sx
open Go Go.Proofs
def sepL (a b : List Pt) : Option (Pt × Pt) := match bsdL a b with
 | some e => some e
 | none => bsdL b a
theorem c_cvSep (A B : Option Addr) (c d : Nat) (a b : List Pt) (ha : a.length ≤ 1000) (hb : b.length ≤ 1000) (hsa : Lsm KS a) (hsb : Lsm KS b) :
   FnM PP f_convex_separator [.slice A a.length c, .slice B b.length d, fnV f_convex_Touch_1] (facts [SlRes A (rowV ptC a), SlRes B (rowV ptC b)]) (retsV (bsdV (sepL a b))) := by
 refine FnS.of TBgood mixed h_convex_separator rfl rfl (Nat.le_of_ble_eq_true rfl) (by simp [SlRes.ok]) ?_
 intro w hw
 conv => whnf
 refine CallVC.v (c_cvBeside A B c d a b ha hb hsa hsb).enters (CallV.facts (c_cvBeside A B c d a b ha hb hsa hsb) rfl (fun R hR => hR)) ?_
 unfold sepL
 cases h1 : bsdL a b with
 | some e =>
   conv => whnf
   exact postV_two rfl
 | none =>
   conv => whnf
   refine CallVC.v (c_cvBeside B A d c b a hb ha hsb hsa).enters (CallV.facts (c_cvBeside B A d c b a hb ha hsb hsa) rfl (fun R hR => by
     simp only [List.mem_cons, List.not_mem_nil, or_false] at hR
     rcases hR with rfl | rfl
     · exact List.mem_cons_of_mem _ (List.mem_cons_self ..)
     · exact List.mem_cons_self ..)) ?_
   cases h2 : bsdL b a with
   | some e =>
     conv => whnf
     exact postV_two rfl
   | none =>
     conv => whnf
     exact postV_two rfl
def tchL (a b : List Pt) : Bool × Int := if chkC a ≠ 0 ∨ chkC b ≠ 0 then (false, 1) else (!(sepL a b).isSome, 0)
theorem chkC_len {l : List Pt} (h : chkC l = 0) : 3 ≤ l.length ∧ l.length ≤ 64 := by
 unfold chkC at h
 split at h
 · cases h
 split at h
 · cases h
 exact ⟨by omega, by omega⟩
theorem c_cvTouch (A B : Option Addr) (c d : Nat) (a b : List Pt) (hca : a.length ≤ c) (hcb : b.length ≤ d) (hsa : Lsm KS a) (hsb : Lsm KS b) :
   FnM PP f_convex_Touch [.slice A a.length c, .slice B b.length d] (facts [SlRes A (rowV ptC a), SlRes B (rowV ptC b)]) (retsV (.tuple #[.bool (tchL a b).1, .int .i64 (tchL a b).2])) := by
 refine FnS.of TBgood mixed h_convex_Touch rfl rfl (Nat.le_of_ble_eq_true rfl) (by simp [SlRes.ok]) ?_
 intro w hw
 conv => whnf
 refine CallVC.v (c_cvCheck A c a hca hsa).enters (CallV.facts (c_cvCheck A c a hca hsa) rfl (fun R hR => by rw [List.mem_singleton.1 hR]; exact List.mem_cons_self ..)) ?_
 by_cases h1 : chkC a = 0
 rotate_left
 · rw [tchL, if_pos (.inl h1)]
   conv => whnf
   refine br_true (bne_iff_ne.2 h1) ?_
   conv => whnf
   exact postV_two rfl
 conv => whnf
 refine br_false (bne_eq_false_iff_eq.2 h1) ?_
 conv => whnf
 refine CallVC.v (c_cvCheck B d b hcb hsb).enters (CallV.facts (c_cvCheck B d b hcb hsb) rfl (fun R hR => by rw [List.mem_singleton.1 hR]; exact List.mem_cons_of_mem _ (List.mem_cons_self ..))) ?_
 by_cases h2 : chkC b = 0
 rotate_left
 · rw [tchL, if_pos (.inr h2)]
   conv => whnf
   refine br_true (bne_iff_ne.2 h2) ?_
   conv => whnf
   exact postV_two rfl
 rw [tchL, if_neg (fun h => h.elim (fun k => k h1) (fun k => k h2))]
 have l1 := chkC_len h1
 have l2 := chkC_len h2
 conv => whnf
 refine br_false (bne_eq_false_iff_eq.2 h2) ?_
 conv => whnf
 refine CallVC.v (c_cvSep A B c d a b (by omega) (by omega) hsa hsb).enters (CallV.facts (c_cvSep A B c d a b (by omega) (by omega) hsa hsb) rfl (fun R hR => hR)) ?_
 cases h3 : sepL a b with
 | some e =>
   conv => whnf
   exact postV_two rfl
 | none =>
   conv => whnf
   exact postV_two rfl
def at_ (l : List Pt) (i : Nat) : V := (l.getD i P0).v
structure Cvx (l : List Pt) : Prop where
 n3 : 3 ≤ l.length
 n64 : l.length ≤ 64
 ok : canonL l = true
 least : ∀ k, 0 < k → k < l.length → ltP2 (at_ l 0) (at_ l k)
 left : ∀ i k, i < l.length → k < l.length → at_ l k ≠ at_ l i → at_ l k ≠ at_ l ((i + 1) % l.length) → 0 < ori (at_ l i) (at_ l ((i + 1) % l.length)) (at_ l k)
theorem getD_mem' {l : List Pt} {i : Nat} (h : i < l.length) : l.getD i P0 ∈ l := by
 rw [getD_of (List.getElem?_eq_getElem h)]; exact List.getElem_mem h
theorem least_iff {l : List Pt} : (l.drop 1).any (belowB (l.getD 0 P0)) = false ↔ ∀ k, 0 < k → k < l.length → ltP2 (at_ l 0) (at_ l k) := by
 rw [List.any_eq_false]
 constructor
 · intro h k hk hkl
   have hm : l.getD k P0 ∈ l.drop 1 := by
     rw [getD_of (List.getElem?_eq_getElem hkl)]
     refine List.mem_of_getElem? (i := k - 1) ?_
     rw [List.getElem?_drop, show 1 + (k - 1) = k by omega]; exact List.getElem?_eq_getElem hkl
   have h2 := h _ hm
   have h3 : ¬ cmpV (l.getD k P0).v (l.getD 0 P0).v ≤ 0 := by simpa [belowB] using h2
   exact cmpV_gt.1 (by show cmpV (l.getD k P0).v (l.getD 0 P0).v > 0; omega)
 · intro h x hx
   obtain ⟨i, hi⟩ := List.getElem?_of_mem hx
   rw [List.getElem?_drop] at hi
   have hil : 1 + i < l.length := (List.getElem?_eq_some_iff.1 hi).1
   have h2 := cmpV_gt.2 (h (1 + i) (by omega) hil)
   have h3 : at_ l (1 + i) = x.v := by unfold at_; rw [getD_of hi]
   rw [h3] at h2
   have h4 : ¬ cmpV x.v (l.getD 0 P0).v ≤ 0 := by
     have : cmpV x.v (at_ l 0) > 0 := h2
     show ¬ cmpV x.v (at_ l 0) ≤ 0
     omega
   simpa [belowB] using h4
theorem sideB_pos {p q r : Pt} (h1 : r ≠ p) (h2 : r ≠ q) (h : ¬ sideB p q r = true) : 0 < ori p.v q.v r.v := by
 rw [sideB, decide_eq_true h1, decide_eq_true h2, Bool.true_and, Bool.true_and, decide_eq_true_eq] at h
 exact cmpQ_gt.1 (by show cmpQ (ori p.v q.v r.v) 0 > 0; omega)
theorem left_of {l : List Pt} (h : (edgesL l).any (fun e => l.any (sideB e.1 e.2)) = false) : ∀ i k, i < l.length → k < l.length → at_ l k ≠ at_ l i → at_ l k ≠ at_ l ((i + 1) % l.length) → 0 < ori (at_ l i) (at_ l ((i + 1) % l.length)) (at_ l k) := by
 intro i k hi hk h1 h2
 have he := List.any_eq_false.1 h _ (List.mem_of_getElem? (edgesL_get hi))
 have hr := List.any_eq_false.1 (Bool.eq_false_iff.2 he) _ (getD_mem' hk)
 exact sideB_pos (fun e => h1 (congrArg Pt.v e)) (fun e => h2 (congrArg Pt.v e)) hr
theorem cvx_of {l : List Pt} (h : chkC l = 0) : Cvx l := by
 obtain ⟨h3, h64⟩ := chkC_len h
 rw [chkC, if_neg (by omega), if_neg (by omega)] at h
 split at h
 · cases h
 rename_i hc
 split at h
 · cases h
 rename_i hb
 split at h
 · cases h
 rename_i he
 exact ⟨h3, h64, by simpa using hc, least_iff.1 (by simpa using hb), left_of (Bool.eq_false_iff.2 he)⟩
theorem Cvx.ne {l : List Pt} (h : Cvx l) {i : Nat} (hi : i < l.length) : at_ l i ≠ at_ l ((i + 1) % l.length) := ne_next h.n3 h.least h.left hi
theorem Cvx.okp {l : List Pt} (h : Cvx l) {p : Pt} (hp : p ∈ l) : p.ok := by
 have := List.all_eq_true.1 h.ok p hp
 simpa using this
theorem Cvx.edge {l : List Pt} (h : Cvx l) {e : Pt × Pt} (he : e ∈ edgesL l) : e.1.ok ∧ e.2.ok ∧ ¬ degen (sgE e) := by
 obtain ⟨i, hi⟩ := List.getElem?_of_mem he
 have hil : i < l.length := by rw [← edgesL_len l]; exact (List.getElem?_eq_some_iff.1 hi).1
 rw [edgesL_get hil] at hi
 cases hi
 have hm : (i + 1) % l.length < l.length := Nat.mod_lt _ (by omega)
 exact ⟨h.okp (getD_mem' hil), h.okp (getD_mem' hm), fun hd => h.ne hil (degen_iff.1 hd)⟩
end Go.Sx
end
section
set_option maxRecDepth 10000
set_option maxHeartbeats 2000000
namespace Go.Sx
open Go Go.Proofs
end Go.Sx
end
section
set_option maxRecDepth 10000
set_option maxHeartbeats 2000000
namespace Go.Sx
open Go Go.Proofs
end Go.Sx
end
section
set_option maxRecDepth 10000
set_option maxHeartbeats 2000000
namespace Go.Sx
open Go Go.Proofs
theorem at_get {l : List Pt} {i : Nat} {p : Pt} (h : l[i]? = some p) : at_ l i = p.v := by unfold at_; rw [getD_of h]
end Go.Sx
end
section
set_option maxRecDepth 10000
set_option maxHeartbeats 2000000
namespace Go.Sx
open Go Go.Proofs
end Go.Sx
end
section
set_option maxRecDepth 10000
set_option maxHeartbeats 2000000
namespace Go.Sx
open Go Go.Proofs
def edD (e f : Pt × Pt) : Rat := segD sqPt e.1.v e.2.v f.1.v f.2.v
def prsD (a b : List Pt) : List Rat := (edgesL a).flatMap fun e => (edgesL b).map (edD e)
def lstQ (l : List Rat) : Rat := match l with
 | [] => 0
 | x :: r => extQ (-1) x r
def sqC (a b : List Pt) : Rat × Int := if (tchL a b).2 ≠ 0 then (0, 1) else if (tchL a b).1 = true then (0, 0) else (lstQ (prsD a b), 0)
abbrev sqMB : ME := .box [.v (fnV f_vector_Square), .v (fnV f_distance_square_1)] t_distance_metric
theorem prs_snoc {es fs : List (Pt × Pt)} {i : Nat} {e : Pt × Pt} (he : es[i]? = some e) : (es.take (i + 1)).flatMap (fun e => fs.map (edD e)) = (es.take i).flatMap (fun e => fs.map (edD e)) ++ fs.map (edD e) := by
 rw [take_snoc' he, List.flatMap_append]; simp
theorem edD_sz {a b : List Pt} (hsa : Lsm KS a) (hsb : Lsm KS b) {e f : Pt × Pt} (he : e ∈ edgesL a) (hf : f ∈ edgesL b) : Sz 1000000 (edD e f) := by
 obtain ⟨h1, h2⟩ := edgesL_sm hsa he
 obtain ⟨h3, h4⟩ := edgesL_sm hsb hf
 have k1 := h1.sz (by decide)
 have k2 := h2.sz (by decide)
 have k3 := h3.sz (by decide)
 have k4 := h4.sz (by decide)
 unfold edD segD
 split
 · exact (show Sz 1 (0 : Rat) from ⟨by decide, by decide⟩).le (by decide)
 · refine extQ_sz _ _ (sqPt_sz k1 k2 k3) (fun r hr => ?_)
   simp only [List.mem_cons, List.not_mem_nil, or_false] at hr
   rcases hr with rfl | rfl | rfl
   · exact sqPt_sz k1 k2 k4
   · exact sqPt_sz k3 k4 k1
   · exact sqPt_sz k3 k4 k2
theorem c_dSquareConvex (A B : Option Addr) (c d : Nat) (a b : List Pt) (hca : a.length ≤ c) (hcb : b.length ≤ d) (hsa : Lsm KS a) (hsb : Lsm KS b) :
   FnM PP f_distance_SquareConvex [.slice A a.length c, .slice B b.length d] (facts [SlRes A (rowV ptC a), SlRes B (rowV ptC b)]) (retsV (rerV (sqC a b))) := by
 refine FnS.of TBgood mixed h_distance_SquareConvex rfl rfl (Nat.le_of_ble_eq_true rfl) (by simp [SlRes.ok]) ?_
 intro w hw
 conv => whnf
 refine CallVC.v (c_cvTouch A B c d a b hca hcb hsa hsb).enters (CallV.facts (c_cvTouch A B c d a b hca hcb hsa hsb) rfl (fun R hR => hR)) ?_
 by_cases hk : chkC a ≠ 0 ∨ chkC b ≠ 0
 · have e1 : sqC a b = (0, 1) := by rw [sqC, tchL, if_pos hk]; rfl
   rw [e1, tchL, if_pos hk]
   conv => whnf
   exact postV_two (by rw [rerV, qV, rawV0])
 have va := cvx_of (l := a) (by by_cases h : chkC a = 0; exact h; exact absurd (.inl h) hk)
 have vb := cvx_of (l := b) (by by_cases h : chkC b = 0; exact h; exact absurd (.inr h) hk)
 have n3 := va.n3
 have n64 := va.n64
 have m3 := vb.n3
 have m64 := vb.n64
 have e2 : (sepL a b).isSome = false → sqC a b = (0, 0) := fun h => by rw [sqC, tchL, if_neg hk, h]; rfl
 have e3 : (sepL a b).isSome = true → sqC a b = (lstQ (prsD a b), 0) := fun h => by rw [sqC, tchL, if_neg hk, h]; rfl
 rw [tchL, if_neg hk]
 cases hs : (sepL a b).isSome with
 | false =>
   rw [e2 hs]
   conv => whnf
   exact postV_two (by rw [rerV, qV, rawV0])
 | true =>
 rw [e3 hs]
 conv => whnf
 refine CallVC.fn c_square rfl ?_
 conv => whnf
 refine CallVC.o 27 (c_Edges A c a (by omega)).enters (CallV.facts (c_Edges A c a (by omega)) rfl (fun R hR => by rw [List.mem_singleton.1 hR]; exact List.mem_cons_self ..)) rfl rfl ?_
 obtain ⟨n, hn⟩ : ∃ n, n = a.length := ⟨_, rfl⟩
 obtain ⟨m, hm⟩ : ∃ m, m = b.length := ⟨_, rfl⟩
 obtain ⟨es, hes⟩ : ∃ es, es = edgesL a := ⟨_, rfl⟩
 obtain ⟨fs, hfs⟩ : ∃ fs, fs = edgesL b := ⟨_, rfl⟩
 have hel : es.length = n := by rw [hes, edgesL_len, hn]
 have hfl : fs.length = m := by rw [hfs, edgesL_len, hm]
 have hgood : ∀ e ∈ es, ∀ f ∈ fs, (sgE e).sm KS ∧ (sgE f).sm KS ∧ ¬ degen (sgE e) ∧ ¬ degen (sgE f) ∧ (sgE e).A.ok ∧ (sgE f).A.ok ∧ Sz 1000000 (edD e f) := fun e he f hf => by
   rw [hes] at he
   rw [hfs] at hf
   obtain ⟨h1, h2⟩ := edgesL_sm hsa he
   obtain ⟨h3, h4⟩ := edgesL_sm hsb hf
   obtain ⟨o1, _, o2⟩ := va.edge he
   obtain ⟨o3, _, o4⟩ := vb.edge hf
   exact ⟨⟨h1, h2⟩, ⟨h3, h4⟩, o2, o4, o1, o3, edD_sz hsa hsb he hf⟩
 rw [show prsD a b = es.flatMap (fun e => fs.map (edD e)) by rw [hes, hfs]; rfl]
 have hEdB := c_Edges B d b (by omega)
 rw [← hm, ← hfs] at hEdB
 rw [← hn, ← hes, ← hm]
 conv => whnf
 refine sexec_loop (ι := Nat × List Rat) (fun ⟨i, L⟩ => match L with
     | [] => ⟨[(0, .o (.v (.slice A n c))), (1, .o (.v (.slice B m d))), (4, .o (.p 4 0)), (5, .o (.v (.int .i64 0))), (8, .o (.p 8 0)), (9, .o (.v (.slice none 0 0))), (27, .o (.w 27)), (28, .o (.v (.int .i64 n))), (29, .o (.v (.int .i64 i)))], [(4, ratM ⟨false, [], []⟩), (8, sqMB), (27, .own t_api_Segment 12 n (rowV sgC es))], [SlRes A (rowV ptC a), SlRes B (rowV ptC b)]⟩
     | r :: l => ⟨[(0, .o (.v (.slice A n c))), (1, .o (.v (.slice B m d))), (4, .o (.p 4 0)), (5, .o (.v (.int .i64 0))), (8, .o (.p 8 0)), (9, .o (.w 3)), (27, .o (.w 27)), (28, .o (.v (.int .i64 n))), (29, .o (.v (.int .i64 i)))], [(4, ratM ⟨false, [], []⟩), (8, sqMB), (27, .own t_api_Segment 12 n (rowV sgC es)), (3, .own t_api_Rat 3 (l.length + 1) (rowV ratC ((r :: l).map Q)))], [SlRes A (rowV ptC a), SlRes B (rowV ptC b)]⟩)
   (fun ⟨i, L⟩ => i ≤ n ∧ L = (es.take i).flatMap fun e => fs.map (edD e)) (fun ⟨i, L⟩ => n - i) (0, []) ⟨Nat.zero_le _, rfl⟩
   (SLe.id ⟨rfl, rfl, rfl, rfl, rfl, rfl, rfl, rfl, rfl, trivial⟩ ⟨⟨_, rfl, .refl _⟩, ⟨_, rfl, .refl _⟩, ⟨_, rfl, .refl _⟩, trivial⟩ (fun R hR => hR)) ?_
 rintro ⟨i, L⟩ ⟨hi, hL⟩
 by_cases hin : i < n
 · obtain ⟨e, he⟩ : ∃ e, es[i]? = some e := ⟨_, List.getElem?_eq_getElem (by omega)⟩
   have hnx := prs_snoc (fs := fs) he
   have inner : ∀ (w : World) (C : Cx), True := fun _ _ => trivial
   rcases L with _ | ⟨r, l⟩
   · conv => whnf
     refine br_true (decide_eq_true (show (i : Int) < (n : Int) by omega)) ?_
     conv => whnf
     refine ⟨⟨by omega, by omega⟩, ?_⟩
     conv => whnf
     refine RowVC.elem sgC sgC_len (k := i) (by show (i : Int).toNat * 12 = i * 12; rw [Int.toNat_natCast]) (by omega) (by decide) (fun h => by cases h) ?_
     intro e' he'
     obtain rfl : e' = e := by rw [he] at he'; exact (Option.some.inj he').symm
     conv => whnf
     refine CallVC.o 34 hEdB.enters (CallV.facts hEdB rfl (fun R hR => by rw [List.mem_singleton.1 hR]; exact List.mem_cons_of_mem _ (List.mem_cons_self ..))) rfl rfl ?_
     conv => whnf
     refine sexec_loop (ι := Nat × List Rat) (fun ⟨j, L⟩ => match L with
         | [] => ⟨[(0, .o (.v (.slice A n c))), (1, .o (.v (.slice B m d))), (4, .o (.p 4 0)), (5, .o (.v (.int .i64 0))), (8, .o (.p 8 0)), (9, .o (.v (.slice none 0 0))), (27, .o (.w 27)), (28, .o (.v (.int .i64 n))), (29, .o (.v (.int .i64 i))), (11, .o (.p 11 0)), (34, .o (.w 34)), (35, .o (.v (.int .i64 m))), (36, .o (.v (.int .i64 j)))], [(4, ratM ⟨false, [], []⟩), (8, sqMB), (27, .own t_api_Segment 12 n (rowV sgC es)), (11, sgB (sgE e')), (34, .own t_api_Segment 12 m (rowV sgC fs))], [SlRes A (rowV ptC a), SlRes B (rowV ptC b)]⟩
         | r :: l => ⟨[(0, .o (.v (.slice A n c))), (1, .o (.v (.slice B m d))), (4, .o (.p 4 0)), (5, .o (.v (.int .i64 0))), (8, .o (.p 8 0)), (9, .o (.w 3)), (27, .o (.w 27)), (28, .o (.v (.int .i64 n))), (29, .o (.v (.int .i64 i))), (11, .o (.p 11 0)), (34, .o (.w 34)), (35, .o (.v (.int .i64 m))), (36, .o (.v (.int .i64 j)))], [(4, ratM ⟨false, [], []⟩), (8, sqMB), (27, .own t_api_Segment 12 n (rowV sgC es)), (11, sgB (sgE e')), (34, .own t_api_Segment 12 m (rowV sgC fs)), (3, .own t_api_Rat 3 (l.length + 1) (rowV ratC ((r :: l).map Q)))], [SlRes A (rowV ptC a), SlRes B (rowV ptC b)]⟩)
       (fun ⟨j, L⟩ => j ≤ m ∧ L = ((es.take i).flatMap fun e => fs.map (edD e)) ++ (fs.take j).map (edD e')) (fun ⟨j, L⟩ => m - j) (0, []) ⟨Nat.zero_le _, by rw [← hL]; rfl⟩
       (SLe.id ⟨rfl, rfl, rfl, rfl, rfl, rfl, rfl, rfl, rfl, rfl, rfl, rfl, rfl, trivial⟩ ⟨⟨_, rfl, .refl _⟩, ⟨_, rfl, .refl _⟩, ⟨_, rfl, .refl _⟩, ⟨_, rfl, .refl _⟩, ⟨_, rfl, .refl _⟩, trivial⟩ (fun R hR => hR)) ?_
     rintro ⟨j, M⟩ ⟨hj, hM⟩
     have hMlen : M.length ≤ 4096 := by
       have h1 : M.length = min i es.length * m + j := by
         rw [hM, List.length_append, List.length_flatMap, List.length_map, List.length_take]
         simp only [List.length_map]
         rw [List.map_const', List.sum_replicate_nat, List.length_take, hfl, Nat.min_eq_left (show j ≤ m by omega)]
       have h2 : (i + 1) * m ≤ 64 * 64 := Nat.mul_le_mul (by omega) (by omega)
       rw [Nat.add_mul] at h2
       rw [Nat.min_eq_left (by omega)] at h1
       omega
     by_cases hjm : j < m
     · obtain ⟨f, hf⟩ : ∃ f, fs[j]? = some f := ⟨_, List.getElem?_eq_getElem (by omega)⟩
       obtain ⟨g1, g2, g3, g4, g5, g6, g7⟩ := hgood e' (List.mem_of_getElem? he) f (List.mem_of_getElem? hf)
       have hM2 : M ++ [edD e' f] = ((es.take i).flatMap fun e => fs.map (edD e)) ++ (fs.take (j + 1)).map (edD e') := by
         rw [hM, take_snoc' hf, List.map_append, List.append_assoc]; rfl
       rcases M with _ | ⟨s, M⟩
       · conv => whnf
         refine br_true (decide_eq_true (show (j : Int) < (m : Int) by omega)) ?_
         conv => whnf
         refine ⟨⟨by omega, by omega⟩, ?_⟩
         conv => whnf
         refine RowVC.elem sgC sgC_len (k := j) (by show (j : Int).toNat * 12 = j * 12; rw [Int.toNat_natCast]) (by omega) (by decide) (fun h => by cases h) ?_
         intro f' hf'
         obtain rfl : f' = f := by rw [hf] at hf'; exact (Option.some.inj hf').symm
         conv => whnf
         refine CallVC.fn (c_sqSegs (sgE e') (sgE f') g1 g2 g3 g4 g5 g6) rfl ?_
         rw [show segD sqPt (sgE e').A.v (sgE e').B.v (sgE f').A.v (sgE f').B.v = edD e' f' from rfl]
         conv => whnf
         refine ⟨by decide, ?_⟩
         conv => whnf
         exact ⟨(j + 1, [edD e' f']), ⟨by omega, hM2⟩, by show m - (j + 1) < m - j; omega, SLe.mk (fun k => bif Nat.beq k 3 then 46 else k) ⟨rfl, rfl, rfl, rfl, rfl, rfl, rfl, rfl, rfl, rfl, rfl, rfl, some_wrap hjm (by omega), trivial⟩ ⟨⟨_, rfl, .refl _⟩, ⟨_, rfl, .refl _⟩, ⟨_, rfl, .refl _⟩, ⟨_, rfl, .refl _⟩, ⟨_, rfl, .refl _⟩, ⟨_, rfl, .refl _⟩, trivial⟩ rfl (fun R hR => hR)⟩
       · have hMl : M.length ≤ 4096 := by simp only [List.length_cons] at hMlen; omega
         conv => whnf
         refine br_true (decide_eq_true (show (j : Int) < (m : Int) by omega)) ?_
         conv => whnf
         refine ⟨⟨by omega, by omega⟩, ?_⟩
         conv => whnf
         refine RowVC.elem sgC sgC_len (k := j) (by show (j : Int).toNat * 12 = j * 12; rw [Int.toNat_natCast]) (by omega) (by decide) (fun h => by cases h) ?_
         intro f' hf'
         obtain rfl : f' = f := by rw [hf] at hf'; exact (Option.some.inj hf').symm
         conv => whnf
         refine CallVC.fn (c_sqSegs (sgE e') (sgE f') g1 g2 g3 g4 g5 g6) rfl ?_
         rw [show segD sqPt (sgE e').A.v (sgE e').B.v (sgE f').A.v (sgE f').B.v = edD e' f' from rfl]
         conv => whnf
         refine ⟨by show M.length + 1 + 1 ≤ 9223372036854775807 ∧ (M.length + 1 + 1) * 40 ≤ 140737488355328; omega, ?_⟩
         conv => whnf
         refine ⟨(j + 1, s :: (M ++ [edD e' f'])), ⟨by omega, hM2⟩, by show m - (j + 1) < m - j; omega, SLe.mk (fun k => bif Nat.beq k 3 then 46 else k) ⟨rfl, rfl, rfl, rfl, rfl, rfl, rfl, rfl, rfl, rfl, rfl, rfl, some_wrap hjm (by omega), trivial⟩ ⟨⟨_, rfl, .refl _⟩, ⟨_, rfl, .refl _⟩, ⟨_, rfl, .refl _⟩, ⟨_, rfl, .refl _⟩, ⟨_, rfl, .refl _⟩, ⟨_, rfl, ?_⟩, trivial⟩ rfl (fun R hR => hR)⟩
         show MEle (ME.own t_api_Rat 3 (M.length + 1 + 1) (app (rowV ratC ((s :: M).map Q)) (ratC (Q (edD e' f'))))) (ME.own t_api_Rat 3 ((M ++ [edD e' f']).length + 1) (rowV ratC ((s :: (M ++ [edD e' f'])).map Q)))
         rw [app_eq, List.length_append, show (s :: (M ++ [edD e' f'])).map Q = (s :: M).map Q ++ [Q (edD e' f')] by simp, rowV_append]
         exact .refl _
     · obtain rfl : j = m := by omega
       rw [show fs.take j = fs from List.take_of_length_le (by omega)] at hM
       rw [← hnx] at hM
       rcases M with _ | ⟨s, M⟩
       · conv => whnf
         refine br_false (decide_eq_false (by omega)) ?_
         conv => whnf
         exact ⟨(i + 1, []), ⟨by omega, hM⟩, by show n - (i + 1) < n - i; omega, SLe.id ⟨rfl, rfl, rfl, rfl, rfl, rfl, rfl, rfl, some_wrap hin (by omega), trivial⟩ ⟨⟨_, rfl, .refl _⟩, ⟨_, rfl, .refl _⟩, ⟨_, rfl, .refl _⟩, trivial⟩ (fun R hR => hR)⟩
       · conv => whnf
         refine br_false (decide_eq_false (by omega)) ?_
         conv => whnf
         exact ⟨(i + 1, s :: M), ⟨by omega, hM⟩, by show n - (i + 1) < n - i; omega, SLe.id ⟨rfl, rfl, rfl, rfl, rfl, rfl, rfl, rfl, some_wrap hin (by omega), trivial⟩ ⟨⟨_, rfl, .refl _⟩, ⟨_, rfl, .refl _⟩, ⟨_, rfl, .refl _⟩, ⟨_, rfl, .refl _⟩, trivial⟩ (fun R hR => hR)⟩
   · conv => whnf
     refine br_true (decide_eq_true (show (i : Int) < (n : Int) by omega)) ?_
     conv => whnf
     refine ⟨⟨by omega, by omega⟩, ?_⟩
     conv => whnf
     refine RowVC.elem sgC sgC_len (k := i) (by show (i : Int).toNat * 12 = i * 12; rw [Int.toNat_natCast]) (by omega) (by decide) (fun h => by cases h) ?_
     intro e' he'
     obtain rfl : e' = e := by rw [he] at he'; exact (Option.some.inj he').symm
     conv => whnf
     refine CallVC.o 34 hEdB.enters (CallV.facts hEdB rfl (fun R hR => by rw [List.mem_singleton.1 hR]; exact List.mem_cons_of_mem _ (List.mem_cons_self ..))) rfl rfl ?_
     conv => whnf
     refine sexec_loop (ι := Nat × List Rat) (fun ⟨j, L⟩ => match L with
         | [] => ⟨[(0, .o (.v (.slice A n c))), (1, .o (.v (.slice B m d))), (4, .o (.p 4 0)), (5, .o (.v (.int .i64 0))), (8, .o (.p 8 0)), (9, .o (.v (.slice none 0 0))), (27, .o (.w 27)), (28, .o (.v (.int .i64 n))), (29, .o (.v (.int .i64 i))), (11, .o (.p 11 0)), (34, .o (.w 34)), (35, .o (.v (.int .i64 m))), (36, .o (.v (.int .i64 j)))], [(4, ratM ⟨false, [], []⟩), (8, sqMB), (27, .own t_api_Segment 12 n (rowV sgC es)), (11, sgB (sgE e')), (34, .own t_api_Segment 12 m (rowV sgC fs))], [SlRes A (rowV ptC a), SlRes B (rowV ptC b)]⟩
         | r :: l => ⟨[(0, .o (.v (.slice A n c))), (1, .o (.v (.slice B m d))), (4, .o (.p 4 0)), (5, .o (.v (.int .i64 0))), (8, .o (.p 8 0)), (9, .o (.w 3)), (27, .o (.w 27)), (28, .o (.v (.int .i64 n))), (29, .o (.v (.int .i64 i))), (11, .o (.p 11 0)), (34, .o (.w 34)), (35, .o (.v (.int .i64 m))), (36, .o (.v (.int .i64 j)))], [(4, ratM ⟨false, [], []⟩), (8, sqMB), (27, .own t_api_Segment 12 n (rowV sgC es)), (11, sgB (sgE e')), (34, .own t_api_Segment 12 m (rowV sgC fs)), (3, .own t_api_Rat 3 (l.length + 1) (rowV ratC ((r :: l).map Q)))], [SlRes A (rowV ptC a), SlRes B (rowV ptC b)]⟩)
       (fun ⟨j, L⟩ => j ≤ m ∧ L = ((es.take i).flatMap fun e => fs.map (edD e)) ++ (fs.take j).map (edD e')) (fun ⟨j, L⟩ => m - j) (0, r :: l) ⟨Nat.zero_le _, by rw [← hL]; simp⟩
       (SLe.id ⟨rfl, rfl, rfl, rfl, rfl, rfl, rfl, rfl, rfl, rfl, rfl, rfl, rfl, trivial⟩ ⟨⟨_, rfl, .refl _⟩, ⟨_, rfl, .refl _⟩, ⟨_, rfl, .refl _⟩, ⟨_, rfl, .refl _⟩, ⟨_, rfl, .refl _⟩, ⟨_, rfl, .refl _⟩, trivial⟩ (fun R hR => hR)) ?_
     rintro ⟨j, M⟩ ⟨hj, hM⟩
     have hMlen : M.length ≤ 4096 := by
       have h1 : M.length = min i es.length * m + j := by
         rw [hM, List.length_append, List.length_flatMap, List.length_map, List.length_take]
         simp only [List.length_map]
         rw [List.map_const', List.sum_replicate_nat, List.length_take, hfl, Nat.min_eq_left (show j ≤ m by omega)]
       have h2 : (i + 1) * m ≤ 64 * 64 := Nat.mul_le_mul (by omega) (by omega)
       rw [Nat.add_mul] at h2
       rw [Nat.min_eq_left (by omega)] at h1
       omega
     by_cases hjm : j < m
     · obtain ⟨f, hf⟩ : ∃ f, fs[j]? = some f := ⟨_, List.getElem?_eq_getElem (by omega)⟩
       obtain ⟨g1, g2, g3, g4, g5, g6, g7⟩ := hgood e' (List.mem_of_getElem? he) f (List.mem_of_getElem? hf)
       have hM2 : M ++ [edD e' f] = ((es.take i).flatMap fun e => fs.map (edD e)) ++ (fs.take (j + 1)).map (edD e') := by
         rw [hM, take_snoc' hf, List.map_append, List.append_assoc]; rfl
       rcases M with _ | ⟨s, M⟩
       · conv => whnf
         refine br_true (decide_eq_true (show (j : Int) < (m : Int) by omega)) ?_
         conv => whnf
         refine ⟨⟨by omega, by omega⟩, ?_⟩
         conv => whnf
         refine RowVC.elem sgC sgC_len (k := j) (by show (j : Int).toNat * 12 = j * 12; rw [Int.toNat_natCast]) (by omega) (by decide) (fun h => by cases h) ?_
         intro f' hf'
         obtain rfl : f' = f := by rw [hf] at hf'; exact (Option.some.inj hf').symm
         conv => whnf
         refine CallVC.fn (c_sqSegs (sgE e') (sgE f') g1 g2 g3 g4 g5 g6) rfl ?_
         rw [show segD sqPt (sgE e').A.v (sgE e').B.v (sgE f').A.v (sgE f').B.v = edD e' f' from rfl]
         conv => whnf
         refine ⟨by decide, ?_⟩
         conv => whnf
         exact ⟨(j + 1, [edD e' f']), ⟨by omega, hM2⟩, by show m - (j + 1) < m - j; omega, SLe.mk (fun k => bif Nat.beq k 3 then 46 else k) ⟨rfl, rfl, rfl, rfl, rfl, rfl, rfl, rfl, rfl, rfl, rfl, rfl, some_wrap hjm (by omega), trivial⟩ ⟨⟨_, rfl, .refl _⟩, ⟨_, rfl, .refl _⟩, ⟨_, rfl, .refl _⟩, ⟨_, rfl, .refl _⟩, ⟨_, rfl, .refl _⟩, ⟨_, rfl, .refl _⟩, trivial⟩ rfl (fun R hR => hR)⟩
       · have hMl : M.length ≤ 4096 := by simp only [List.length_cons] at hMlen; omega
         conv => whnf
         refine br_true (decide_eq_true (show (j : Int) < (m : Int) by omega)) ?_
         conv => whnf
         refine ⟨⟨by omega, by omega⟩, ?_⟩
         conv => whnf
         refine RowVC.elem sgC sgC_len (k := j) (by show (j : Int).toNat * 12 = j * 12; rw [Int.toNat_natCast]) (by omega) (by decide) (fun h => by cases h) ?_
         intro f' hf'
         obtain rfl : f' = f := by rw [hf] at hf'; exact (Option.some.inj hf').symm
         conv => whnf
         refine CallVC.fn (c_sqSegs (sgE e') (sgE f') g1 g2 g3 g4 g5 g6) rfl ?_
         rw [show segD sqPt (sgE e').A.v (sgE e').B.v (sgE f').A.v (sgE f').B.v = edD e' f' from rfl]
         conv => whnf
         refine ⟨by show M.length + 1 + 1 ≤ 9223372036854775807 ∧ (M.length + 1 + 1) * 40 ≤ 140737488355328; omega, ?_⟩
         conv => whnf
         refine ⟨(j + 1, s :: (M ++ [edD e' f'])), ⟨by omega, hM2⟩, by show m - (j + 1) < m - j; omega, SLe.mk (fun k => bif Nat.beq k 3 then 46 else k) ⟨rfl, rfl, rfl, rfl, rfl, rfl, rfl, rfl, rfl, rfl, rfl, rfl, some_wrap hjm (by omega), trivial⟩ ⟨⟨_, rfl, .refl _⟩, ⟨_, rfl, .refl _⟩, ⟨_, rfl, .refl _⟩, ⟨_, rfl, .refl _⟩, ⟨_, rfl, .refl _⟩, ⟨_, rfl, ?_⟩, trivial⟩ rfl (fun R hR => hR)⟩
         show MEle (ME.own t_api_Rat 3 (M.length + 1 + 1) (app (rowV ratC ((s :: M).map Q)) (ratC (Q (edD e' f'))))) (ME.own t_api_Rat 3 ((M ++ [edD e' f']).length + 1) (rowV ratC ((s :: (M ++ [edD e' f'])).map Q)))
         rw [app_eq, List.length_append, show (s :: (M ++ [edD e' f'])).map Q = (s :: M).map Q ++ [Q (edD e' f')] by simp, rowV_append]
         exact .refl _
     · obtain rfl : j = m := by omega
       rw [show fs.take j = fs from List.take_of_length_le (by omega)] at hM
       rw [← hnx] at hM
       rcases M with _ | ⟨s, M⟩
       · conv => whnf
         refine br_false (decide_eq_false (by omega)) ?_
         conv => whnf
         exact ⟨(i + 1, []), ⟨by omega, hM⟩, by show n - (i + 1) < n - i; omega, SLe.id ⟨rfl, rfl, rfl, rfl, rfl, rfl, rfl, rfl, some_wrap hin (by omega), trivial⟩ ⟨⟨_, rfl, .refl _⟩, ⟨_, rfl, .refl _⟩, ⟨_, rfl, .refl _⟩, trivial⟩ (fun R hR => hR)⟩
       · conv => whnf
         refine br_false (decide_eq_false (by omega)) ?_
         conv => whnf
         exact ⟨(i + 1, s :: M), ⟨by omega, hM⟩, by show n - (i + 1) < n - i; omega, SLe.id ⟨rfl, rfl, rfl, rfl, rfl, rfl, rfl, rfl, some_wrap hin (by omega), trivial⟩ ⟨⟨_, rfl, .refl _⟩, ⟨_, rfl, .refl _⟩, ⟨_, rfl, .refl _⟩, ⟨_, rfl, .refl _⟩, trivial⟩ (fun R hR => hR)⟩
 · obtain rfl : i = n := by omega
   rw [List.take_of_length_le (by omega)] at hL
   have hpos : 0 < es.length ∧ 0 < fs.length := by omega
   rcases L with _ | ⟨r, l⟩
   · exfalso
     rcases es with _ | ⟨e, es⟩
     · simp at hpos
     rcases fs with _ | ⟨f, fs⟩
     · simp at hpos
     simp at hL
   · rw [← hL]
     have hszs : ∀ x ∈ r :: l, Sz 1000000 x := fun x hx => by
       rw [hL] at hx
       obtain ⟨e, he, hx⟩ := List.mem_flatMap.1 hx
       obtain ⟨f, hf, rfl⟩ := List.mem_map.1 hx
       exact (hgood e he f hf).2.2.2.2.2.2
     have hlen : (r :: l).length ≤ 4096 := by
       rw [hL, List.length_flatMap]
       simp only [List.length_map]
       rw [List.map_const', List.sum_replicate_nat, hel, hfl]
       exact Nat.le_trans (Nat.mul_le_mul (show i ≤ 64 by omega) (show m ≤ 64 by omega)) (by decide)
     conv => whnf
     refine br_false (decide_eq_false (by omega)) ?_
     conv => whnf
     have hx := fun A c hc => c_least A c (Q r) (l.map Q) (by simp only [List.length_cons, List.length_map] at hlen ⊢; omega) hc (by
       intro x hx
       rcases List.mem_cons.1 hx with rfl | hx
       · exact (hszs r (List.mem_cons_self ..)).q.le (by decide)
       · obtain ⟨y, hy, rfl⟩ := List.mem_map.1 hx
         exact (hszs y (List.mem_cons_of_mem _ hy)).q.le (by decide))
     rw [extR_Q, List.length_cons, List.length_map] at hx
     refine CallVC.v (hx none (l.length + 1) (Nat.le_refl _)).enters (CallV.sl1 (x := .o (.w 3)) (fun z => [z]) (RdA.own rfl) (List.mem_cons_self ..) (fun _ => rfl) hx) ?_
     conv => whnf
     exact postV_two rfl
end Go.Sx
end
section
set_option maxRecDepth 10000
set_option maxHeartbeats 2000000
namespace Go.Sx
open Go Go.Proofs
theorem sep_some (a b : List Pt) : (sepL a b).isSome = ((bsdL a b).isSome || (bsdL b a).isSome) := by
 unfold sepL; cases bsdL a b <;> rfl
end Go.Sx
end
section
namespace Go.Sx
theorem ori_at (A B x y : V) (t : Rat) : ori A B (x.at y t) = ori A B x * (1 - t) + ori A B y * t := by
 simp only [ori, V.cross, V.sub_x, V.sub_y, V.at_x, V.at_y]; grind
theorem ori_self1 (A B : V) : ori A B A = 0 := by simp only [ori, V.cross, V.sub_x, V.sub_y]; grind
theorem ori_self2 (A B : V) : ori A B B = 0 := by simp only [ori, V.cross, V.sub_x, V.sub_y]; grind
theorem edge_idx {l : List Pt} {e : Pt × Pt} (he : e ∈ edgesL l) : ∃ i, i < l.length ∧ e = (l.getD i P0, l.getD ((i + 1) % l.length) P0) := by
 obtain ⟨i, hi⟩ := List.getElem?_of_mem he
 have hil : i < l.length := by rw [← edgesL_len l]; exact (List.getElem?_eq_some_iff.1 hi).1
 rw [edgesL_get hil] at hi
 exact ⟨i, hil, (Option.some.inj hi).symm⟩
theorem edge_ends {l : List Pt} {e : Pt × Pt} (he : e ∈ edgesL l) : e.1 ∈ l ∧ e.2 ∈ l ∧ ∃ e' ∈ edgesL l, e'.1 = e.2 := by
 obtain ⟨i, hi, rfl⟩ := edge_idx he
 have hm : (i + 1) % l.length < l.length := Nat.mod_lt _ (by omega)
 exact ⟨getD_mem' hi, getD_mem' hm, _, List.mem_of_getElem? (edgesL_get hm), rfl⟩
theorem Cvx.side {l : List Pt} (h : Cvx l) {e : Pt × Pt} (he : e ∈ edgesL l) {x : Pt} (hx : x ∈ l) : 0 ≤ ori e.1.v e.2.v x.v := by
 obtain ⟨i, hi, rfl⟩ := edge_idx he
 obtain ⟨k, hk⟩ := List.getElem?_of_mem hx
 have hkl : k < l.length := (List.getElem?_eq_some_iff.1 hk).1
 have hxk : x.v = at_ l k := (at_get hk).symm
 rw [hxk]
 show 0 ≤ ori (at_ l i) (at_ l ((i + 1) % l.length)) (at_ l k)
 by_cases h1 : at_ l k = at_ l i
 · rw [h1, ori_self1]; exact Rat.le_refl
 by_cases h2 : at_ l k = at_ l ((i + 1) % l.length)
 · rw [h2, ori_self2]; exact Rat.le_refl
 exact Rat.le_of_lt (h.left i k hi hkl h1 h2)
theorem Cvx.edge_side {l : List Pt} (h : Cvx l) {e d : Pt × Pt} (he : e ∈ edgesL l) (hd : d ∈ edgesL l) {p : V} (hp : onS d.1.v d.2.v p) : 0 ≤ ori e.1.v e.2.v p := by
 obtain ⟨t, ⟨h0, h1⟩, rfl⟩ := hp
 obtain ⟨m1, m2, _⟩ := edge_ends hd
 have k1 := Rat.mul_nonneg (h.side he m1) (show 0 ≤ 1 - t by grind)
 have k2 := Rat.mul_nonneg (h.side he m2) h0
 rw [ori_at]; grind
theorem bsd_right {b : List Pt} {e : Pt × Pt} (h : bsdP b e = true) {x : Pt} (hx : x ∈ b) : ori e.1.v e.2.v x.v < 0 := by
 have h2 : (b.any fun r => !rightB e.1 e.2 r) = false := by simpa [bsdP] using h
 have h3 := List.any_eq_false.1 h2 x hx
 have h4 : rightB e.1 e.2 x = true := by simpa using h3
 exact cmpQ_lt.1 (of_decide_eq_true h4)
theorem bsd_edge {b : List Pt} {e d : Pt × Pt} (h : bsdP b e = true) (hd : d ∈ edgesL b) {p : V} (hp : onS d.1.v d.2.v p) : ori e.1.v e.2.v p < 0 := by
 obtain ⟨t, ⟨h0, h1⟩, rfl⟩ := hp
 obtain ⟨m1, m2, _⟩ := edge_ends hd
 have b1 := bsd_right h m1
 have b2 := bsd_right h m2
 rw [ori_at]
 by_cases ht : t = 0
 · rw [ht]; grind
 · have k2 := mpos (show 0 < -ori e.1.v e.2.v d.2.v by grind) (show 0 < t by grind)
   have k1 := Rat.mul_nonneg (show 0 ≤ -ori e.1.v e.2.v d.1.v by grind) (show 0 ≤ 1 - t by grind)
   grind
theorem apart {a b : List Pt} (ha : Cvx a) (hb : Cvx b) (hs : (sepL a b).isSome = true) {e f : Pt × Pt} (he : e ∈ edgesL a) (hf : f ∈ edgesL b) {p : V} (hp : onS e.1.v e.2.v p) (hq : onS f.1.v f.2.v p) : False := by
 rw [sep_some, Bool.or_eq_true] at hs
 rcases hs with h | h
 · obtain ⟨d, hd⟩ := Option.isSome_iff_exists.1 h
   have h1 := List.mem_of_find?_eq_some hd
   have h2 := List.find?_some hd
   have k1 := ha.edge_side h1 he hp
   have k2 := bsd_edge h2 hf hq
   grind
 · obtain ⟨d, hd⟩ := Option.isSome_iff_exists.1 h
   have h1 := List.mem_of_find?_eq_some hd
   have h2 := List.find?_some hd
   have k1 := hb.edge_side h1 hf hq
   have k2 := bsd_edge h2 he hp
   grind
theorem extm_le {m : Rat} : ∀ (l : List Rat) (x : Rat), m ≤ extQ (-1) x l ↔ m ≤ x ∧ ∀ r ∈ l, m ≤ r
 | [], x => by simp [extQ]
 | r :: l, x => by
   rw [extQ, extm_le l]
   by_cases h : cmpQ r x = -1
   · have h1 : r < x := cmpQ_lt.1 (by omega)
     rw [if_pos h]
     constructor
     · rintro ⟨k1, k2⟩; exact ⟨by grind, fun y hy => by rcases List.mem_cons.1 hy with rfl | hy; exact k1; exact k2 y hy⟩
     · rintro ⟨k1, k2⟩; exact ⟨k2 r (List.mem_cons_self ..), fun y hy => k2 y (List.mem_cons_of_mem _ hy)⟩
   · have h1 : ¬ r < x := fun k => h (by have := cmpQ_val r x; have := cmpQ_lt.2 k; omega)
     rw [if_neg h]
     constructor
     · rintro ⟨k1, k2⟩; exact ⟨k1, fun y hy => by rcases List.mem_cons.1 hy with rfl | hy; grind; exact k2 y hy⟩
     · rintro ⟨k1, k2⟩; exact ⟨k1, fun y hy => k2 y (List.mem_cons_of_mem _ hy)⟩
theorem lst_le {z : Rat} {l : List Rat} (h : l ≠ []) : z ≤ lstQ l ↔ ∀ r ∈ l, z ≤ r := by
 rcases l with _ | ⟨x, l⟩
 · exact absurd rfl h
 · rw [lstQ, extm_le]
   constructor
   · rintro ⟨k1, k2⟩ y hy; rcases List.mem_cons.1 hy with rfl | hy; exact k1; exact k2 y hy
   · intro k; exact ⟨k x (List.mem_cons_self ..), fun y hy => k y (List.mem_cons_of_mem _ hy)⟩
theorem first_edge {l : List Pt} (h : 0 < l.length) : ∃ e ∈ edgesL l, e.1.v = at_ l 0 := ⟨_, List.mem_of_getElem? (edgesL_get h), rfl⟩
theorem prs_mem {a b : List Pt} {z : Rat} : (∀ r ∈ prsD a b, z ≤ r) ↔ ∀ e ∈ edgesL a, ∀ f ∈ edgesL b, z ≤ edD e f := by
 constructor
 · intro h e he f hf; exact h _ (List.mem_flatMap.2 ⟨e, he, List.mem_map_of_mem hf⟩)
 · intro h r hr
   obtain ⟨e, he, hr⟩ := List.mem_flatMap.1 hr
   obtain ⟨f, hf, rfl⟩ := List.mem_map.1 hr
   exact h e he f hf
theorem prs_ne {a b : List Pt} (ha : 0 < a.length) (hb : 0 < b.length) : prsD a b ≠ [] := fun h => by
 obtain ⟨e, he, _⟩ := first_edge ha
 obtain ⟨f, hf, _⟩ := first_edge hb
 have : edD e f ∈ prsD a b := List.mem_flatMap.2 ⟨e, he, List.mem_map_of_mem hf⟩
 rw [h] at this; cases this
theorem sqC_le {a b : List Pt} (ha : Cvx a) (hb : Cvx b) (hs : (sepL a b).isSome = true) {z : Rat} : z ≤ lstQ (prsD a b) ↔ ∀ e ∈ edgesL a, ∀ f ∈ edgesL b, z ≤ sqPt e.1.v e.2.v f.1.v ∧ z ≤ sqPt f.1.v f.2.v e.1.v := by
 have n3 := ha.n3
 have m3 := hb.n3
 rw [lst_le (prs_ne (by omega) (by omega)), prs_mem]
 have hed : ∀ e ∈ edgesL a, ∀ f ∈ edgesL b, (z ≤ edD e f ↔ z ≤ sqPt e.1.v e.2.v f.1.v ∧ z ≤ sqPt e.1.v e.2.v f.2.v ∧ z ≤ sqPt f.1.v f.2.v e.1.v ∧ z ≤ sqPt f.1.v f.2.v e.2.v) := fun e he f hf => by
   have hne := (ha.edge he).2.2
   have hnf := (hb.edge hf).2.2
   have hm : (meetV e.1.v e.2.v f.1.v f.2.v).isSome = false := by
     cases h : (meetV e.1.v e.2.v f.1.v f.2.v).isSome with
     | false => rfl
     | true =>
       obtain ⟨p, h1, h2⟩ := (meet_iff (fun e => hne (degen_iff.2 e)) (fun e => hnf (degen_iff.2 e))).1 h
       exact (apart ha hb hs he hf h1 h2).elim
   unfold edD segD
   rw [hm, if_neg (by decide), ext4_le]
 constructor
 · intro h e he f hf
   have := (hed e he f hf).1 (h e he f hf)
   exact ⟨this.1, this.2.2.1⟩
 · intro h e he f hf
   rw [hed e he f hf]
   obtain ⟨_, _, e', he', k1⟩ := edge_ends he
   obtain ⟨_, _, f', hf', k2⟩ := edge_ends hf
   have c1 := h e he f hf
   have c2 := h e he f' hf'
   have c3 := h e' he' f hf
   rw [k2] at c2
   rw [k1] at c3
   exact ⟨c1.1, c2.1, c1.2, c3.2⟩
end Go.Sx
end
section
set_option maxRecDepth 10000
set_option maxHeartbeats 2000000
namespace Go.Sx
open Go Go.Proofs
theorem r_GreatPoint (p : Pt) : Fn PP f_narrowsref13_GreatPoint [pV p] (.bool (bigP 12 p)) := by
 refine Fn.of TBgood mixed h_narrowsref13_GreatPoint rfl rfl (Nat.le_of_ble_eq_true rfl) ?_
 intro w
 conv => whnf
 refine br_split ?_ ?_
 · intro h
   have h1 : 12 < p.x.num.length := by
     have : ((p.x.num.length : Nat) : Int) > 12 := of_decide_eq_true h
     omega
   conv => whnf
   refine postV_one (congrArg Value.bool ?_)
   simp [bigP, h1]
 intro h
 have h1 : ¬ 12 < p.x.num.length := by
   have : ¬ ((p.x.num.length : Nat) : Int) > 12 := of_decide_eq_false h
   omega
 conv => whnf
 refine br_split ?_ ?_
 · intro h
   have h2 : 12 < p.x.den.length := by
     have : ((p.x.den.length : Nat) : Int) > 12 := of_decide_eq_true h
     omega
   conv => whnf
   refine postV_one (congrArg Value.bool ?_)
   simp [bigP, h2]
 intro h
 have h2 : ¬ 12 < p.x.den.length := by
   have : ¬ ((p.x.den.length : Nat) : Int) > 12 := of_decide_eq_false h
   omega
 conv => whnf
 refine br_split ?_ ?_
 · intro h
   have h3 : 12 < p.y.num.length := by
     have : ((p.y.num.length : Nat) : Int) > 12 := of_decide_eq_true h
     omega
   conv => whnf
   refine postV_one (congrArg Value.bool ?_)
   simp [bigP, h3]
 intro h
 have h3 : ¬ 12 < p.y.num.length := by
   have : ¬ ((p.y.num.length : Nat) : Int) > 12 := of_decide_eq_false h
   omega
 conv => whnf
 refine postV_one (congrArg Value.bool ?_)
 show decide (((p.y.den.length : Nat) : Int) > 12) = _
 rw [bigP, decide_eq_false h1, decide_eq_false h2, decide_eq_false h3]
 simp only [Bool.false_or]
 exact decide_eq_decide.2 (by omega)
def grtL (l : List Pt) : Bool := (decide (10 < l.length) && decide (l.length < 63)) || (decide (66 < l.length) || l.any (bigP 12))
theorem r_Great13 (A : Option Addr) (c : Nat) (l : List Pt) :
   FnM PP f_narrowsref13_Great [.slice A l.length c] (facts [SlRes A (rowV ptC l)]) (retsV (.bool (grtL l))) := by
 refine FnS.of TBgood mixed h_narrowsref13_Great rfl rfl (Nat.le_of_ble_eq_true rfl) (by simp [SlRes.ok]) ?_
 intro w hw
 obtain ⟨n, hn⟩ : ∃ n, n = l.length := ⟨_, rfl⟩
 have hA : 0 < n → A.isSome = true := fun h => slres_some (facts_one hw) (by rw [rowV_length ptC_len]; omega)
 rw [grtL, ← hn]
 have tail : True := trivial
 conv => whnf
 by_cases h1 : 10 < n
 · refine br_true (decide_eq_true (show (n : Int) > 10 by omega)) ?_
   conv => whnf
   by_cases h2 : n < 63
   · refine br_true (decide_eq_true (show (n : Int) < 63 by omega)) ?_
     conv => whnf
     refine postV_one ?_
     rw [decide_eq_true h1, decide_eq_true h2]; rfl
   refine br_false (decide_eq_false (show ¬ (n : Int) < 63 by omega)) ?_
   rw [decide_eq_false h2, Bool.and_false, Bool.false_or]
   conv => whnf
   by_cases h3 : 66 < n
   · refine br_true (decide_eq_true (show (n : Int) > 66 by omega)) ?_
     conv => whnf
     refine postV_one ?_
     rw [decide_eq_true h3]; rfl
   refine br_false (decide_eq_false (show ¬ (n : Int) > 66 by omega)) ?_
   rw [decide_eq_false h3, Bool.false_or]
   conv => whnf
   refine sexec_loop (ι := Nat) (fun i => ⟨[(0, .o (.v (.slice A n c))), (2, .o (.v (.bool false))), (3, .o (.v (.int .i64 i)))], [], [SlRes A (rowV ptC l)]⟩)
     (fun i => i ≤ n ∧ l.any (bigP 12) = (l.drop i).any (bigP 12)) (fun i => n - i) 0 ⟨Nat.zero_le _, rfl⟩
     (SLe.id ⟨rfl, rfl, rfl, trivial⟩ trivial (fun R hR => hR)) ?_
   rintro i ⟨hi, hx⟩
   conv => whnf
   refine br_split ?_ ?_
   · intro h
     have hi2 : i < n := by
       have : (i : Int) < (n : Int) := of_decide_eq_true h
       omega
     obtain ⟨p, hp⟩ : ∃ p, l[i]? = some p := ⟨_, List.getElem?_eq_getElem (by omega)⟩
     rw [drop_cons hp, List.any_cons] at hx
     conv => whnf
     refine ⟨⟨by omega, by omega, hA (by omega)⟩, ?_⟩
     conv => whnf
     refine LoadVC.elem (A := A) (xs := l) (j := (i : Int)) ptC ptC_len (List.mem_singleton.2 rfl) rfl (by rw [Int.toNat_natCast]; omega) (by decide) (fun h => by cases h) ?_
     intro p' hp'
     obtain rfl := elem_eq hp' hp
     conv => whnf
     refine CallVC.fn (r_GreatPoint p') rfl ?_
     cases hb : bigP 12 p' with
     | true =>
       rw [hb, Bool.true_or] at hx
       conv => whnf
       refine postV_one ?_
       rw [hx]
     | false =>
       rw [hb, Bool.false_or] at hx
       conv => whnf
       exact ⟨i + 1, ⟨by omega, hx⟩, by omega, SLe.id ⟨rfl, rfl, some_wrap hi2 (by omega), trivial⟩ trivial (fun R hR => hR)⟩
   · intro h
     have hi2 : i = n := by
       have : ¬ (i : Int) < (n : Int) := of_decide_eq_false h
       omega
     rw [hi2, List.drop_of_length_le (by omega), List.any_nil] at hx
     conv => whnf
     refine postV_one ?_
     rw [hx]
 · refine br_false (decide_eq_false (show ¬ (n : Int) > 10 by omega)) ?_
   rw [decide_eq_false h1, Bool.false_and, Bool.false_or]
   conv => whnf
   refine br_false (decide_eq_false (show ¬ (n : Int) > 66 by omega)) ?_
   have h3 : ¬ 66 < n := by omega
   rw [decide_eq_false h3, Bool.false_or]
   conv => whnf
   refine sexec_loop (ι := Nat) (fun i => ⟨[(0, .o (.v (.slice A n c))), (2, .o (.v (.bool false))), (3, .o (.v (.int .i64 i)))], [], [SlRes A (rowV ptC l)]⟩)
     (fun i => i ≤ n ∧ l.any (bigP 12) = (l.drop i).any (bigP 12)) (fun i => n - i) 0 ⟨Nat.zero_le _, rfl⟩
     (SLe.id ⟨rfl, rfl, rfl, trivial⟩ trivial (fun R hR => hR)) ?_
   rintro i ⟨hi, hx⟩
   conv => whnf
   refine br_split ?_ ?_
   · intro h
     have hi2 : i < n := by
       have : (i : Int) < (n : Int) := of_decide_eq_true h
       omega
     obtain ⟨p, hp⟩ : ∃ p, l[i]? = some p := ⟨_, List.getElem?_eq_getElem (by omega)⟩
     rw [drop_cons hp, List.any_cons] at hx
     conv => whnf
     refine ⟨⟨by omega, by omega, hA (by omega)⟩, ?_⟩
     conv => whnf
     refine LoadVC.elem (A := A) (xs := l) (j := (i : Int)) ptC ptC_len (List.mem_singleton.2 rfl) rfl (by rw [Int.toNat_natCast]; omega) (by decide) (fun h => by cases h) ?_
     intro p' hp'
     obtain rfl := elem_eq hp' hp
     conv => whnf
     refine CallVC.fn (r_GreatPoint p') rfl ?_
     cases hb : bigP 12 p' with
     | true =>
       rw [hb, Bool.true_or] at hx
       conv => whnf
       refine postV_one ?_
       rw [hx]
     | false =>
       rw [hb, Bool.false_or] at hx
       conv => whnf
       exact ⟨i + 1, ⟨by omega, hx⟩, by omega, SLe.id ⟨rfl, rfl, some_wrap hi2 (by omega), trivial⟩ trivial (fun R hR => hR)⟩
   · intro h
     have hi2 : i = n := by
       have : ¬ (i : Int) < (n : Int) := of_decide_eq_false h
       omega
     rw [hi2, List.drop_of_length_le (by omega), List.any_nil] at hx
     conv => whnf
     refine postV_one ?_
     rw [hx]
end Go.Sx
end
section
set_option maxRecDepth 10000
set_option maxHeartbeats 2000000
namespace Go.Sx
open Go Go.Proofs
theorem grt_sm {l : List Pt} (h : grtL l = false) : Lsm KS l := fun p hp => by
 rw [grtL, Bool.or_eq_false_iff, Bool.or_eq_false_iff] at h
 have := List.any_eq_false.1 h.2.2 p hp
 exact (bigP_sm (k := 12) (by simpa using this)).le (by decide)
end Go.Sx
end
section
namespace Go.Sx
def inA (L : List (V × V)) (p : V) : Prop := ∀ e ∈ L, 0 ≤ ori e.1 e.2 p
theorem inA_app {L M : List (V × V)} {p : V} : inA (L ++ M) p ↔ inA L p ∧ inA M p :=
 ⟨fun h => ⟨fun e he => h e (List.mem_append_left _ he), fun e he => h e (List.mem_append_right _ he)⟩, fun h e he => (List.mem_append.1 he).elim (h.1 e) (h.2 e)⟩
theorem collin {p q r : V} (h : p ≠ q) (h0 : ori p q r = 0) : r = p.at q (parV p q r) := by
 have hD := dd_pos h
 have hc : parV p q r * (q - p).dot (q - p) = (r - p).dot (q - p) := by unfold parV; rw [Rat.div_mul_cancel (by grind)]
 generalize parV p q r = t at hc ⊢
 simp only [ori, V.cross, V.dot, V.sub_x, V.sub_y] at h0 hc hD
 have kx : ((q.x - p.x) * (q.x - p.x) + (q.y - p.y) * (q.y - p.y)) * (r.x - (p.x + (q.x - p.x) * t)) = 0 := by grind
 have ky : ((q.x - p.x) * (q.x - p.x) + (q.y - p.y) * (q.y - p.y)) * (r.y - (p.y + (q.y - p.y) * t)) = 0 := by grind
 refine V.ext' ?_ ?_
 · rcases Rat.mul_eq_zero.1 kx with k | k
   · grind
   · show r.x = p.x + (q.x - p.x) * t; grind
 · rcases Rat.mul_eq_zero.1 ky with k | k
   · grind
   · show r.y = p.y + (q.y - p.y) * t; grind
theorem radon (p q r s : V) : ∃ a b c d : Rat, ((a + b + c + d = 0 ∧ a * p.x + b * q.x + c * r.x + d * s.x = 0) ∧ a * p.y + b * q.y + c * r.y + d * s.y = 0) ∧ ¬ (a = 0 ∧ b = 0 ∧ c = 0 ∧ d = 0) := by
 by_cases h : ori p q r = 0
 · by_cases e : p = q
   · exact ⟨1, -1, 0, 0, ⟨⟨by grind, by rw [e]; grind⟩, by rw [e]; grind⟩, by grind⟩
   · have k := collin e h
     generalize parV p q r = t at k
     have kx : r.x = p.x + (q.x - p.x) * t := congrArg V.x k
     have ky : r.y = p.y + (q.y - p.y) * t := congrArg V.y k
     exact ⟨1 - t, t, -1, 0, ⟨⟨by grind, by rw [kx]; grind⟩, by rw [ky]; grind⟩, by grind⟩
 · refine ⟨ori q r s, -ori p r s, ori p q s, -ori p q r, ⟨⟨?_, ?_⟩, ?_⟩, fun k => h (by grind)⟩ <;> simp only [ori, V.cross, V.sub_x, V.sub_y] <;> grind
def pos (a : Rat) : Rat := if 0 ≤ a then a else 0
theorem pos_nn (a : Rat) : 0 ≤ pos a := by unfold pos; split <;> grind
theorem pos_sub (a : Rat) : pos a - pos (-a) = a := by unfold pos; split <;> split <;> grind
theorem pos_z {a : Rat} (h : a ≤ 0) : pos a = 0 := by unfold pos; split <;> grind
theorem pos_all {a b c d : Rat} (h : a + b + c + d = 0) (hn : ¬ (a = 0 ∧ b = 0 ∧ c = 0 ∧ d = 0)) : 0 < pos a + pos b + pos c + pos d := by
 unfold pos; grind
theorem ori_lin (A B : V) : ∃ u v w : Rat, ∀ p : V, ori A B p = u * p.x + v * p.y + w :=
 ⟨-(B.y - A.y), B.x - A.x, (B.y - A.y) * A.x - (B.x - A.x) * A.y, fun p => by simp only [ori, V.cross, V.sub_x, V.sub_y]; grind⟩
theorem helly_val {a b c d x y z w s : Rat} (hs : 0 < s) (h0 : a * x + b * y + c * z + d * w = 0) (he : s = pos a + pos b + pos c + pos d)
   (hy : 0 ≤ y) (hz : 0 ≤ z) (hw : 0 ≤ w) {u : Rat} (hu : s * u = pos a * x + pos b * y + pos c * z + pos d * w) : 0 ≤ u := by
 refine Rat.not_lt.1 fun hn => ?_
 have k := mpos hs (show 0 < -u by grind)
 by_cases ha : a ≤ 0
 · rw [pos_z ha] at hu
   have k1 := Rat.mul_nonneg (pos_nn b) hy
   have k2 := Rat.mul_nonneg (pos_nn c) hz
   have k3 := Rat.mul_nonneg (pos_nn d) hw
   grind
 · have k1 := Rat.mul_nonneg (pos_nn (-b)) hy
   have k2 := Rat.mul_nonneg (pos_nn (-c)) hz
   have k3 := Rat.mul_nonneg (pos_nn (-d)) hw
   have e1 := pos_sub a
   have e2 := pos_sub b
   have e3 := pos_sub c
   have e4 := pos_sub d
   rw [pos_z (show -a ≤ 0 by grind)] at e1
   have f1 : pos a * x = a * x := by rw [← e1]; grind
   have f2 : pos b * y = b * y + pos (-b) * y := by rw [show pos b = b + pos (-b) by grind]; grind
   have f3 : pos c * z = c * z + pos (-c) * z := by rw [show pos c = c + pos (-c) by grind]; grind
   have f4 : pos d * w = d * w + pos (-d) * w := by rw [show pos d = d + pos (-d) by grind]; grind
   grind
theorem helly4 {F G H K : List (V × V)} {p q r s : V} (p2 : inA G p) (p3 : inA H p) (p4 : inA K p) (q1 : inA F q) (q3 : inA H q) (q4 : inA K q)
   (r1 : inA F r) (r2 : inA G r) (r4 : inA K r) (s1 : inA F s) (s2 : inA G s) (s3 : inA H s) : ∃ z, (inA F z ∧ inA G z) ∧ inA H z ∧ inA K z := by
 obtain ⟨a, b, c, d, ⟨⟨h0, hx⟩, hy⟩, hn⟩ := radon p q r s
 have hs := pos_all h0 hn
 obtain ⟨S, hS⟩ : ∃ S, S = pos a + pos b + pos c + pos d := ⟨_, rfl⟩
 rw [← hS] at hs
 obtain ⟨z, hzx, hzy⟩ : ∃ z : V, S * z.x = pos a * p.x + pos b * q.x + pos c * r.x + pos d * s.x ∧ S * z.y = pos a * p.y + pos b * q.y + pos c * r.y + pos d * s.y :=
   ⟨⟨(pos a * p.x + pos b * q.x + pos c * r.x + pos d * s.x) / S, (pos a * p.y + pos b * q.y + pos c * r.y + pos d * s.y) / S⟩, by rw [Rat.mul_comm]; exact Rat.div_mul_cancel (by grind), by rw [Rat.mul_comm]; exact Rat.div_mul_cancel (by grind)⟩
 have val : ∀ e : V × V, a * ori e.1 e.2 p + b * ori e.1 e.2 q + c * ori e.1 e.2 r + d * ori e.1 e.2 s = 0 ∧ S * ori e.1 e.2 z = pos a * ori e.1 e.2 p + pos b * ori e.1 e.2 q + pos c * ori e.1 e.2 r + pos d * ori e.1 e.2 s := fun e => by
   obtain ⟨u, v, w, hl⟩ := ori_lin e.1 e.2
   simp only [hl]
   constructor
   · grind
   · have : S * (u * z.x + v * z.y + w) = u * (S * z.x) + v * (S * z.y) + w * S := by grind
     rw [this, hzx, hzy, hS]; grind
 refine ⟨z, ⟨fun e he => ?_, fun e he => ?_⟩, fun e he => ?_, fun e he => ?_⟩ <;> obtain ⟨v1, v2⟩ := val e
 · exact helly_val hs v1 hS (q1 e he) (r1 e he) (s1 e he) v2
 · exact helly_val (a := b) (b := a) (c := c) (d := d) (x := ori e.1 e.2 q) hs (by grind) (by grind) (p2 e he) (r2 e he) (s2 e he) (by rw [v2]; grind)
 · exact helly_val (a := c) (b := a) (c := b) (d := d) (x := ori e.1 e.2 r) hs (by grind) (by grind) (p3 e he) (q3 e he) (s3 e he) (by rw [v2]; grind)
 · exact helly_val (a := d) (b := a) (c := b) (d := c) (x := ori e.1 e.2 s) hs (by grind) (by grind) (p4 e he) (q4 e he) (r4 e he) (by rw [v2]; grind)
theorem helly : ∀ (n : Nat) (G : List (List (V × V))), G.length = n → (∀ X ∈ G, ∀ Y ∈ G, ∀ Z ∈ G, ∃ p, inA X p ∧ inA Y p ∧ inA Z p) → ∃ p, ∀ X ∈ G, inA X p
 | _, [], _, _ => ⟨⟨0, 0⟩, fun X h => absurd h List.not_mem_nil⟩
 | _, [X], _, h => by
   obtain ⟨p, h1, _⟩ := h X (List.mem_cons_self ..) X (List.mem_cons_self ..) X (List.mem_cons_self ..)
   exact ⟨p, fun Y hY => by rw [List.mem_singleton.1 hY]; exact h1⟩
 | n + 1, X :: Y :: G, hn, h => by
   have mX : X ∈ X :: Y :: G := List.mem_cons_self ..
   have mY : Y ∈ X :: Y :: G := List.mem_cons_of_mem _ (List.mem_cons_self ..)
   have mG : ∀ {Z}, Z ∈ G → Z ∈ X :: Y :: G := fun h => List.mem_cons_of_mem _ (List.mem_cons_of_mem _ h)
   have two : ∀ {U W}, U ∈ G → W ∈ G → ∃ p, inA (X ++ Y) p ∧ inA U p ∧ inA W p := fun {U W} hU hW => by
     obtain ⟨p, p1, p2, p3⟩ := h Y mY U (mG hU) W (mG hW)
     obtain ⟨q, q1, q2, q3⟩ := h X mX U (mG hU) W (mG hW)
     obtain ⟨r, r1, r2, r3⟩ := h X mX Y mY W (mG hW)
     obtain ⟨s, s1, s2, s3⟩ := h X mX Y mY U (mG hU)
     obtain ⟨z, ⟨z1, z2⟩, z3, z4⟩ := helly4 p1 p2 p3 q1 q2 q3 r1 r2 r3 s1 s2 s3
     exact ⟨z, inA_app.2 ⟨z1, z2⟩, z3, z4⟩
   have one : ∀ {U}, U ∈ G → ∃ p, inA (X ++ Y) p ∧ inA U p := fun {U} hU => by
     obtain ⟨p, p1, p2, p3⟩ := h X mX Y mY U (mG hU)
     exact ⟨p, inA_app.2 ⟨p1, p2⟩, p3⟩
   obtain ⟨p, hp⟩ := helly n ((X ++ Y) :: G) (by simpa using hn) (fun A hA B hB C hC => by
     rcases List.mem_cons.1 hA with rfl | hA <;> rcases List.mem_cons.1 hB with rfl | hB <;> rcases List.mem_cons.1 hC with rfl | hC
     · obtain ⟨p, p1, p2, _⟩ := h X mX Y mY Y mY
       exact ⟨p, inA_app.2 ⟨p1, p2⟩, inA_app.2 ⟨p1, p2⟩, inA_app.2 ⟨p1, p2⟩⟩
     · obtain ⟨p, p1, p2⟩ := one hC; exact ⟨p, p1, p1, p2⟩
     · obtain ⟨p, p1, p2⟩ := one hB; exact ⟨p, p1, p2, p1⟩
     · exact two hB hC
     · obtain ⟨p, p1, p2⟩ := one hA; exact ⟨p, p2, p1, p1⟩
     · obtain ⟨p, p1, p2, p3⟩ := two hA hC; exact ⟨p, p2, p1, p3⟩
     · obtain ⟨p, p1, p2, p3⟩ := two hA hB; exact ⟨p, p2, p3, p1⟩
     · exact h A (mG hA) B (mG hB) C (mG hC))
   refine ⟨p, fun Z hZ => ?_⟩
   have hXY := inA_app.1 (hp _ (List.mem_cons_self ..))
   rcases List.mem_cons.1 hZ with rfl | hZ
   · exact hXY.1
   rcases List.mem_cons.1 hZ with rfl | hZ
   · exact hXY.2
   · exact hp Z (List.mem_cons_of_mem _ hZ)
theorem at_at (x y : V) (t s : Rat) : x.at (x.at y t) s = x.at y (t * s) := V.ext' (by simp only [V.at_x]; grind) (by simp only [V.at_y]; grind)
theorem inA_at {L : List (V × V)} {x y : V} (hx : inA L x) (hy : inA L y) {t : Rat} (h0 : 0 ≤ t) (h1 : t ≤ 1) : inA L (x.at y t) := fun e he => by
 have k1 := Rat.mul_nonneg (hx e he) (show 0 ≤ 1 - t by grind)
 have k2 := Rat.mul_nonneg (hy e he) h0
 rw [ori_at]; grind
theorem zero_at {e : V × V} {x y : V} (hx : 0 ≤ ori e.1 e.2 x) (hy : ori e.1 e.2 y < 0) : ∃ t, (0 ≤ t ∧ t ≤ 1) ∧ ori e.1 e.2 (x.at y t) = 0 := by
 have hd : 0 < ori e.1 e.2 x - ori e.1 e.2 y := by grind
 have k : ori e.1 e.2 x / (ori e.1 e.2 x - ori e.1 e.2 y) * (ori e.1 e.2 x - ori e.1 e.2 y) = ori e.1 e.2 x := Rat.div_mul_cancel (by grind)
 refine ⟨ori e.1 e.2 x / (ori e.1 e.2 x - ori e.1 e.2 y), ⟨?_, ?_⟩, ?_⟩ <;> generalize ori e.1 e.2 x / (ori e.1 e.2 x - ori e.1 e.2 y) = t at k
 · refine Rat.not_lt.1 fun hn => ?_
   have := mpos (show 0 < -t by grind) hd; grind
 · refine Rat.not_lt.1 fun hn => ?_
   have := mpos (show 0 < t - 1 by grind) hd; grind
 · rw [ori_at]; grind
theorem leave : ∀ (L : List (V × V)) (x y : V), inA L x → ¬ inA L y → ∃ t, (0 ≤ t ∧ t ≤ 1) ∧ inA L (x.at y t) ∧ ∃ e ∈ L, ori e.1 e.2 (x.at y t) = 0
 | [], x, y, hx, hy => absurd (fun e h => absurd h List.not_mem_nil) hy
 | e :: L, x, y, hx, hy => by
   have he := hx e (List.mem_cons_self ..)
   have hL : inA L x := fun d hd => hx d (List.mem_cons_of_mem _ hd)
   have fin : ∀ w, inA L w → ori e.1 e.2 w < 0 → ∃ s, (0 ≤ s ∧ s ≤ 1) ∧ inA (e :: L) (x.at w s) ∧ ori e.1 e.2 (x.at w s) = 0 := fun w hw hn => by
     obtain ⟨s, ⟨s0, s1⟩, hs⟩ := zero_at he hn
     exact ⟨s, ⟨s0, s1⟩, fun d hd => (List.mem_cons.1 hd).elim (fun h => by rw [h, hs]; exact Rat.le_refl) (inA_at hL hw s0 s1 d), hs⟩
   by_cases hy' : inA L y
   · have hn : ori e.1 e.2 y < 0 := Rat.not_le.1 fun k => hy fun d hd => (List.mem_cons.1 hd).elim (fun h => by rw [h]; exact k) (hy' d)
     obtain ⟨s, hs, h1, h2⟩ := fin y hy' hn
     exact ⟨s, hs, h1, e, List.mem_cons_self .., h2⟩
   · obtain ⟨t, ⟨t0, t1⟩, h1, d, hd, h2⟩ := leave L x y hL hy'
     by_cases hn : ori e.1 e.2 (x.at y t) < 0
     · obtain ⟨s, ⟨s0, s1⟩, k1, k2⟩ := fin _ h1 hn
       rw [at_at] at k1 k2
       have := Rat.mul_nonneg t0 (show 0 ≤ 1 - s by grind)
       exact ⟨t * s, ⟨Rat.mul_nonneg t0 s0, by grind⟩, k1, e, List.mem_cons_self .., k2⟩
     · exact ⟨t, ⟨t0, t1⟩, fun c hc => (List.mem_cons.1 hc).elim (fun h => by rw [h]; exact Rat.not_lt.1 hn) (h1 c), d, List.mem_cons_of_mem _ hd, h2⟩
theorem sq_scale {p q r s : V} {k : Rat} (h0 : 0 ≤ k) (h1 : k ≤ 1) (hx : r.x - s.x = k * (p.x - q.x)) (hy : r.y - s.y = k * (p.y - q.y)) : r.sq s ≤ p.sq q := by
 obtain ⟨⟨a1, a2⟩, a3, a4⟩ := sq_ge p q
 have nn := sq_nn p q
 have key : ∀ u : Rat, u ≤ p.sq q → k * u ≤ p.sq q := fun u hu => by
   have k1 := Rat.mul_nonneg h0 (show 0 ≤ p.sq q - u by grind)
   have k2 := Rat.mul_nonneg (show 0 ≤ 1 - k by grind) nn
   grind
 have b1 := key _ a1
 have b2 := key _ a2
 have b3 := key _ a3
 have b4 := key _ a4
 exact sq_le.2 (by grind)
def unitL : List (V × V) := [(⟨0, 0⟩, ⟨1, 0⟩), (⟨1, 0⟩, ⟨1, 1⟩), (⟨1, 1⟩, ⟨0, 1⟩), (⟨0, 1⟩, ⟨0, 0⟩)]
theorem unitL_in {p : V} : inA unitL p ↔ (0 ≤ p.y ∧ p.x ≤ 1) ∧ p.y ≤ 1 ∧ 0 ≤ p.x := by
 simp only [inA, unitL, List.mem_cons, List.not_mem_nil, or_false, forall_eq_or_imp, forall_eq, ori, V.cross, V.sub_x, V.sub_y]
 constructor
 · rintro ⟨h1, h2, h3, h4⟩; exact ⟨⟨by grind, by grind⟩, by grind, by grind⟩
 · rintro ⟨⟨h1, h2⟩, h3, h4⟩; exact ⟨by grind, by grind, by grind, by grind⟩
theorem unitL_end {e : V × V} {p : V} (he : e ∈ unitL) (h : ori e.1 e.2 p = 0) : (p.y = 0 ∨ p.x = 1) ∨ p.y = 1 ∨ p.x = 0 := by
 simp only [unitL, List.mem_cons, List.not_mem_nil, or_false] at he
 rcases he with rfl | rfl | rfl | rfl <;> simp only [ori, V.cross, V.sub_x, V.sub_y] at h
 · exact .inl (.inl (by grind))
 · exact .inl (.inr (by grind))
 · exact .inr (.inl (by grind))
 · exact .inr (.inr (by grind))
theorem seg_far {A B C D P Q : V} {z : Rat} (hCD : C ≠ D) (hno : ∀ p, ¬ (onS A B p ∧ onS C D p)) (hP : onS A B P) (hQ : onS C D Q)
   (h1 : z ≤ sqPt A B C) (h2 : z ≤ sqPt A B D) (h3 : z ≤ sqPt C D A) (h4 : z ≤ sqPt C D B) : z ≤ P.sq Q := by
 obtain ⟨s, ⟨s0, s1⟩, rfl⟩ := hP
 obtain ⟨t, ⟨t0, t1⟩, rfl⟩ := hQ
 obtain ⟨y, m, hm, hy, hxx, hyy⟩ : ∃ (y : V) (m : Rat), (0 ≤ m ∧ m ≤ 1) ∧ ¬ inA unitL y ∧ (A.at B y.x).x - (C.at D y.y).x = m * ((A.at B s).x - (C.at D t).x) ∧ (A.at B y.x).y - (C.at D y.y).y = m * ((A.at B s).y - (C.at D t).y) := by
   by_cases hk : (B - A).cross (D - C) = 0
   · have hD := dd_pos hCD
     have hc : (B - A).dot (D - C) / (D - C).dot (D - C) * (D - C).dot (D - C) = (B - A).dot (D - C) := Rat.div_mul_cancel (by grind)
     generalize (B - A).dot (D - C) / (D - C).dot (D - C) = k at hc
     simp only [V.cross, V.dot, V.sub_x, V.sub_y] at hk hc hD
     have kx : ((D.x - C.x) * (D.x - C.x) + (D.y - C.y) * (D.y - C.y)) * (B.x - A.x - k * (D.x - C.x)) = 0 := by grind
     have ky : ((D.x - C.x) * (D.x - C.x) + (D.y - C.y) * (D.y - C.y)) * (B.y - A.y - k * (D.y - C.y)) = 0 := by grind
     have ex : B.x - A.x = k * (D.x - C.x) := by rcases Rat.mul_eq_zero.1 kx with h | h <;> grind
     have ey : B.y - A.y = k * (D.y - C.y) := by rcases Rat.mul_eq_zero.1 ky with h | h <;> grind
     refine ⟨⟨s + 2, t + k * 2⟩, 1, ⟨by grind, by grind⟩, fun h => ?_, ?_, ?_⟩
     · have := (unitL_in.1 h).1.2
       have : s + 2 ≤ 1 := this
       grind
     · simp only [V.at_x]; rw [ex]; grind
     · simp only [V.at_y]; rw [ey]; grind
   · obtain ⟨T, U, hT⟩ : ∃ T U, A.at B T = C.at D U := ⟨_, _, (cramer hk _ _).2 ⟨rfl, rfl⟩⟩
     refine ⟨⟨T, U⟩, 0, ⟨by grind, by grind⟩, fun h => ?_, ?_, ?_⟩
     · obtain ⟨⟨u1, u2⟩, u3, u4⟩ := unitL_in.1 h
       exact hno (A.at B T) ⟨⟨T, ⟨u4, u2⟩, rfl⟩, U, ⟨u1, u3⟩, hT⟩
     · have : (A.at B T).x = (C.at D U).x := congrArg V.x hT
       show (A.at B T).x - (C.at D U).x = _; rw [this]; grind
     · have : (A.at B T).y = (C.at D U).y := congrArg V.y hT
       show (A.at B T).y - (C.at D U).y = _; rw [this]; grind
 obtain ⟨r, ⟨r0, r1⟩, hin, e, he, hz⟩ := leave unitL ⟨s, t⟩ y (unitL_in.2 ⟨⟨t0, s1⟩, t1, s0⟩) hy
 obtain ⟨w, hw⟩ : ∃ w, w = (⟨s, t⟩ : V).at y r := ⟨_, rfl⟩
 have wx : w.x = s + (y.x - s) * r := by rw [hw]; rfl
 have wy : w.y = t + (y.y - t) * r := by rw [hw]; rfl
 rw [← hw] at hin hz
 obtain ⟨⟨u1, u2⟩, u3, u4⟩ := unitL_in.1 hin
 have kk := Rat.mul_nonneg (show 0 ≤ 1 - m by grind) r0
 have le : (A.at B w.x).sq (C.at D w.y) ≤ (A.at B s).sq (C.at D t) := by
   refine sq_scale (k := 1 - r + m * r) ?_ (by grind) ?_ ?_
   · have := Rat.mul_nonneg hm.1 r0; grind
   · simp only [V.at_x] at hxx ⊢; rw [wx, wy]; grind
   · simp only [V.at_y] at hyy ⊢; rw [wx, wy]; grind
 refine Rat.le_trans ?_ le
 rcases unitL_end he hz with (k | k) | k | k
 · rw [k, V.at_zero]; exact Rat.le_trans h1 (sqPt_le u4 u2)
 · rw [k, V.at_one, sq_comm]; exact Rat.le_trans h4 (sqPt_le u1 u3)
 · rw [k, V.at_one]; exact Rat.le_trans h2 (sqPt_le u4 u2)
 · rw [k, V.at_zero, sq_comm]; exact Rat.le_trans h3 (sqPt_le u1 u3)
end Go.Sx
end
section
namespace Go.Sx
def VL (l : List Pt) : List (V × V) := (edgesL l).map fun e => (e.1.v, e.2.v)
theorem VL_in {l : List Pt} {p : V} : inA (VL l) p ↔ ∀ e ∈ edgesL l, 0 ≤ ori e.1.v e.2.v p :=
 ⟨fun h e he => by have := h (e.1.v, e.2.v) (List.mem_map.2 ⟨e, he, rfl⟩); exact this, fun h d hd => by obtain ⟨e, he, rfl⟩ := List.mem_map.1 hd; have := h e he; exact this⟩
theorem edge_at {l : List Pt} {i : Nat} (h : i < l.length) : ∃ e ∈ edgesL l, e.1.v = at_ l i ∧ e.2.v = at_ l ((i + 1) % l.length) := ⟨_, List.mem_of_getElem? (edgesL_get h), rfl, rfl⟩
theorem in_at {l : List Pt} {p : V} (h : inA (VL l) p) {i : Nat} (hi : i < l.length) : 0 ≤ ori (at_ l i) (at_ l ((i + 1) % l.length)) p := by
 obtain ⟨e, he, h1, h2⟩ := edge_at hi
 rw [← h1, ← h2]; exact VL_in.1 h e he
theorem Cvx.onE {l : List Pt} (h : Cvx l) {p : V} (hp : inA (VL l) p) {e : Pt × Pt} (he : e ∈ edgesL l) (h0 : ori e.1.v e.2.v p = 0) : onS e.1.v e.2.v p := by
 obtain ⟨i, hi, rfl⟩ := edge_idx he
 have n3 := h.n3
 obtain ⟨n, hn⟩ : ∃ n, n = l.length := ⟨_, rfl⟩
 show onS (at_ l i) (at_ l ((i + 1) % l.length)) p
 have h0 : ori (at_ l i) (at_ l ((i + 1) % l.length)) p = 0 := h0
 have hne := h.ne hi
 have hm : (i + 1) % l.length < l.length := Nat.mod_lt _ (by omega)
 have hj : (i + l.length - 1) % l.length < l.length := Nat.mod_lt _ (by omega)
 have j1 : ((i + l.length - 1) % l.length + 1) % l.length = i := by rw [Nat.mod_add_mod, show i + l.length - 1 + 1 = i + l.length by omega, Nat.add_mod_right, Nat.mod_eq_of_lt hi]
 have j2 : ((i + l.length - 1) % l.length + 2) % l.length = (i + 1) % l.length := by rw [Nat.mod_add_mod, show i + l.length - 1 + 2 = i + 1 + l.length by omega, Nat.add_mod_right]
 have k1 := convex_turn h.n3 h.least h.left hj
 have k2 := convex_turn h.n3 h.least h.left hi
 have a1 := in_at hp hj
 have a2 := in_at hp hm
 rw [Nat.mod_add_mod] at a2
 rw [j1, j2] at k1
 rw [j1] at a1
 generalize at_ l i = A at *
 generalize at_ l ((i + 1) % l.length) = B at *
 generalize at_ l ((i + l.length - 1) % l.length) = Z at *
 rw [show i + 1 + 1 = i + 2 by omega] at a2
 generalize at_ l ((i + 2) % l.length) = C at *
 have e := collin hne h0
 generalize parV A B p = t at e
 subst e
 refine ⟨t, ⟨?_, ?_⟩, rfl⟩
 · rw [ori_at, ori_self2] at a1
   refine Rat.not_lt.1 fun hn => ?_
   have := mpos k1 (show 0 < -t by grind)
   grind
 · rw [ori_at, ori_self1, ← ori_rot] at a2
   refine Rat.not_lt.1 fun hn => ?_
   have := mpos k2 (show 0 < t - 1 by grind)
   grind
theorem crossing {g : Nat → Rat} : ∀ (k : Nat), 0 ≤ g 1 → g (k + 2) ≤ 0 → ∃ i, (0 < i ∧ i < k + 2) ∧ 0 ≤ g i ∧ g (i + 1) ≤ 0
 | 0, h1, h2 => ⟨1, ⟨by omega, by omega⟩, h1, h2⟩
 | k + 1, h1, h2 => by
   by_cases h : g (k + 2) ≤ 0
   · obtain ⟨i, ⟨i0, i1⟩, h3, h4⟩ := crossing k h1 h
     exact ⟨i, ⟨i0, by omega⟩, h3, h4⟩
   · exact ⟨k + 2, ⟨by omega, by omega⟩, by grind, h2⟩
theorem bary (A B P Q R p : V) : ori P Q R * ori A B p = ori A B P * ori Q R p + ori A B Q * ori R P p + ori A B R * ori P Q p := by
 simp only [ori, V.cross, V.sub_x, V.sub_y]; grind
theorem bary1 (P Q R p : V) : ori P Q R = ori Q R p + ori R P p + ori P Q p := by
 simp only [ori, V.cross, V.sub_x, V.sub_y]; grind
theorem Cvx.hull {l : List Pt} (h : Cvx l) {p A B : V} (hp : inA (VL l) p) (hc : ∀ x ∈ l, ori A B x.v < 0) : ori A B p < 0 := by
 have n3 := h.n3
 have hf : ∀ i, i < l.length → ori A B (at_ l i) < 0 := fun i hi => hc _ (getD_mem' hi)
 have b1 := in_at hp (i := 0) (by omega)
 have b2 := in_at hp (i := l.length - 1) (by omega)
 rw [Nat.mod_eq_of_lt (show 0 + 1 < l.length by omega)] at b1
 rw [show l.length - 1 + 1 = l.length by omega, Nat.mod_self] at b2
 obtain ⟨i, ⟨i0, i1⟩, h3, h4⟩ := crossing (g := fun i => ori (at_ l 0) (at_ l i) p) (l.length - 3) b1 (by
   show ori (at_ l 0) (at_ l (l.length - 3 + 2)) p ≤ 0
   rw [show l.length - 3 + 2 = l.length - 1 by omega]
   have : ori (at_ l 0) (at_ l (l.length - 1)) p = -ori (at_ l (l.length - 1)) (at_ l 0) p := by simp only [ori, V.cross, V.sub_x, V.sub_y]; grind
   rw [this]; grind)
 have hi : i + 1 < l.length := by omega
 have hT := convex_fan h.n3 h.least h.left i0 hi
 have h5 := in_at hp (i := i) (by omega)
 rw [Nat.mod_eq_of_lt hi] at h5
 have c0 := hf 0 (by omega)
 have c1 := hf i (by omega)
 have c2 := hf (i + 1) hi
 have e := bary A B (at_ l 0) (at_ l i) (at_ l (i + 1)) p
 have e1 := bary1 (at_ l 0) (at_ l i) (at_ l (i + 1)) p
 have h6 : 0 ≤ ori (at_ l (i + 1)) (at_ l 0) p := by
   have : ori (at_ l (i + 1)) (at_ l 0) p = -ori (at_ l 0) (at_ l (i + 1)) p := by simp only [ori, V.cross, V.sub_x, V.sub_y]; grind
   rw [this]
   have h4 : ori (at_ l 0) (at_ l (i + 1)) p ≤ 0 := h4
   grind
 have h3 : 0 ≤ ori (at_ l 0) (at_ l i) p := h3
 generalize ori (at_ l 0) (at_ l i) (at_ l (i + 1)) = T at *
 generalize ori (at_ l i) (at_ l (i + 1)) p = w0 at *
 generalize ori (at_ l (i + 1)) (at_ l 0) p = w1 at *
 generalize ori (at_ l 0) (at_ l i) p = w2 at *
 generalize ori A B (at_ l 0) = g0 at *
 generalize ori A B (at_ l i) = g1 at *
 generalize ori A B (at_ l (i + 1)) = g2 at *
 refine Rat.not_le.1 fun hn => ?_
 have k := Rat.mul_nonneg (Rat.le_of_lt hT) hn
 have k0 := Rat.mul_nonneg (show 0 ≤ -g0 by grind) h5
 have k1 := Rat.mul_nonneg (show 0 ≤ -g1 by grind) h6
 have k2 := Rat.mul_nonneg (show 0 ≤ -g2 by grind) h3
 have z0 : -g0 * w0 = 0 := by grind
 have z1 : -g1 * w1 = 0 := by grind
 have z2 : -g2 * w2 = 0 := by grind
 have y0 : w0 = 0 := by rcases Rat.mul_eq_zero.1 z0 with h | h <;> grind
 have y1 : w1 = 0 := by rcases Rat.mul_eq_zero.1 z1 with h | h <;> grind
 have y2 : w2 = 0 := by rcases Rat.mul_eq_zero.1 z2 with h | h <;> grind
 rw [y0, y1, y2] at e1
 grind
theorem apart2 {a b : List Pt} (ha : Cvx a) (hb : Cvx b) (hs : (sepL a b).isSome = true) {p : V} (hp : inA (VL a) p) (hq : inA (VL b) p) : False := by
 rw [sep_some, Bool.or_eq_true] at hs
 rcases hs with h | h
 · obtain ⟨d, hd⟩ := Option.isSome_iff_exists.1 h
   have k1 := VL_in.1 hp d (List.mem_of_find?_eq_some hd)
   have k2 := hb.hull hq (fun x hx => bsd_right (List.find?_some hd) hx)
   grind
 · obtain ⟨d, hd⟩ := Option.isSome_iff_exists.1 h
   have k1 := VL_in.1 hq d (List.mem_of_find?_eq_some hd)
   have k2 := ha.hull hp (fun x hx => bsd_right (List.find?_some hd) hx)
   grind
theorem not_bsd {a b : List Pt} (h : (bsdL a b).isSome = false) {e : Pt × Pt} (he : e ∈ edgesL a) : ∃ x ∈ b, 0 ≤ ori e.1.v e.2.v x.v := by
 have h1 : bsdL a b = none := by cases k : bsdL a b with
   | none => rfl
   | some d => rw [k] at h; cases h
 have h2 := List.find?_eq_none.1 h1 e he
 have h3 : (b.any fun r => !rightB e.1 e.2 r) = true := by simpa [bsdP] using h2
 obtain ⟨x, hx, h4⟩ := List.any_eq_true.1 h3
 have h5 : ¬ cmpQ (ori e.1.v e.2.v x.v) 0 < 0 := by simpa [rightB] using h4
 exact ⟨x, hx, Rat.not_lt.1 fun k => h5 (cmpQ_lt.2 k)⟩
theorem inA_one {e : V × V} {p : V} : inA [e] p ↔ 0 ≤ ori e.1 e.2 p := ⟨fun h => h e (List.mem_singleton.2 rfl), fun h d hd => by rw [List.mem_singleton.1 hd]; exact h⟩
theorem touch_pt {a b : List Pt} (ha : Cvx a) (hb : Cvx b) (hs : (sepL a b).isSome = false) : ∃ z, inA (VL a) z ∧ inA (VL b) z := by
 rw [sep_some, Bool.or_eq_false_iff] at hs
 have n3 := ha.n3
 have m3 := hb.n3
 have oA : ∃ x, x ∈ a := ⟨_, getD_mem' (show 0 < a.length by omega)⟩
 have oB : ∃ x, x ∈ b := ⟨_, getD_mem' (show 0 < b.length by omega)⟩
 have aA : ∀ e ∈ edgesL a, ∀ x ∈ a, inA [(e.1.v, e.2.v)] x.v := fun e he x hx => inA_one.2 (ha.side he hx)
 have bB : ∀ e ∈ edgesL b, ∀ x ∈ b, inA [(e.1.v, e.2.v)] x.v := fun e he x hx => inA_one.2 (hb.side he hx)
 have aB : ∀ e ∈ edgesL a, ∃ x ∈ b, inA [(e.1.v, e.2.v)] x.v := fun e he => by obtain ⟨x, h1, h2⟩ := not_bsd hs.1 he; exact ⟨x, h1, inA_one.2 h2⟩
 have bA : ∀ e ∈ edgesL b, ∃ x ∈ a, inA [(e.1.v, e.2.v)] x.v := fun e he => by obtain ⟨x, h1, h2⟩ := not_bsd hs.2 he; exact ⟨x, h1, inA_one.2 h2⟩
 obtain ⟨z, hz⟩ := helly _ ((VL a ++ VL b).map fun e => [e]) rfl (fun X hX Y hY Z hZ => by
   have kind : ∀ X ∈ (VL a ++ VL b).map (fun e => [e]), (∃ e ∈ edgesL a, X = [(e.1.v, e.2.v)]) ∨ ∃ e ∈ edgesL b, X = [(e.1.v, e.2.v)] := fun X hX => by
     obtain ⟨d, hd, rfl⟩ := List.mem_map.1 hX
     rcases List.mem_append.1 hd with h | h <;> obtain ⟨e, he, rfl⟩ := List.mem_map.1 h
     · exact .inl ⟨e, he, rfl⟩
     · exact .inr ⟨e, he, rfl⟩
   obtain ⟨u, hu⟩ := oA
   obtain ⟨w, hw⟩ := oB
   rcases kind X hX with ⟨e, he, rfl⟩ | ⟨e, he, rfl⟩ <;> rcases kind Y hY with ⟨f, hf, rfl⟩ | ⟨f, hf, rfl⟩ <;> rcases kind Z hZ with ⟨g, hg, rfl⟩ | ⟨g, hg, rfl⟩
   · exact ⟨u.v, aA e he u hu, aA f hf u hu, aA g hg u hu⟩
   · obtain ⟨x, hx, h⟩ := bA g hg; exact ⟨x.v, aA e he x hx, aA f hf x hx, h⟩
   · obtain ⟨x, hx, h⟩ := bA f hf; exact ⟨x.v, aA e he x hx, h, aA g hg x hx⟩
   · obtain ⟨x, hx, h⟩ := aB e he; exact ⟨x.v, h, bB f hf x hx, bB g hg x hx⟩
   · obtain ⟨x, hx, h⟩ := bA e he; exact ⟨x.v, h, aA f hf x hx, aA g hg x hx⟩
   · obtain ⟨x, hx, h⟩ := aB f hf; exact ⟨x.v, bB e he x hx, h, bB g hg x hx⟩
   · obtain ⟨x, hx, h⟩ := aB g hg; exact ⟨x.v, bB e he x hx, bB f hf x hx, h⟩
   · exact ⟨w.v, bB e he w hw, bB f hf w hw, bB g hg w hw⟩)
 refine ⟨z, fun e he => ?_, fun e he => ?_⟩
 · exact inA_one.1 (hz [e] (List.mem_map_of_mem (List.mem_append_left _ he)))
 · exact inA_one.1 (hz [e] (List.mem_map_of_mem (List.mem_append_right _ he)))
theorem sqC_val {a b : List Pt} (ha : chkC a = 0) (hb : chkC b = 0) : sqC a b = (if (sepL a b).isSome = true then lstQ (prsD a b) else 0, 0) := by
 unfold sqC
 rw [show tchL a b = (!(sepL a b).isSome, 0) from if_neg (fun h => h.elim (fun k => k ha) (fun k => k hb))]
 cases (sepL a b).isSome <;> rfl
theorem sqC_le4 {a b : List Pt} (ha : Cvx a) (hb : Cvx b) (hs : (sepL a b).isSome = true) {z : Rat} (h : z ≤ lstQ (prsD a b)) {e f : Pt × Pt} (he : e ∈ edgesL a) (hf : f ∈ edgesL b) :
   (z ≤ sqPt e.1.v e.2.v f.1.v ∧ z ≤ sqPt e.1.v e.2.v f.2.v) ∧ z ≤ sqPt f.1.v f.2.v e.1.v ∧ z ≤ sqPt f.1.v f.2.v e.2.v := by
 have k := (sqC_le ha hb hs).1 h
 obtain ⟨_, _, e', he', k1⟩ := edge_ends he
 obtain ⟨_, _, f', hf', k2⟩ := edge_ends hf
 have c1 := k e he f hf
 have c2 := k e he f' hf'
 have c3 := k e' he' f hf
 rw [k2] at c2
 rw [k1] at c3
 exact ⟨⟨c1.1, c2.1⟩, c1.2, c3.2⟩
theorem sqV_zero {a b : V} (h : a.sq b ≤ 0) : a = b := by
 obtain ⟨⟨h1, h2⟩, h3, h4⟩ := sq_ge a b
 exact V.ext' (by grind) (by grind)
theorem sqPt_pos {A B p : V} (h : ¬ onS A B p) : 0 < sqPt A B p := Rat.not_le.1 fun k => by
 obtain ⟨t, ht, e⟩ := sqPt_at A B p
 rw [e] at k
 exact h ⟨t, ht, (sqV_zero k).symm⟩
theorem extm_mem : ∀ (l : List Rat) (x : Rat), extQ (-1) x l ∈ x :: l
 | [], x => by simp [extQ]
 | r :: l, x => by
   rw [extQ]
   have := extm_mem l (if cmpQ r x = -1 then r else x)
   split
   · rename_i h; rw [if_pos h] at this; exact List.mem_cons_of_mem _ this
   · rename_i h; rw [if_neg h] at this
     rcases List.mem_cons.1 this with h | h
     · rw [h]; exact List.mem_cons_self ..
     · exact List.mem_cons_of_mem _ (List.mem_cons_of_mem _ h)
theorem lst_pos {a b : List Pt} (ha : Cvx a) (hb : Cvx b) (hs : (sepL a b).isSome = true) : 0 < lstQ (prsD a b) := by
 have n3 := ha.n3
 have m3 := hb.n3
 have hne := prs_ne (a := a) (b := b) (by omega) (by omega)
 have hm : lstQ (prsD a b) ∈ prsD a b := by
   rcases hp : prsD a b with _ | ⟨x, l⟩
   · exact absurd hp hne
   · exact extm_mem l x
 obtain ⟨e, he, h1⟩ := List.mem_flatMap.1 hm
 obtain ⟨f, hf, h2⟩ := List.mem_map.1 h1
 rw [← h2]
 obtain ⟨hff, hff2, f', hf', kf⟩ := edge_ends hf
 obtain ⟨hee, hee2, e', he', ke⟩ := edge_ends he
 have hno : ∀ p, ¬ (onS e.1.v e.2.v p ∧ onS f.1.v f.2.v p) := fun p h => apart ha hb hs he hf h.1 h.2
 have hme : (meetV e.1.v e.2.v f.1.v f.2.v).isSome = false := by
   cases h : (meetV e.1.v e.2.v f.1.v f.2.v).isSome with
   | false => rfl
   | true =>
     obtain ⟨p, h1, h2⟩ := (meet_iff (fun k => (ha.edge he).2.2 (degen_iff.2 k)) (fun k => (hb.edge hf).2.2 (degen_iff.2 k))).1 h
     exact (hno p ⟨h1, h2⟩).elim
 unfold edD segD
 rw [hme, if_neg (by decide)]
 have := extm_mem [sqPt e.1.v e.2.v f.2.v, sqPt f.1.v f.2.v e.1.v, sqPt f.1.v f.2.v e.2.v] (sqPt e.1.v e.2.v f.1.v)
 simp only [List.mem_cons, List.not_mem_nil, or_false] at this
 rcases this with h | h | h | h <;> rw [h] <;> refine sqPt_pos fun k => ?_
 · exact hno _ ⟨k, onS_left _ _⟩
 · exact hno _ ⟨k, onS_right _ _⟩
 · exact hno _ ⟨onS_left _ _, k⟩
 · exact hno _ ⟨onS_right _ _, k⟩
theorem sqC_comm (a b : List Pt) (ha : chkC a = 0) (hb : chkC b = 0) : sqC a b = sqC b a := by
 have va := cvx_of ha
 have vb := cvx_of hb
 rw [sqC_val ha hb, sqC_val hb ha]
 have hs : (sepL a b).isSome = (sepL b a).isSome := by rw [sep_some, sep_some, Bool.or_comm]
 rw [← hs]
 cases h : (sepL a b).isSome with
 | false => rfl
 | true =>
   have h' : (sepL b a).isSome = true := by rw [← hs]; exact h
   have key : ∀ z, z ≤ lstQ (prsD a b) ↔ z ≤ lstQ (prsD b a) := fun z => by
     rw [sqC_le va vb h, sqC_le vb va h']
     exact ⟨fun k f hf e he => ⟨(k e he f hf).2, (k e he f hf).1⟩, fun k e he f hf => ⟨(k f hf e he).2, (k f hf e he).1⟩⟩
   have := Rat.le_antisymm ((key _).1 Rat.le_refl) ((key _).2 Rat.le_refl)
   show (lstQ _, (0 : Int)) = (lstQ _, (0 : Int))
   rw [this]
structure Mov (b c : List Pt) (v : V) : Prop where
 len : c.length = b.length
 is : ∀ i, i < b.length → at_ c i = at_ b i + v
theorem Mov.edge {b c : List Pt} {v : V} (h : Mov b c v) {f : Pt × Pt} (hf : f ∈ edgesL b) : ∃ g ∈ edgesL c, g.1.v = f.1.v + v ∧ g.2.v = f.2.v + v := by
 obtain ⟨i, hi, rfl⟩ := edge_idx hf
 obtain ⟨g, hg, h1, h2⟩ := edge_at (l := c) (i := i) (by rw [h.len]; exact hi)
 rw [h.len] at h2
 exact ⟨g, hg, h1.trans (h.is i hi), h2.trans (h.is _ (Nat.mod_lt _ (by omega)))⟩
theorem Mov.back {b c : List Pt} {v : V} (h : Mov b c v) : Mov c b ⟨-v.x, -v.y⟩ := ⟨h.len.symm, fun i hi => by
 rw [h.is i (by rw [← h.len]; exact hi)]
 exact V.ext' (by show _ = (at_ b i).x + v.x + -v.x; grind) (by show _ = (at_ b i).y + v.y + -v.y; grind)⟩
theorem ori_mv (a b c v : V) : ori (a + v) (b + v) (c + v) = ori a b c := by simp only [ori, V.cross, V.sub_x, V.sub_y, V.add_x, V.add_y]; grind
theorem Mov.inV {b c : List Pt} {v p : V} (h : Mov b c v) (hp : inA (VL b) p) : inA (VL c) (p + v) := VL_in.2 fun g hg => by
 obtain ⟨f, hf, h1, h2⟩ := h.back.edge hg
 have k := VL_in.1 hp f hf
 have e1 : g.1.v = f.1.v + v := by rw [h1]; exact V.ext' (by show _ = g.1.v.x + -v.x + v.x; grind) (by show _ = g.1.v.y + -v.y + v.y; grind)
 have e2 : g.2.v = f.2.v + v := by rw [h2]; exact V.ext' (by show _ = g.2.v.x + -v.x + v.x; grind) (by show _ = g.2.v.y + -v.y + v.y; grind)
 rw [e1, e2, ori_mv]; exact k
def absV (v : V) : Rat := v.sq ⟨0, 0⟩
theorem absV_ge (v : V) : (v.x ≤ absV v ∧ -v.x ≤ absV v) ∧ v.y ≤ absV v ∧ -v.y ≤ absV v := by
 obtain ⟨⟨h1, h2⟩, h3, h4⟩ := sq_ge v ⟨0, 0⟩
 have h1 : v.x - 0 ≤ absV v := h1
 have h2 : 0 - v.x ≤ absV v := h2
 have h3 : v.y - 0 ≤ absV v := h3
 have h4 : 0 - v.y ≤ absV v := h4
 exact ⟨⟨by grind, by grind⟩, by grind, by grind⟩
theorem absV_neg (v : V) : absV ⟨-v.x, -v.y⟩ = absV v := by
 obtain ⟨⟨h1, h2⟩, h3, h4⟩ := absV_ge v
 obtain ⟨⟨k1, k2⟩, k3, k4⟩ := absV_ge ⟨-v.x, -v.y⟩
 simp only at k1 k2 k3 k4
 refine Rat.le_antisymm (sq_le.2 ?_) (sq_le.2 ?_)
 · show (-v.x - 0 ≤ absV v ∧ 0 - -v.x ≤ absV v) ∧ -v.y - 0 ≤ absV v ∧ 0 - -v.y ≤ absV v
   grind
 · show (v.x - 0 ≤ absV ⟨-v.x, -v.y⟩ ∧ 0 - v.x ≤ absV ⟨-v.x, -v.y⟩) ∧ v.y - 0 ≤ absV ⟨-v.x, -v.y⟩ ∧ 0 - v.y ≤ absV ⟨-v.x, -v.y⟩
   grind
theorem absV_nn (v : V) : 0 ≤ absV v := sq_nn _ _
theorem sq_tri {p q r v : V} (hx : q.x - r.x = v.x ∨ r.x - q.x = v.x) (hy : q.y - r.y = v.y ∨ r.y - q.y = v.y) : p.sq q ≤ p.sq r + absV v := by
 obtain ⟨⟨h1, h2⟩, h3, h4⟩ := absV_ge v
 obtain ⟨⟨k1, k2⟩, k3, k4⟩ := sq_ge p r
 exact sq_le.2 (by rcases hx with hx | hx <;> rcases hy with hy | hy <;> exact ⟨⟨by grind, by grind⟩, by grind, by grind⟩)
theorem sqPt_mv1 (A B p v : V) : sqPt A B (p + v) ≤ sqPt A B p + absV v := by
 obtain ⟨t, ⟨h0, h1⟩, e⟩ := sqPt_at A B p
 rw [e]
 exact Rat.le_trans (sqPt_le h0 h1) (sq_tri (.inl (by simp only [V.add_x]; grind)) (.inl (by simp only [V.add_y]; grind)))
theorem sqPt_mv2 (A B p v : V) : sqPt (A + v) (B + v) p ≤ sqPt A B p + absV v := by
 obtain ⟨t, ⟨h0, h1⟩, e⟩ := sqPt_at A B p
 rw [e]
 refine Rat.le_trans (sqPt_le h0 h1) ?_
 rw [sq_comm, sq_comm (A.at B t)]
 exact sq_tri (.inl (by simp only [V.at_x, V.add_x]; grind)) (.inl (by simp only [V.at_y, V.add_y]; grind))
theorem not_inA {a b : List Pt} (ha : Cvx a) (hb : Cvx b) (hs : (sepL a b).isSome = true) {p : V} (hp : inA (VL b) p) : ¬ inA (VL a) p := fun h => apart2 ha hb hs h hp
theorem sqC_mov {a b c : List Pt} {v : V} (ha : chkC a = 0) (hb : chkC b = 0) (hc : chkC c = 0) (hm : Mov b c v) : (sqC a c).1 ≤ (sqC a b).1 + absV v := by
 have va := cvx_of ha
 have vb := cvx_of hb
 have vc := cvx_of hc
 have nn := absV_nn v
 rw [sqC_val ha hb, sqC_val ha hc]
 show (if _ then _ else _) ≤ (if _ then _ else _) + _
 cases hs : (sepL a c).isSome with
 | false =>
   rw [if_neg (by decide)]
   cases hs' : (sepL a b).isSome with
   | false => rw [if_neg (by decide)]; grind
   | true => rw [if_pos rfl]; have := lst_pos va vb hs'; grind
 | true =>
   rw [if_pos rfl]
   cases hs' : (sepL a b).isSome with
   | true =>
     rw [if_pos rfl]
     have key : lstQ (prsD a c) - absV v ≤ lstQ (prsD a b) := (sqC_le va vb hs').2 fun e he f hf => by
       obtain ⟨g, hg, h1, h2⟩ := hm.edge hf
       obtain ⟨⟨k1, _⟩, k2, _⟩ := sqC_le4 va vc hs Rat.le_refl he hg
       rw [h1] at k1
       rw [h1, h2] at k2
       have j1 := sqPt_mv1 e.1.v e.2.v f.1.v v
       have j2 := sqPt_mv2 f.1.v f.2.v e.1.v v
       exact ⟨by grind, by grind⟩
     grind
   | false =>
     rw [if_neg (by decide)]
     obtain ⟨z, z1, z2⟩ := touch_pt va vb hs'
     have z3 := hm.inV z2
     obtain ⟨t, ⟨t0, t1⟩, p1, d, hd, p2⟩ := leave (VL a) z (z + v) z1 (not_inA va vc hs z3)
     obtain ⟨e, he, rfl⟩ := List.mem_map.1 hd
     obtain ⟨P, hP⟩ : ∃ P, P = z.at (z + v) t := ⟨_, rfl⟩
     rw [← hP] at p1 p2
     obtain ⟨s, ⟨s0, s1⟩, q1, d', hd', q2⟩ := leave (VL c) (z + v) P z3 (fun h => apart2 va vc hs p1 h)
     obtain ⟨f, hf, rfl⟩ := List.mem_map.1 hd'
     have oP := va.onE p1 he p2
     have oQ := vc.onE q1 hf q2
     obtain ⟨⟨k1, k2⟩, k3, k4⟩ := sqC_le4 va vc hs Rat.le_refl he hf
     have hno : ∀ p, ¬ (onS e.1.v e.2.v p ∧ onS f.1.v f.2.v p) := fun p h => apart va vc hs he hf h.1 h.2
     have far := seg_far (fun k => (vc.edge hf).2.2 (degen_iff.2 k)) hno oP oQ k1 k2 k3 k4
     refine Rat.le_trans far ?_
     rw [Rat.zero_add, sq_comm]
     have kk := Rat.mul_nonneg (show 0 ≤ 1 - t by grind) s0
     have kk1 := Rat.mul_nonneg (show 0 ≤ 1 - t by grind) (show 0 ≤ 1 - s by grind)
     refine sq_scale (p := v) (q := ⟨0, 0⟩) (k := (1 - t) * (1 - s)) kk1 (by grind) ?_ ?_
     · rw [hP]; simp only [V.at_x, V.add_x]; grind
     · rw [hP]; simp only [V.at_y, V.add_y]; grind
theorem ltP2_mv {a b v : V} : ltP2 (a + v) (b + v) ↔ ltP2 a b := by unfold ltP2; simp only [V.add_x, V.add_y]; grind
theorem Pt.ok_inj {p q : Pt} (hp : p.ok) (hq : q.ok) (h : p.v = q.v) : p = q := by rw [Pt.ok_eq hp, Pt.ok_eq hq, h]
theorem chk_mov {b c : List Pt} {v : V} (hb : chkC b = 0) (hm : Mov b c v) (hok : ∀ p ∈ c, p.ok) : chkC c = 0 := by
 have vb := cvx_of hb
 have n3 := vb.n3
 have n64 := vb.n64
 have hl := hm.len
 have c3 : ¬ (edgesL c).any (fun e => c.any (sideB e.1 e.2)) = true := by
   intro h
   obtain ⟨e, he, h2⟩ := List.any_eq_true.1 h
   obtain ⟨r, hr, h3⟩ := List.any_eq_true.1 h2
   obtain ⟨m1, m2, _⟩ := edge_ends he
   obtain ⟨i, hi, rfl⟩ := edge_idx he
   obtain ⟨k, hk⟩ := List.getElem?_of_mem hr
   have hkl : k < c.length := (List.getElem?_eq_some_iff.1 hk).1
   have hrk : r.v = at_ c k := (at_get hk).symm
   unfold sideB at h3
   simp only [Bool.and_eq_true, decide_eq_true_eq] at h3
   obtain ⟨h4, h5, h6⟩ := h3
   rw [cmpQ_le, hrk] at h6
   have h6 : ori (at_ c i) (at_ c ((i + 1) % c.length)) (at_ c k) ≤ 0 := h6
   have hm1 : (i + 1) % b.length < b.length := Nat.mod_lt _ (by omega)
   rw [hl, hm.is i (by omega), hm.is _ hm1, hm.is k (by omega), ori_mv] at h6
   have := vb.left i k (by omega) (by omega) (fun h => h4 (Pt.ok_inj (hok r hr) (hok _ m1) (by
     rw [hrk]; show at_ c k = at_ c i; rw [hm.is i (by omega), hm.is k (by omega), h]))) (fun h => h5 (Pt.ok_inj (hok r hr) (hok _ m2) (by
     rw [hrk]; show at_ c k = at_ c ((i + 1) % c.length); rw [hl, hm.is _ hm1, hm.is k (by omega), h])))
   grind
 have c2 : ¬ (c.drop 1).any (belowB (c.getD 0 P0)) = true := by
   have : (c.drop 1).any (belowB (c.getD 0 P0)) = false := least_iff.2 fun k hk hkl => by
     rw [hm.is 0 (by omega), hm.is k (by omega), ltP2_mv]
     exact vb.least k hk (by omega)
   rw [this]; decide
 have c1 : ¬ canonL c = false := by
   have : canonL c = true := by
     unfold canonL
     exact List.all_eq_true.2 fun p hp => decide_eq_true (hok p hp)
   rw [this]; decide
 rw [chkC, if_neg (by omega), if_neg (by omega), if_neg c1, if_neg c2, if_neg c3]
end Go.Sx
end
section
set_option maxRecDepth 10000
set_option maxHeartbeats 2000000
namespace Go.Sx
open Go Go.Proofs
def mvP (v p : Pt) : Pt := PQ (p.v + v.v)
theorem mvP_mov (v : Pt) (b : List Pt) : Mov b (b.map (mvP v)) v.v := ⟨by simp, fun i hi => by
 have h := List.getElem?_eq_getElem hi
 rw [at_get h, at_get (p := mvP v b[i]) (by rw [List.getElem?_map, h]; rfl)]
 simp [mvP]⟩
theorem grt_sm' {l : List Pt} (h : grtL l = false) (p : Pt) (hp : p ∈ l) : SzV 12 p.v := by
 rw [grtL, Bool.or_eq_false_iff, Bool.or_eq_false_iff] at h
 have := List.any_eq_false.1 h.2.2 p hp
 exact (bigP_sm (k := 12) (by simpa using this)).sz (by decide)
theorem sqC_sz {a b : List Pt} (hsa : Lsm KS a) (hsb : Lsm KS b) : Sz 1000000 (sqC a b).1 := by
 have z0 : Sz 1000000 (0 : Rat) := (show Sz 1 (0 : Rat) from ⟨by decide, by decide⟩).le (by decide)
 unfold sqC
 split
 · exact z0
 split
 · exact z0
 show Sz 1000000 (lstQ (prsD a b))
 have h : ∀ r ∈ prsD a b, Sz 1000000 r := fun r hr => by
   obtain ⟨e, he, hr⟩ := List.mem_flatMap.1 hr
   obtain ⟨f, hf, rfl⟩ := List.mem_map.1 hr
   exact edD_sz hsa hsb he hf
 generalize prsD a b = L at h
 rcases L with _ | ⟨x, l⟩
 · exact z0
 · exact extQ_sz l x (h x (List.mem_cons_self ..)) (fun r hr => h r (List.mem_cons_of_mem _ hr))
theorem sqV_sz {a b : V} (ha : SzV 12 a) (hb : SzV 12 b) : Sz 1000 (a.sq b) := by
 have h := (ha.sub hb).le (m := 1000) (by decide)
 refine extQ_sz _ _ h.1 (fun r hr => ?_)
 simp only [List.mem_cons, List.not_mem_nil, or_false] at hr
 rcases hr with rfl | rfl | rfl
 · exact h.1.neg
 · exact h.2
 · exact h.2.neg
theorem law_DistanceMoving (A : Option Addr) (c : Nat) (a : List Pt) (hca : a.length ≤ c) (B : Option Addr) (d : Nat) (b : List Pt) (hcb : b.length ≤ d) (v : Pt) :
   FnM PP f_narrowslaw26_DistanceMoving [.slice A a.length c, .slice B b.length d, pV v] (facts [SlRes A (rowV ptC a), SlRes B (rowV ptC b)]) (retsV (.bool true)) := by
 refine FnS.of TBgood mixed h_narrowslaw26_DistanceMoving rfl rfl (Nat.le_of_ble_eq_true rfl) (by simp [SlRes.ok]) ?_
 intro w hw
 conv => whnf
 refine CallVC.v (r_Great13 A c a).enters (CallV.facts (r_Great13 A c a) rfl (fun R hR => by rw [List.mem_singleton.1 hR]; exact List.mem_cons_self ..)) ?_
 cases h1 : grtL a with
 | true =>
   conv => whnf
   refine CallVC.fn c_awake rfl ?_
   conv => whnf
   exact postV_one rfl
 | false =>
 conv => whnf
 refine CallVC.v (r_Great13 B d b).enters (CallV.facts (r_Great13 B d b) rfl (fun R hR => by rw [List.mem_singleton.1 hR]; exact List.mem_cons_of_mem _ (List.mem_cons_self ..))) ?_
 cases h2 : grtL b with
 | true =>
   conv => whnf
   refine CallVC.fn c_awake rfl ?_
   conv => whnf
   exact postV_one rfl
 | false =>
 have hsa := grt_sm h1
 have hsb := grt_sm h2
 conv => whnf
 have hg := fun A c (hc : 1 ≤ c) => c_great A c [v] (by simp)
 refine CallVC.v (hg none 1 (Nat.le_refl _)).enters (CallV.sl1 (x := .o (.s 27 0 1 1)) (fun z => [z]) (RdA.box rfl (Nat.le_refl _)) (List.mem_cons_self ..) (fun _ => rfl) hg) ?_
 rw [show [v].any (bigP 12) = bigP 12 v by simp]
 cases hgr : bigP 12 v with
 | true =>
   conv => whnf
   refine CallVC.fn c_awake rfl ?_
   conv => whnf
   exact postV_one rfl
 | false =>
 have hv12 : v.sm 12 := bigP_sm hgr
 have zv : SzV 12 v.v := hv12.sz (by decide)
 conv => whnf
 refine CallVC.v (c_cvCheck A c a hca hsa).enters (CallV.facts (c_cvCheck A c a hca hsa) rfl (fun R hR => by rw [List.mem_singleton.1 hR]; exact List.mem_cons_self ..)) ?_
 by_cases k1 : chkC a = 0
 rotate_left
 · conv => whnf
   refine br_true (bne_iff_ne.2 k1) ?_
   conv => whnf
   refine CallVC.fn c_awake rfl ?_
   conv => whnf
   exact postV_one rfl
 conv => whnf
 refine br_false (bne_eq_false_iff_eq.2 k1) ?_
 conv => whnf
 refine CallVC.v (c_cvCheck B d b hcb hsb).enters (CallV.facts (c_cvCheck B d b hcb hsb) rfl (fun R hR => by rw [List.mem_singleton.1 hR]; exact List.mem_cons_of_mem _ (List.mem_cons_self ..))) ?_
 by_cases k2 : chkC b = 0
 rotate_left
 · conv => whnf
   refine br_true (bne_iff_ne.2 k2) ?_
   conv => whnf
   refine CallVC.fn c_awake rfl ?_
   conv => whnf
   exact postV_one rfl
 conv => whnf
 refine br_false (bne_eq_false_iff_eq.2 k2) ?_
 have la := chkC_len k1
 have lb := chkC_len k2
 obtain ⟨m, hm⟩ : ∃ m, m = b.length := ⟨_, rfl⟩
 have hB : 0 < m → B.isSome = true := fun h => slres_some (facts_two hw).2 (by rw [rowV_length ptC_len]; omega)
 conv => whnf
 refine CallVC.v (c_dSquareConvex A B c d a b hca hcb hsa hsb).enters (CallV.facts (c_dSquareConvex A B c d a b hca hcb hsa hsb) rfl (fun R hR => hR)) ?_
 generalize hv1 : sqC a b = v1
 conv => whnf
 refine CallVC.v (c_dSquareConvex B A d c b a hcb hca hsb hsa).enters (CallV.facts (c_dSquareConvex B A d c b a hcb hca hsb hsa) rfl (fun R hR => by
   simp only [List.mem_cons, List.not_mem_nil, or_false] at hR
   rcases hR with rfl | rfl
   · exact List.mem_cons_of_mem _ (List.mem_cons_self ..)
   · exact List.mem_cons_self ..)) ?_
 rw [← sqC_comm a b k1 k2, hv1]
 conv => whnf
 refine CallVC.v (c_cvTouch A B c d a b hca hcb hsa hsb).enters (CallV.facts (c_cvTouch A B c d a b hca hcb hsa hsb) rfl (fun R hR => hR)) ?_
 generalize ht : tchL a b = t
 obtain ⟨t1, t2⟩ := t
 have ht2 : t2 = 0 := by rw [tchL, if_neg (fun h => h.elim (fun k => k k1) (fun k => k k2))] at ht; exact (congrArg Prod.snd ht).symm
 subst ht2
 have hx0 : v1.1 = 0 ↔ t1 = true := by
   have h3 : t1 = !(sepL a b).isSome := by rw [tchL, if_neg (fun h => h.elim (fun k => k k1) (fun k => k k2))] at ht; exact (congrArg Prod.fst ht).symm
   have h4 : (if (sepL a b).isSome = true then lstQ (prsD a b) else 0) = v1.1 := by rw [sqC_val k1 k2] at hv1; exact congrArg Prod.fst hv1
   rw [← h4, h3]
   cases hs : (sepL a b).isSome with
   | false => simp
   | true =>
     have := lst_pos (cvx_of k1) (cvx_of k2) hs
     rw [if_pos rfl]
     exact ⟨fun h => by grind, fun h => by cases h⟩
 obtain ⟨x, e⟩ := v1
 have hx0 : x = 0 ↔ t1 = true := hx0
 have he0 : e = 0 := by rw [sqC_val k1 k2] at hv1; exact (congrArg Prod.snd hv1).symm
 subst he0
 rw [← hm]
 conv => whnf
 refine sexec_loop (ι := Nat) (fun i => ⟨[(0, .o (.v (.slice A a.length c))), (5, .o (.p 5 0)), (7, .o (.p 7 0)), (8, .o (.v (.int .i64 0))), (9, .o (.p 9 0)), (10, .o (.v (.int .i64 0))), (11, .o (.v (.bool t1))), (12, .o (.v (.int .i64 0))), (13, .o (.w 14)), (59, .o (.v (.slice B m d))), (60, .o (.v (.int .i64 m))), (61, .o (.v (.int .i64 i)))], [(5, ptB v), (7, ratM (Q x)), (9, ratM (Q x)), (14, .own t_api_Point 6 i (rowV ptC ((b.take i).map (mvP v))))], [SlRes A (rowV ptC a), SlRes B (rowV ptC b)]⟩)
   (fun i => i ≤ m) (fun i => m - i) 0 (Nat.zero_le _)
   ((SLe.nil 13 14 t_api_Point 6 rfl rfl).trans (SLe.id ⟨rfl, rfl, rfl, rfl, rfl, rfl, rfl, rfl, rfl, rfl, rfl, rfl, trivial⟩ ⟨⟨_, rfl, .refl _⟩, ⟨_, rfl, .refl _⟩, ⟨_, rfl, .refl _⟩, ⟨_, rfl, .refl _⟩, trivial⟩ (fun R hR => hR))) ?_
 intro i hi
 conv => whnf
 refine br_split ?_ ?_
 · intro h
   have hi2 : i < m := by
     have : (i : Int) < (m : Int) := of_decide_eq_true h
     omega
   conv => whnf
   refine ⟨⟨by omega, by omega, hB (by omega)⟩, ?_⟩
   conv => whnf
   obtain ⟨p, hp⟩ : ∃ p, b[i]? = some p := ⟨_, List.getElem?_eq_getElem (by omega)⟩
   refine LoadVC.elem (A := B) (xs := b) (j := (i : Int)) ptC ptC_len (List.mem_cons_of_mem _ (List.mem_cons_self ..)) rfl (by rw [Int.toNat_natCast]; omega) (by decide) (fun h => by cases h) ?_
   intro p' hp'
   obtain rfl := elem_eq hp' hp
   conv => whnf
   refine CallVC.fn (c_vAdd p' v ((hsb p' (List.mem_of_getElem? hp)).le (by decide)) (hv12.le (by decide))) rfl ?_
   conv => whnf
   refine ⟨by show i + 1 ≤ 9223372036854775807 ∧ (i + 1) * 80 ≤ 140737488355328; omega, ?_⟩
   conv => whnf
   refine ⟨i + 1, by show i + 1 ≤ m; omega, by show m - (i + 1) < m - i; omega, SLe.mk (fun k => bif Nat.beq k 14 then 70 else k) ⟨rfl, rfl, rfl, rfl, rfl, rfl, rfl, rfl, rfl, rfl, rfl, some_wrap hi2 (by omega), trivial⟩ ⟨⟨_, rfl, .refl _⟩, ⟨_, rfl, .refl _⟩, ⟨_, rfl, .refl _⟩, ⟨_, rfl, ?_⟩, trivial⟩ rfl (fun R hR => hR)⟩
   rw [take_snoc' hp, List.map_append, rowV_append, ← app_eq]
   exact .refl _
 · intro h
   have hi2 : i = m := by
     have : ¬ (i : Int) < (m : Int) := of_decide_eq_false h
     omega
   rw [hi2, hm, List.take_length]
   have hM := mvP_mov v b
   have hok : ∀ p ∈ b.map (mvP v), p.ok := fun p hp => by obtain ⟨q, _, rfl⟩ := List.mem_map.1 hp; exact PQ_ok _
   have hsm : Lsm KS (b.map (mvP v)) := fun p hp => by
     obtain ⟨q, hq, rfl⟩ := List.mem_map.1 hp
     exact ((grt_sm' h2 q hq).add zv).q.le (by decide)
   have k3 := chk_mov k2 hM hok
   have hlen : (b.map (mvP v)).length = b.length := by simp
   have up := sqC_mov k1 k2 k3 hM
   have dn := sqC_mov k1 k3 k2 hM.back
   rw [absV_neg] at dn
   generalize b.map (mvP v) = mb at *
   have hc := fun A' c' B' d' (h1 : a.length ≤ c') (h2 : b.length ≤ d') => c_dSquareConvex A' B' c' d' a mb h1 (by rw [hlen]; exact h2) hsa hsm
   rw [hlen] at hc
   have zx := sqC_sz hsa hsb
   have zz := sqC_sz hsa hsm
   conv => whnf
   refine CallVC.v (hc none a.length none b.length (Nat.le_refl _) (Nat.le_refl _)).enters (CallV.sl2 (x := .o (.v (.slice A a.length c))) (y := .o (.w 14)) (fun x y => [x, y]) (RdA.val hca (List.mem_cons_self ..)) (RdA.own rfl) (List.mem_cons_self ..) (List.mem_cons_of_mem _ (List.mem_cons_self ..)) (fun _ => rfl) hc) ?_
   have hq : sqC a mb = ((sqC a mb).1, 0) := by rw [sqC_val k1 k3]
   rw [hv1] at up dn zx
   rw [hq]
   generalize (sqC a mb).1 = z at *
   conv => whnf
   refine DrawVC.quiet (by kernel_rfl) ?_
   conv => whnf
   refine CallVCd.fn (c_vOf 0 0 (by decide) (by decide) (by decide) (by decide)) rfl ?_
   conv => whnf
   have z0 : SzV 12 (⟨0, 0⟩ : V) := ⟨⟨by decide, by decide⟩, ⟨by decide, by decide⟩⟩
   have zn : Sz 1000 (absV v.v) := sqV_sz zv z0
   refine CallVCd.fn (c_vSquare v (PQ ⟨0, 0⟩) (hv12.le (by decide)) (z0.q.le (by decide))) rfl ?_
   rw [PQ_v, show v.v.sq ⟨0, 0⟩ = absV v.v from rfl]
   generalize absV v.v = n at *
   conv => whnf
   refine br_false (congrArg (!·) ((eqR (Q x) (Q x)).trans (decide_eq_true rfl))) ?_
   conv => whnf
   refine CallVC.fn (c_rSign (Q x) (zx.q.le (by decide))) rfl ?_
   rw [Q_v]
   conv => whnf
   refine br_false ?_ ?_
   · show (!((cmpQ x 0 == 0) == t1)) = false
     cases t1 with
     | true => rw [cmpQ_eq.2 (hx0.2 rfl)]; rfl
     | false =>
       have : cmpQ x 0 ≠ 0 := fun h => by have := hx0.1 (cmpQ_eq.1 h); cases this
       simp [this]
   conv => whnf
   refine DrawVC.quiet (by kernel_rfl) ?_
   conv => whnf
   refine CallVCd.fn (c_rSub (Q x) (Q z) (zx.q.le (by decide)) (zz.q.le (by decide))) rfl ?_
   rw [Q_v, Q_v]
   conv => whnf
   refine CallVCd.fn (c_rCompare (Q (x - z)) (Q n) ((zx.sub zz).q.le (by decide)) (zn.q.le (by decide))) rfl ?_
   rw [Q_v, Q_v]
   conv => whnf
   refine br_true (decide_eq_true (cmpQ_le.2 (by grind))) ?_
   conv => whnf
   refine CallVCd.fn (c_rSub (Q z) (Q x) (zz.q.le (by decide)) (zx.q.le (by decide))) rfl ?_
   rw [Q_v, Q_v]
   conv => whnf
   refine CallVCd.fn (c_rCompare (Q (z - x)) (Q n) ((zz.sub zx).q.le (by decide)) (zn.q.le (by decide))) rfl ?_
   rw [Q_v, Q_v]
   conv => whnf
   refine br_true (decide_eq_true (cmpQ_le.2 (by grind))) ?_
   conv => whnf
   refine CallVCd.fn c_awake rfl ?_
   conv => whnf
   exact postV_one rfl
end Go.Sx
end
section
/- What the arguments of the laws hold: numbers, points, segments; and the way from a law's walk to its statement. -/
set_option maxRecDepth 10000
set_option maxHeartbeats 2000000
namespace Go.Sx
open Go Go.Proofs Go.ChangeShapes Go.WideShapes Go.RowKit
section
variable {H : Type} {enc : TypeId × Value → H} {w : World} {base : Nat} {spare : Nat → Bool} {held : Bool} {fuel : Nat} {cs : List Value} {x : DataW H × List MemPlace}
theorem cells_bool : PP.cellsOf t_bool = 1 := by kernel_rfl
theorem cells_string : PP.cellsOf t_string = 1 := by kernel_rfl
theorem cells_Rat : PP.cellsOf t_api_Rat = 3 := by kernel_rfl
theorem cells_Point : PP.cellsOf t_api_Point = 6 := by kernel_rfl
theorem u_bool : PP.underlying t_bool = some .bool := (TBgood t_bool _ rfl).1.und
theorem u_string : PP.underlying t_string = some .string := (TBgood t_string _ rfl).1.und
theorem get_some {α : Type} {l : List α} {i : Nat} (h : i < l.length) : ∃ y, l[i]? = some y := ⟨_, List.getElem?_eq_getElem h⟩
theorem trod_rat (h : DataW.trod enc PP w base spare held fuel t_api_Rat cs = some x) : ∃ r : Raw, cs = ratC r := by
 obtain ⟨xs, n, _, _, hlen, hxl, hf⟩ := DataW.trod_struct (TBgood t_api_Rat _ rfl).1.und h
 rw [cells_Rat] at hlen
 match cs, hlen with
 | [a, b, c], _ =>
   obtain ⟨y0, h0⟩ := get_some (show 0 < xs.length by rw [hxl]; decide)
   obtain ⟨y1, h1⟩ := get_some (show 1 < xs.length by rw [hxl]; decide)
   obtain ⟨y2, h2⟩ := get_some (show 2 < xs.length by rw [hxl]; decide)
   have g0 : DataW.trod enc PP w base spare held n t_bool (([a, b, c].drop 0).take (PP.cellsOf t_bool)) = xs[0]? := hf 0 _ rfl
   have g1 : DataW.trod enc PP w base spare held n t_string (([a, b, c].drop 1).take (PP.cellsOf t_string)) = xs[1]? := hf 1 _ rfl
   have g2 : DataW.trod enc PP w base spare held n t_string (([a, b, c].drop 2).take (PP.cellsOf t_string)) = xs[2]? := hf 2 _ rfl
   rw [h0] at g0; rw [h1] at g1; rw [h2] at g2
   rw [cells_bool] at g0; rw [cells_string] at g1 g2
   obtain ⟨b0, e0, _⟩ := DataW.trod_bool u_bool g0
   obtain ⟨s1, e1, _⟩ := DataW.trod_string u_string g1
   obtain ⟨s2, e2, _⟩ := DataW.trod_string u_string g2
   cases e0; cases e1; cases e2
   exact ⟨⟨b0, s1.data.toList, s2.data.toList⟩, by rw [ratC, ← bs_surj, ← bs_surj]⟩
theorem trod_pt (h : DataW.trod enc PP w base spare held fuel t_api_Point cs = some x) : ∃ p : Pt, cs = ptC p := by
 obtain ⟨xs, n, _, _, hlen, hxl, hf⟩ := DataW.trod_struct (TBgood t_api_Point _ rfl).1.und h
 rw [cells_Point] at hlen
 match cs, hlen with
 | [a, b, c, a', b', c'], _ =>
   obtain ⟨y0, h0⟩ := get_some (show 0 < xs.length by rw [hxl]; decide)
   obtain ⟨y1, h1⟩ := get_some (show 1 < xs.length by rw [hxl]; decide)
   have g0 : DataW.trod enc PP w base spare held n t_api_Rat (([a, b, c, a', b', c'].drop 0).take (PP.cellsOf t_api_Rat)) = xs[0]? := hf 0 _ rfl
   have g1 : DataW.trod enc PP w base spare held n t_api_Rat (([a, b, c, a', b', c'].drop 3).take (PP.cellsOf t_api_Rat)) = xs[1]? := hf 1 _ rfl
   rw [h0] at g0; rw [h1] at g1
   rw [cells_Rat] at g0 g1
   obtain ⟨r, e0⟩ := trod_rat g0
   obtain ⟨s, e1⟩ := trod_rat g1
   exact ⟨⟨r, s⟩, by
     have e : [a, b, c, a', b', c'] = [a, b, c] ++ [a', b', c'] := rfl
     rw [e, show [a, b, c] = ratC r from e0, show [a', b', c'] = ratC s from e1]; rfl⟩
theorem open_pt {r : Reach} {b : Nat} {v : Value} {d : DataW H} {ps : List MemPlace} (hv : Value.okWide PP w r b t_api_Point v) (h : DataW.Trod enc PP w base spare held t_api_Point v d ps) : ∃ p : Pt, v = pV p := by
 obtain ⟨cs, rfl, _⟩ := okWide_struct (TBgood t_api_Point _ rfl).1.und hv
 obtain ⟨fuel, hf⟩ := h
 obtain ⟨r, hr⟩ := trod_pt hf
 exact ⟨r, by cases cs; exact congrArg (fun l : List Value => Value.agg ⟨l⟩) hr⟩
end
theorem laidOut : laidOutB PP = true := by kernel_rfl
theorem ownP : ownKnob PP.godebug = none := by kernel_rfl
end Go.Sx
end
section
/- Arguments of the laws that are slices. -/
set_option maxRecDepth 10000
set_option maxHeartbeats 2000000
namespace Go.Sx
open Go Go.Proofs Go.ChangeShapes Go.WideShapes Go.RowKit Go.Deep
section
variable {H : Type} {enc : TypeId × Value → H} {w : World} {base : Nat} {spare : Nat → Bool} {held : Bool} {fuel : Nat} {cs : List Value} {x : DataW H × List MemPlace}
theorem row_at {α : Type} {f : α → List Value} {es : Nat} (hf : ∀ x, (f x).length = es) (h0 : 0 < es) {l : List α} {j : Nat} {v : Value} (h : (rowV f l)[j]? = some v) : ∃ x, l[j / es]? = some x ∧ (f x)[j % es]? = some v := by
 have hj : j < l.length * es := by rw [← rowV_length hf]; exact (List.getElem?_eq_some_iff.1 h).1
 have hi : j / es < l.length := Nat.div_lt_of_lt_mul (by rw [Nat.mul_comm]; exact hj)
 refine ⟨l[j / es], List.getElem?_eq_getElem hi, ?_⟩
 rw [← rowV_part hf (List.getElem?_eq_getElem hi), List.getElem?_take, if_pos (Nat.mod_lt _ h0), List.getElem?_drop, Nat.mul_comm, Nat.div_add_mod]
 exact h
theorem open_row {α : Type} (f : α → List Value) {es : Nat} (hf : ∀ x, (f x).length = es) (h0 : 0 < es) {t e : TypeId} (ht : PP.underlying t = some (.slice e)) (hc : PP.cellsOf e = es)
   (htr : ∀ {n : Nat} {cs : List Value} {y : DataW H × List MemPlace}, DataW.trod enc PP w base spare held n e cs = some y → ∃ x, cs = f x) (h : DataW.trod enc PP w base spare held fuel t cs = some x) :
   ∃ (A : Option Addr) (c : Nat) (l : List α), cs = [.slice A l.length c] ∧ l.length ≤ c ∧ SlF A (rowV f l) w := by
 rcases open_slice ht h with ⟨h1, _⟩ | ⟨a, len, cap, m, n, D, Pl, hcs, hb, hl, hm, hmm, _, hall⟩
 · exact ⟨none, 0, [], h1, Nat.le_refl _, .inl rfl⟩
 have hlm : len ≤ m := by rw [hmm]; split <;> omega
 have key : ∀ k, k ≤ len → ∃ l : List α, l.length = k ∧ ∀ i x, l[i]? = some x → w.cells? base (a.add (i * es)) es = some (f x) := by
   intro k
   induction k with
   | zero => intro _; exact ⟨[], rfl, fun i x h => by simp at h⟩
   | succ k ih =>
     intro hk
     obtain ⟨l, hl1, hl2⟩ := ih (by omega)
     obtain ⟨cs', e1, e2⟩ := hall k (by omega)
     obtain ⟨x, rfl⟩ := htr e2
     rw [hc] at e1
     refine ⟨l ++ [x], by simp [hl1], fun i y hy => ?_⟩
     by_cases hi : i < l.length
     · rw [List.getElem?_append_left hi] at hy; exact hl2 i y hy
     · rw [List.getElem?_append_right (by omega)] at hy
       have : i - l.length = 0 := by
         by_cases h5 : i - l.length = 0
         · exact h5
         · rw [List.getElem?_eq_none (by simp; omega)] at hy; cases hy
       rw [this] at hy
       cases hy
       rw [show i = k by omega]; exact e1
 obtain ⟨l, hl1, hl2⟩ := key len (Nat.le_refl _)
 subst hl1
 refine ⟨some a, cap, l, hcs, hl, ?_⟩
 rcases l with _ | ⟨x0, l⟩
 · exact .inl rfl
 right
 have hcell : ∀ {i : Nat} {x : α} {r : Nat}, (x0 :: l)[i]? = some x → r < es → w.cell? ((a.add (i * es)).add r) = (f x)[r]? := fun hi hr => ((World.cells?_some (hl2 _ _ hi)).2.2 _ hr)
 have hspot : a.spot = none := by
   have h1 := hcell (i := 0) (x := x0) (r := 0) rfl h0
   rw [Nat.zero_mul] at h1
   have h2 : ∃ v, (f x0)[0]? = some v := ⟨_, List.getElem?_eq_getElem (by rw [hf]; exact h0)⟩
   obtain ⟨v, h2⟩ := h2
   rw [h2] at h1
   have h3 : w.cell? a = some v := h1
   unfold World.cell? at h3
   split at h3
   · split at h3
     · cases h3
     · rename_i hs
       simpa using hs
   · cases h3
 refine ⟨a.block, a.off, ?_, fun j v hj => ?_⟩
 · obtain ⟨b, o, s⟩ := a
   simp only at hspot
   rw [hspot]
 · obtain ⟨x, hx, hv⟩ := row_at hf h0 hj
   have h1 := hcell hx (Nat.mod_lt j h0)
   rw [hv] at h1
   rw [← h1]
   obtain ⟨b, o, s⟩ := a
   simp only at hspot
   subst hspot
   rw [Addr.add_lit, Addr.add_lit, Nat.add_assoc, Nat.mul_comm, Nat.div_add_mod]
theorem open_pts {r : Reach} {b : Nat} {v : Value} {d : DataW H} {ps : List MemPlace} (hv : Value.okWide PP w r b t_sl_api_Point v) (h : DataW.Trod enc PP w base spare held t_sl_api_Point v d ps) :
   ∃ (A : Option Addr) (c : Nat) (l : List Pt), v = .slice A l.length c ∧ l.length ≤ c ∧ SlF A (rowV ptC l) w := by
 obtain ⟨a, len, cap, rfl⟩ := okWide_slice (TBgood t_sl_api_Point _ rfl).1.und hv
 obtain ⟨fuel, hf⟩ := h
 obtain ⟨A, c, l, e, h1, h2⟩ := open_row ptC ptC_len (by decide) (TBgood t_sl_api_Point _ rfl).1.und cells_Point trod_pt hf
 exact ⟨A, c, l, List.head_eq_of_cons_eq e, h1, h2⟩
end
theorem factsTwo {A B : Option Addr} {xs ys : List Value} {w : World} (h : SlF A xs w) (k : SlF B ys w) : facts [SlRes A xs, SlRes B ys] w := fun R hR => by
 rcases List.mem_cons.1 hR with rfl | hR
 · exact h
 · rw [List.mem_singleton.1 hR]; exact k
end Go.Sx
end
section
/-
 The law DistanceMoving of the program answers true for every input and leaves its arguments as they were; no conditions.
-/
namespace Go.Proofs.YtlnandkcoliejaaGreat
open Go.Sx Go.ChangeShapes Go.WideShapes Go.ChangeAt Go.RowKit
set_option maxRecDepth 100000 in
theorem lifted_distanceMoving (os : Os) (started : os.Started) (H : Type) (enc : TypeId × Value → H) :
   ReturnsInHanded {} Tryz.checked os 8 .any (Rows.distanceMovingSpec.pre6 enc Tryz.prog Tryz.f8 Rows.distanceMovingRow.domain false) (Rows.distanceMovingSpec.post enc Tryz.prog Tryz.f8 false true false false) := by
 refine returnsInHanded_of_change (C := Tryz.checked) ownP started (by kernel_rfl) Tryz.func8
   (ChangeSpec.witness6 (enc := enc) (C := Tryz.checked) false ⟨#[], #[.slice none 0 0, .slice none 0 0, .agg #[.bool false, .string ByteArray.empty, .string ByteArray.empty, .bool false, .string ByteArray.empty, .string ByteArray.empty]], []⟩ 8 (by kernel_rfl) (by kernel_rfl) (by kernel_rfl) (by kernel_rfl)) ?_
 intro W base args ds gs before hval0 hW hcnd _
 have hval : ∀ (j : Nat) t v, Tryz.f8.params[j]? = some t → args[j]? = some v → Value.okWide Tryz.prog W .any base t v := hval0
 have hW' := hW
 obtain ⟨p, q, hA0, hV, rfl, hfz, hnd⟩ := hW
 have hA : DataW.TrodAll enc Tryz.prog W 0 (fun _ => true) true Tryz.f8.params.toList args.toList ds p := hA0
 rw [Tryz.params8] at hA hval
 obtain ⟨v0, vs0, d0, ds0, p0, q0, hargs, rfl, rfl, h0, r0⟩ := trodAll_cons hA
 obtain ⟨v1, vs1, d1, ds1, p1, q1, rfl, rfl, rfl, h1, r1⟩ := trodAll_cons r0
 obtain ⟨v2, vs2, d2, ds2, p2, q2, rfl, rfl, rfl, h2, r2⟩ := trodAll_cons r1
 obtain ⟨rfl, rfl, rfl⟩ := trodAll_nil r2
 obtain rfl : args = #[v0, v1, v2] := by cases args; simp_all
 obtain ⟨rfl, rfl⟩ := trodVars_none hV
 have lt0 : ∀ x ∈ p0, x.block < W.heap.size := by obtain ⟨m, hm⟩ := h0; exact DataW.trod_lt m _ _ _ hm
 have k0 : DataW.Trod enc PP W 0 (fun _ => true) true t_sl_api_Point v0 d0 p0 := h0
 obtain ⟨A0, c0, a0, rfl, l0, F0⟩ := open_pts (hval 0 _ v0 rfl rfl) k0
 have lt1 : ∀ x ∈ p1, x.block < W.heap.size := by obtain ⟨m, hm⟩ := h1; exact DataW.trod_lt m _ _ _ hm
 have k1 : DataW.Trod enc PP W 0 (fun _ => true) true t_sl_api_Point v1 d1 p1 := h1
 obtain ⟨A1, c1, a1, rfl, l1, F1⟩ := open_pts (hval 1 _ v1 rfl rfl) k1
 have lt2 : ∀ x ∈ p2, x.block < W.heap.size := by obtain ⟨m, hm⟩ := h2; exact DataW.trod_lt m _ _ _ hm
 have k2 : DataW.Trod enc PP W 0 (fun _ => true) true t_api_Point v2 d2 p2 := h2
 obtain ⟨a2, rfl⟩ := open_pt (hval 2 _ v2 rfl rfl) k2
 clear hA0 hval0
 refine ((law_DistanceMoving A0 c0 a0 l0 A1 c1 a1 l1 a2).calls W (factsTwo F0 F1)).mono fun e W' ⟨he, bel⟩ => ?_
 subst he
 exact ⟨_, rfl, _, _, _, [], _, [], hW', trodAll_mk1 (shut_bool u_bool _), (trodAll_cons_mk (Below.trod laidOut (by kernel_rfl) (of_decide_eq_true (by kernel_rfl)) k0 bel lt0) (trodAll_cons_mk (Below.trod laidOut (by kernel_rfl) (of_decide_eq_true (by kernel_rfl)) k1 bel lt1) (trodAll_cons_mk (Below.trod laidOut (by kernel_rfl) (of_decide_eq_true (by kernel_rfl)) k2 bel lt2) trodAll_mk0))), rfl, bel.frame _, fun h => by cases h⟩
theorem distanceMoving_holds : Rows.DistanceMovingSaid :=
 OpenClaim.holds_of_wide 8 Tryz.f8 rfl rfl rfl rfl rfl rfl rfl ⟨rfl, rfl, rfl, rfl, rfl⟩ rfl rfl rfl rfl rfl (by kernel_rfl) Tryz.func8 (by kernel_rfl)
   (of_decide_eq_true (by kernel_rfl)) (by unfold Func.isWrapper; first | (rw [if_pos (by decide +kernel)]; kernel_rfl) | (rw [if_neg (by decide +kernel)]; exact ⟨rfl, rfl⟩))
   (fun os started H enc _ => lifted_distanceMoving os started H enc)
end Go.Proofs.YtlnandkcoliejaaGreat
end
#print axioms Go.Proofs.YtlnandkcoliejaaGreat.distanceMoving_holds
