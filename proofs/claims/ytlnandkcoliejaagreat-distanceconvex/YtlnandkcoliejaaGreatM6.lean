/- A part of the proof of a law: the symbolic executor, contracts of functions of the program, plain laws. No conditions. -/
import Derived.Test.YtlnandkcoliejaaGreatM5
import Derived.Test.YtlnandkcoliejaaGreatM4
set_option linter.unusedVariables false
set_option linter.unusedSimpArgs false
set_option linter.unusedSectionVars false
section
set_option maxRecDepth 10000
set_option maxHeartbeats 2000000
namespace Go.Sx
open Go Go.Proofs
theorem box_at {P : Program} {E : Env} {st : SS} {w : World} {k : Nat} {xs : List Value} (hx : boxV st k = some xs) (he : ∀ mm, lk k st.me = some mm → MEok E w k mm) : ∃ b, E.β k = some b ∧ SlF (some ⟨b, 0, none⟩) xs w := by
 have hb : ∃ b ty, E.β k = some b ∧ w.heap[b]? = some (.cells xs.toArray ty (0, 0)) := by
   unfold boxV at hx
   split at hx
   · rename_i cs' ty hl
     obtain ⟨b, hb, hcells⟩ := he _ hl
     rw [allV_real E hx] at hcells
     exact ⟨b, ty, hb, hcells⟩
   · rename_i cs' ty hl
     cases hx
     obtain ⟨b, hb, hcells⟩ := he _ hl
     exact ⟨b, ty, hb, hcells⟩
   · cases hx
 obtain ⟨b, ty, hb, hcells⟩ := hb
 exact ⟨b, hb, .inr ⟨b, 0, rfl, fun j v hj => by rw [cell_of hcells, Nat.zero_add]; simpa using hj⟩⟩
theorem CallV.c2 {P : Program} {st : SS} {g g0 : FuncId} {args : List SV} {R : World → Ending → World → Prop} {k1 k2 : Nat} {x1 x2 : List Value} {re : List Res} (mk : Value → List Value) (h1 : boxV st k1 = some x1) (h2 : boxV st k2 = some x2) (hm : SV.o (.clo g0 [.l k1, .l k2]) ∈ args)
   (hargs : ∀ E, args.map (SV.real E) = mk ((SV.o (.clo g0 [.l k1, .l k2])).real E)) (hre : ∀ w, Sx.facts st.re w → Sx.facts re w) (h : ∀ a b, FnM P g (mk (cloV g0 [ptrV a, ptrV b])) (Sx.facts (SlRes (some a) x1 :: SlRes (some b) x2 :: re)) R) : CallV P g args st R := by
 intro E w he hw
 obtain ⟨b1, e1, f1⟩ := box_at (P := P) h1 (fun mm hl => he k1 mm (any_mem hm (by simp [SV.has, AV.has, CP.has])) hl)
 obtain ⟨b2, e2, f2⟩ := box_at (P := P) h2 (fun mm hl => he k2 mm (any_mem hm (by simp [SV.has, AV.has, CP.has])) hl)
 have hp : (SV.o (.clo g0 [.l k1, .l k2])).real E = cloV g0 [ptrV ⟨b1, 0, none⟩, ptrV ⟨b2, 0, none⟩] := by simp [SV.real, AV.real, CP.real, e1, e2, ptrV]
 rw [hargs, hp]
 refine (h ⟨b1, 0, none⟩ ⟨b2, 0, none⟩).calls w (fun R hR => ?_)
 rcases List.mem_cons.1 hR with rfl | hR
 · exact f1
 rcases List.mem_cons.1 hR with rfl | hR
 · exact f2
 · exact hre w hw R hR
theorem CallV.c3 {P : Program} {st : SS} {g g0 : FuncId} {args : List SV} {R : World → Ending → World → Prop} {k1 k2 k3 : Nat} {x1 x2 x3 : List Value} {re : List Res} (mk : Value → List Value) (h1 : boxV st k1 = some x1) (h2 : boxV st k2 = some x2) (h3 : boxV st k3 = some x3) (hm : SV.o (.clo g0 [.l k1, .l k2, .l k3]) ∈ args)
   (hargs : ∀ E, args.map (SV.real E) = mk ((SV.o (.clo g0 [.l k1, .l k2, .l k3])).real E)) (hre : ∀ w, Sx.facts st.re w → Sx.facts re w) (h : ∀ a b c, FnM P g (mk (cloV g0 [ptrV a, ptrV b, ptrV c])) (Sx.facts (SlRes (some a) x1 :: SlRes (some b) x2 :: SlRes (some c) x3 :: re)) R) : CallV P g args st R := by
 intro E w he hw
 obtain ⟨b1, e1, f1⟩ := box_at (P := P) h1 (fun mm hl => he k1 mm (any_mem hm (by simp [SV.has, AV.has, CP.has])) hl)
 obtain ⟨b2, e2, f2⟩ := box_at (P := P) h2 (fun mm hl => he k2 mm (any_mem hm (by simp [SV.has, AV.has, CP.has])) hl)
 obtain ⟨b3, e3, f3⟩ := box_at (P := P) h3 (fun mm hl => he k3 mm (any_mem hm (by simp [SV.has, AV.has, CP.has])) hl)
 have hp : (SV.o (.clo g0 [.l k1, .l k2, .l k3])).real E = cloV g0 [ptrV ⟨b1, 0, none⟩, ptrV ⟨b2, 0, none⟩, ptrV ⟨b3, 0, none⟩] := by simp [SV.real, AV.real, CP.real, e1, e2, e3, ptrV]
 rw [hargs, hp]
 refine (h ⟨b1, 0, none⟩ ⟨b2, 0, none⟩ ⟨b3, 0, none⟩).calls w (fun R hR => ?_)
 rcases List.mem_cons.1 hR with rfl | hR
 · exact f1
 rcases List.mem_cons.1 hR with rfl | hR
 · exact f2
 rcases List.mem_cons.1 hR with rfl | hR
 · exact f3
 · exact hre w hw R hR
theorem c_IndexFuncQ (A : Option Addr) (c : Nat) (l : List Pt) (g : FuncId) (caps : List Value) (f : Pt → Bool) (re : List Res) (hl : l.length ≤ 1000000) (hok : ∀ R ∈ re, R.ok)
   (hf : ∀ x ∈ l, FnM PP g (pV x :: caps) (facts re) (retsV (.bool (f x)))) :
   FnM PP f_slices_IndexFunc_sl_api_Point_api_Point [.slice A l.length c, cloV g caps] (facts (SlRes A (rowV ptC l) :: re)) (retsV (.int .i64 (idxF f 0 l))) := by
 refine FnS.of TBgood mixed h_slices_IndexFunc_sl_api_Point_api_Point rfl rfl (Nat.le_of_ble_eq_true rfl) (fun R hR => by rcases List.mem_cons.1 hR with rfl | hR; exact SlRes.ok _ _; exact hok R hR) ?_
 intro w hw
 obtain ⟨n, hn⟩ : ∃ n, n = l.length := ⟨_, rfl⟩
 have hA : 0 < n → A.isSome = true := fun h => slres_some (hw _ (List.mem_cons_self ..)) (by rw [rowV_length ptC_len]; omega)
 rw [← hn] at hl ⊢
 conv => whnf
 refine sexec_loop (ι := Nat) (fun i => ⟨[(0, .o (.v (.slice A n c))), (1, .o (.v (cloV g caps))), (6, .o (.v (.slice A n c))), (7, .o (.v (.int .i64 n))), (8, .o (.v (.int .i64 i)))], [], SlRes A (rowV ptC l) :: re⟩)
   (fun i => i ≤ n ∧ idxF f 0 l = idxF f i (l.drop i)) (fun i => n - i) 0 ⟨Nat.zero_le _, rfl⟩
   (SLe.id ⟨rfl, rfl, rfl, rfl, rfl, trivial⟩ trivial (fun R hR => hR)) ?_
 rintro i ⟨hi, hx⟩
 conv => whnf
 refine br_split ?_ ?_
 · intro h
   have hi2 : i < n := by
     have : (i : Int) < (n : Int) := of_decide_eq_true h
     omega
   conv => whnf
   refine ⟨⟨by omega, by omega, hA (by omega)⟩, ?_⟩
   conv => whnf
   obtain ⟨p, hp⟩ : ∃ p, l[i]? = some p := ⟨_, List.getElem?_eq_getElem (by omega)⟩
   refine LoadVC.elem (A := A) (xs := l) (j := (i : Int)) ptC ptC_len (List.mem_cons_self ..) rfl (by rw [Int.toNat_natCast]; omega) (by decide) (fun h => by cases h) ?_
   intro p' hp'
   obtain rfl := elem_eq hp' hp
   conv => whnf
   refine CallVC.v (hf p' (List.mem_of_getElem? hp)).enters (CallV.facts (hf p' (List.mem_of_getElem? hp)) rfl (fun R hR => List.mem_cons_of_mem _ hR)) ?_
   have hdrop : l.drop i = p' :: l.drop (i + 1) := by
     obtain ⟨h1, h2⟩ := List.getElem?_eq_some_iff.1 hp
     rw [← h2]; exact List.drop_eq_getElem_cons h1
   rw [hdrop] at hx
   simp only [idxF] at hx
   cases hfp : f p' with
   | true =>
     rw [hfp, if_pos rfl] at hx
     conv => whnf
     refine postV_one ?_
     rw [hx]
   | false =>
     rw [hfp, if_neg (by simp)] at hx
     conv => whnf
     exact ⟨i + 1, ⟨by omega, hx⟩, by omega, SLe.id ⟨rfl, rfl, rfl, rfl, some_wrap (n := 1000001) (by omega) (by omega), trivial⟩ trivial (fun R hR => hR)⟩
 · intro h
   have hi2 : i = n := by
     have : ¬ (i : Int) < (n : Int) := of_decide_eq_false h
     omega
   rw [hi2, hn, List.drop_length] at hx
   conv => whnf
   refine postV_one ?_
   rw [hx]; rfl
theorem c_ContainsFuncQ (A : Option Addr) (c : Nat) (l : List Pt) (g : FuncId) (caps : List Value) (f : Pt → Bool) (re : List Res) (hl : l.length ≤ 1000000) (hok : ∀ R ∈ re, R.ok)
   (hf : ∀ x ∈ l, FnM PP g (pV x :: caps) (facts re) (retsV (.bool (f x)))) :
   FnM PP f_slices_ContainsFunc_sl_api_Point_api_Point [.slice A l.length c, cloV g caps] (facts (SlRes A (rowV ptC l) :: re)) (retsV (.bool (l.any f))) := by
 refine FnS.of TBgood mixed h_slices_ContainsFunc_sl_api_Point_api_Point rfl rfl (Nat.le_of_ble_eq_true rfl) (fun R hR => by rcases List.mem_cons.1 hR with rfl | hR; exact SlRes.ok _ _; exact hok R hR) ?_
 intro w hw
 conv => whnf
 refine CallVC.v (c_IndexFuncQ A c l g caps f re hl hok hf).enters (CallV.facts (c_IndexFuncQ A c l g caps f re hl hok hf) rfl (fun R hR => hR)) ?_
 conv => whnf
 refine postV_one ?_
 show Value.bool (decide (idxF f 0 l ≥ 0)) = _
 rw [idxF_any]
theorem c_cvEdges1 (A : Option Addr) (c : Nat) (a : Addr) (l : List Pt) (hl : l.length ≤ 1000000) :
   SeqC PP f_convex_edges_1 [ptrV a] [SlRes (some a) [.slice A l.length c], SlRes A (rowV ptC l)] (edgeXs l) := by
 refine SeqC.of TBgood mixed h_convex_edges_1 rfl rfl (Nat.le_of_ble_eq_true rfl) (by simp [SlRes.ok]) ?_
 intro yl W B R X hW hy
 rw [edgeXs_len] at hy ⊢
 refine WPS.of TBgood mixed ?_
 obtain ⟨n, hn⟩ : ∃ n, n = l.length := ⟨_, rfl⟩
 have hA : 0 < n → A.isSome = true := fun h => slres_some (hW (SlRes A (rowV ptC l)) (by simp)) (by rw [rowV_length ptC_len]; omega)
 rw [← hn] at hl hy ⊢
 conv => whnf
 refine LoadVC.row (off := 0) (List.mem_cons_of_mem _ (List.mem_cons_self ..)) rfl (Nat.le_refl _) (by decide) (fun _ => rfl) ?_
 conv => whnf
 have hre : ∀ i Z, ∀ S ∈ [SlRes (some a) [Value.slice A n c], SlRes A (rowV ptC l)], S ∈ R i Z :: [SlRes (some a) [Value.slice A n c], SlRes A (rowV ptC l)] := fun i Z S h => List.mem_cons_of_mem _ h
 refine sexec_loop (ι := Nat × List Nat) (fun ⟨i, Z⟩ => ⟨[(0, .o (.v (yieldV yl))), (1, .o (.v (ptrV a))), (5, .o (.v (.slice A n c))), (6, .o (.v (.int .i64 n))), (7, .o (.v (.int .i64 i)))], [], R i Z :: [SlRes (some a) [.slice A n c], SlRes A (rowV ptC l)]⟩)
   (fun ⟨i, Z⟩ => i ≤ n) (fun ⟨i, Z⟩ => n - i) (0, []) (Nat.zero_le _) (SLe.id ⟨rfl, rfl, rfl, rfl, rfl, trivial⟩ trivial (fun R hR => hR)) ?_
 rintro ⟨i, Z⟩ hi
 conv => whnf
 refine br_split ?_ ?_
 · intro h
   have hi2 : i < n := by
     have : (i : Int) < (n : Int) := of_decide_eq_true h
     omega
   conv => whnf
   refine ⟨⟨by omega, by omega, hA (by omega)⟩, ?_⟩
   conv => whnf
   obtain ⟨p, hp⟩ : ∃ p, p = l[i]'(by omega) := ⟨_, rfl⟩
   have hpl : l[i]? = some p := by rw [hp]; exact List.getElem?_eq_getElem _
   refine LoadVC.elem (A := A) (xs := l) (j := (i : Int)) ptC ptC_len (hre _ _ _ (by simp)) rfl (by rw [Int.toNat_natCast]; omega) (by decide) (fun h => by cases h) ?_
   intro p' hp'
   obtain rfl : p' = p := by rw [Int.toNat_natCast, hpl] at hp'; exact (Option.some.inj hp').symm
   conv => whnf
   refine DrawVC.at 10 (by kernel_rfl) ?_
   conv => whnf
   refine LoadVC.row (off := 0) (hre _ _ _ (List.mem_cons_self ..)) rfl (Nat.le_refl _) (by decide) (fun _ => rfl) ?_
   conv => whnf
   refine LoadVC.row (off := 0) (hre _ _ _ (List.mem_cons_self ..)) rfl (Nat.le_refl _) (by decide) (fun _ => rfl) ?_
   conv => whnf
   refine ⟨by omega, ?_⟩
   have hw : (IntKind.i64.wrap ((i : Int) + 1)).tmod (n : Int) = (((i + 1) % n : Nat) : Int) := by
     rw [wrap_i64 (by omega) (by omega), Int.tmod_eq_emod_of_nonneg (by omega)]; rfl
   have hmod : (i + 1) % n < n := Nat.mod_lt _ (by omega)
   conv => whnf
   refine ⟨⟨?_, ?_, hA (by omega)⟩, ?_⟩
   · show 0 ≤ (IntKind.i64.wrap ((i : Int) + 1)).tmod (n : Int)
     rw [hw]; omega
   · show (IntKind.i64.wrap ((i : Int) + 1)).tmod (n : Int) < (n : Int)
     rw [hw]; omega
   conv => whnf
   obtain ⟨q, hq⟩ : ∃ q, q = l[(i + 1) % n]'(by omega) := ⟨_, rfl⟩
   have hql : l[(i + 1) % n]? = some q := by rw [hq]; exact List.getElem?_eq_getElem _
   refine LoadVC.elem (A := A) (xs := l) (j := (((i + 1) % n : Nat) : Int)) ptC ptC_len (hre _ _ _ (by simp)) ?_ (by rw [Int.toNat_natCast]; omega) (by decide) (fun h => by cases h) ?_
   · show A.map (fun x => x.add (((IntKind.i64.wrap ((i : Int) + 1)).tmod (n : Int)).toNat * 6)) = _
     rw [hw]; rfl
   intro q' hq'
   obtain rfl : q' = q := by rw [Int.toNat_natCast, hql] at hq'; exact (Option.some.inj hq').symm
   conv => whnf
   have hxi : (edgeXs l).getD i [] = [pV p', pV q'] := edgeXs_get hpl (by rw [← hn]; exact hql)
   refine hy i Z _ _ _ hi2 rfl (by rw [hxi]; rfl) (fun Z' => ?_) (fun Z' => ?_)
   · conv => whnf
     refine ⟨(i + 1, Z'), by show i + 1 ≤ n; omega, by show n - (i + 1) < n - i; omega, SLe.id ⟨rfl, rfl, rfl, rfl, ?_, trivial⟩ trivial (fun S hS => hS)⟩
     show some (SV.o (.v (.int .i64 (IntKind.i64.wrap ((i : Int) + 1))))) = some (SV.o (.v (.int .i64 ((i + 1 : Nat) : Int))))
     rw [wrap_i64 (by omega) (by omega)]; rfl
   · conv => whnf
     exact .inr ⟨Z', List.mem_cons_self ..⟩
 · intro h
   have hi2 : i = n := by
     have : ¬ (i : Int) < (n : Int) := of_decide_eq_false h
     have : i ≤ n := hi
     omega
   conv => whnf
   exact .inl ⟨Z, by rw [hi2]; exact List.mem_cons_self ..⟩
theorem c_cvEdges (A : Option Addr) (c : Nat) (n : Nat) : FnM PP f_convex_edges [.slice A n c] (facts []) (retsF f_convex_edges_1 [[.slice A n c]]) := by
 refine FnF.of TBgood mixed h_convex_edges rfl rfl (Nat.le_of_ble_eq_true rfl) (by simp) ?_
 intro w hw
 conv => whnf
 exact postF_one rfl
theorem c_cvCanonical1 (p : Pt) (hp : p.sm KK) : Fn PP f_convex_canonical_1 [pV p] (.bool (!decide p.ok)) := by
 refine Fn.of TBgood mixed h_convex_canonical_1 rfl rfl (Nat.le_of_ble_eq_true rfl) ?_
 intro w
 conv => whnf
 refine CallVC.fn (c_vCheck p hp) rfl ?_
 by_cases h : p.ok
 · rw [if_pos h]
   conv => whnf
   refine postV_one ?_
   rw [decide_eq_true h]; rfl
 · rw [if_neg h]
   conv => whnf
   refine postV_one ?_
   rw [decide_eq_false h]; rfl
theorem c_cvCanonical (A : Option Addr) (c : Nat) (l : List Pt) (hl : l.length ≤ 1000000) (hs : Lsm KK l) :
   FnM PP f_convex_canonical [.slice A l.length c] (facts [SlRes A (rowV ptC l)]) (retsV (.bool (canonL l))) := by
 refine FnS.of TBgood mixed h_convex_canonical rfl rfl (Nat.le_of_ble_eq_true rfl) (by simp [SlRes.ok]) ?_
 intro w hw
 conv => whnf
 have h := c_ContainsFuncP A c l f_convex_canonical_1 (fun p => !decide p.ok) hl (fun x hx => c_cvCanonical1 x (hs x hx))
 refine CallVC.v h.enters (CallV.facts h rfl (fun R hR => hR)) ?_
 conv => whnf
 refine postV_one ?_
 rw [← canonL_any]
end Go.Sx
end
section
set_option maxRecDepth 10000
set_option maxHeartbeats 2000000
namespace Go.Sx
open Go Go.Proofs
theorem bs_nil_iff {l : List UInt8} : ((bs l).toList == ByteArray.toList ⟨#[]⟩) = decide (l = []) := by
 rw [bs_toList, show ByteArray.toList ⟨#[]⟩ = [] from bs_toList []]
 cases l <;> simp
theorem r_trim (l : List UInt8) : Fn PP f_narrowsref01_trim [.string (bs l)] (.string (bs (stripL l))) := by
 refine Fn.of TBgood mixed h_narrowsref01_trim rfl rfl (Nat.le_of_ble_eq_true rfl) ?_
 intro w
 conv => whnf
 refine sexec_loop (ι := List UInt8) (fun k => ⟨[(0, .o (.v (.string (bs k))))], [], []⟩) (fun k => stripL k = stripL l) (fun k => k.length) l rfl (SLe.id ⟨rfl, trivial⟩ trivial (by simp)) ?_
 intro k hk
 conv => whnf
 refine br_split ?_ ?_
 · intro h
   rcases k with _ | ⟨x, r⟩
   · exact absurd (of_decide_eq_true h) (by decide)
   conv => whnf
   refine ⟨by simp [bs_size], ?_⟩
   conv => whnf
   refine br_split ?_ ?_
   · intro h2
     conv => whnf
     refine ⟨by simp [bs_size]; omega, ?_⟩
     conv => whnf
     refine ⟨r, ?_, by simp, ?_⟩
     · rw [← hk, stripL, if_pos]
       have h3 : x.toNat = 0 := by simpa [sb_bs] using h2
       exact UInt8.toNat_inj.1 h3
     · refine SLe.id ⟨?_, trivial⟩ trivial (by simp)
       show some _ = some _
       simp [SV.ren, AV.ren, bs_extract, bs_size]
   · intro h2
     conv => whnf
     refine postV_one ?_
     show Value.string (bs (x :: r)) = _
     rw [← hk, stripL, if_neg]
     intro h3
     subst h3
     simp [sb_bs] at h2
 · intro h
   conv => whnf
   refine postV_one ?_
   have : k = [] := by
     have h2 : ¬ ((k.length : Nat) : Int) > 0 := of_decide_eq_false h
     exact List.length_eq_zero_iff.1 (by omega)
   subst this
   show Value.string (bs []) = _
   rw [← hk]; rfl
theorem sg_neg {b : Bool} {m : Nat} (h : 0 < m) : decide (sg b m < 0) = b := by
 unfold sg; cases b <;> simp <;> omega
theorem nat_pos_head {x : UInt8} {r : List UInt8} (h : x ≠ 0) : 0 < nat (x :: r) := by
 rw [nat_cons]
 have h1 : 0 < x.toNat := by
   rcases Nat.eq_zero_or_pos x.toNat with h2 | h2
   · exact absurd (UInt8.toNat_inj.1 h2) h
   · exact h2
 have := Nat.mul_pos h1 (Nat.pow_pos (n := r.length) (show 0 < 256 by decide))
 omega
theorem r_Canonical (b : Bool) (l : List UInt8) : Fn PP f_narrowsref01_Canonical [intV b (bs l)] (zV (sg b (nat l))) := by
 refine Fn.of TBgood mixed h_narrowsref01_Canonical rfl rfl (Nat.le_of_ble_eq_true rfl) ?_
 intro w
 have hz : zV (sg b (nat l)) = intV (decide (sg b (nat l) < 0)) (bs (bytes (nat l))) := by rw [zV, sg_natAbs]
 have slow : stripL l = bytes (nat l) := stripL_eq l
 conv => whnf
 refine br_split ?_ ?_
 · intro h
   rcases l with _ | ⟨x, r⟩
   · exact absurd (of_decide_eq_true h) (by decide)
   conv => whnf
   refine ⟨by simp [bs_size], ?_⟩
   conv => whnf
   refine br_split ?_ ?_
   · intro h2
     have hx : x ≠ 0 := by
       intro h3
       subst h3
       simp [sb_bs] at h2
     conv => whnf
     refine postV_one ?_
     rw [hz, sg_neg (nat_pos_head hx), bytes_nat (by simpa using hx)]
   · intro h2
     conv => whnf
     refine CallVC.fn (r_trim (x :: r)) rfl ?_
     rw [slow]
     cases b with
     | false =>
       conv => whnf
       refine postV_one ?_
       rw [hz, show decide (sg false (nat (x :: r)) < 0) = false from decide_eq_false (by unfold sg; simp)]
     | true =>
       conv => whnf
       refine postV_one ?_
       rw [hz]
       show intV (!((bs (bytes (nat (x :: r)))).toList == ByteArray.toList ⟨#[]⟩)) _ = _
       rw [bs_nil_iff]
       rcases Nat.eq_zero_or_pos (nat (x :: r)) with h0 | h0
       · rw [h0, bytes_zero]; rfl
       · rw [sg_neg h0, decide_eq_false (fun h => by have := bytes_nil.1 h; omega)]; rfl
 · intro h
   have hl : l = [] := by
     have h2 : ¬ ((l.length : Nat) : Int) > 0 := of_decide_eq_false h
     exact List.length_eq_zero_iff.1 (by omega)
   conv => whnf
   refine CallVC.fn (r_trim l) rfl ?_
   rw [slow]
   cases b with
   | false =>
     conv => whnf
     refine postV_one ?_
     rw [hz, show decide (sg false (nat l) < 0) = false from decide_eq_false (by unfold sg; simp)]
   | true =>
     conv => whnf
     refine postV_one ?_
     rw [hz]
     show intV (!((bs (bytes (nat l))).toList == ByteArray.toList ⟨#[]⟩)) _ = _
     rw [bs_nil_iff]
     rcases Nat.eq_zero_or_pos (nat l) with h0 | h0
     · rw [h0, bytes_zero]; rfl
     · rw [sg_neg h0, decide_eq_false (fun h => by have := bytes_nil.1 h; omega)]; rfl
theorem r_small (l : List UInt8) (h1 : l.length ≤ 7) : Fn PP f_narrowsref01_small [.string (bs l)] (.int .i64 (nat l)) := by
 refine Fn.of TBgood mixed h_narrowsref01_small rfl rfl (Nat.le_of_ble_eq_true rfl) ?_
 intro w
 conv => whnf
 refine sexec_loop (ι := Nat) (fun i => ⟨[(0, .o (.v (.string (bs l)))), (3, .o (.v (.int .i64 (nat (l.take i))))), (4, .o (.v (.int .i64 i)))], [], []⟩)
   (fun i => i ≤ l.length) (fun i => l.length - i) 0 (Nat.zero_le _) (SLe.id ⟨rfl, rfl, rfl, trivial⟩ trivial (fun R hR => hR)) ?_
 intro i hi
 conv => whnf
 refine br_split ?_ ?_
 · intro h2
   have hi2 : i < l.length := by
     have : (i : Int) < (l.length : Int) := of_decide_eq_true h2
     omega
   conv => whnf
   refine ⟨by decide, ?_⟩
   conv => whnf
   refine ⟨⟨by omega, by show (i : Int) < (l.length : Int); omega⟩, ?_⟩
   conv => whnf
   obtain ⟨x, hx⟩ : ∃ x, x = l[i] := ⟨_, rfl⟩
   have hg : l.getD i 0 = x := by rw [hx, List.getD_eq_getElem?_getD, List.getElem?_eq_getElem hi2]; rfl
   have htk : l.take (i + 1) = l.take i ++ [x] := by rw [List.take_succ_eq_append_getElem hi2, hx]
   have hnat : nat (l.take (i + 1)) = x.toNat + 256 * nat (l.take i) := by rw [htk, nat_snoc]
   have hnb : nat (l.take i) < 256 ^ 6 := nat_bound (by rw [List.length_take]; omega)
   have hxb : x.toNat < 256 := x.toBitVec.isLt
   have hor : IntKind.i64.wrap (BitVec.toNat (w := 64) (BitVec.ofInt 64 (IntKind.i64.wrap ((nat (l.take i) : Int) * 2 ^ min (8 : Int).toNat IntKind.i64.bits)) ||| BitVec.ofInt 64 (IntKind.i64.wrap (sb (bs l) (i : Int)))) : Int) = (nat (l.take (i + 1)) : Int) := by
     have e1 : IntKind.i64.wrap ((nat (l.take i) : Int) * 2 ^ min (8 : Int).toNat IntKind.i64.bits) = ((nat (l.take i) * 2 ^ 8 : Nat) : Int) := by
       rw [show min (8 : Int).toNat IntKind.i64.bits = 8 from rfl, wrap_i64 (by omega) (by omega)]; omega
     have e2 : IntKind.i64.wrap (sb (bs l) (i : Int)) = (x.toNat : Int) := by
       rw [sb_bs, Int.toNat_natCast, hg, wrap_i64 (by omega) (by omega)]
     rw [e1, e2, BitVec.toNat_or, ofInt64_toNat (by omega), ofInt64_toNat (by omega), Nat.mul_comm, ← Nat.two_pow_add_eq_or_of_lt (show x.toNat < 2 ^ 8 by omega), hnat]
     rw [wrap_i64 (by omega) (by omega)]; omega
   refine ⟨i + 1, by omega, by omega, SLe.id ⟨rfl, ?_, ?_, trivial⟩ trivial (fun R hR => hR)⟩
   · show some (SV.o (.v (.int .i64 (IntKind.i64.wrap (BitVec.toNat (w := 64) (BitVec.ofInt 64 _ ||| BitVec.ofInt 64 _) : Int))))) = some (SV.o (.v (.int .i64 (nat (l.take (i + 1)) : Int))))
     rw [hor]
   · show some (SV.o (.v (.int _ (IntKind.i64.wrap ((i : Int) + 1))))) = some (SV.o (.v (.int _ ((i + 1 : Nat) : Int))))
     rw [wrap_i64 (by omega) (by omega)]; rfl
 · intro h2
   have hi2 : i = l.length := by
     have : ¬ (i : Int) < (l.length : Int) := of_decide_eq_false h2
     omega
   subst hi2
   rw [List.take_length]
   conv => whnf
   exact postV_one rfl
theorem neg_wrap {n : Nat} (h : n < 9223372036854775808) : IntKind.i64.wrap (0 - (n : Int)) = -(n : Int) := by rw [wrap_i64 (by omega) (by omega)]; omega
theorem nat7 {l : List UInt8} (h : l.length ≤ 7) : nat l < 72057594037927936 := by
 have := nat_bound h
 simpa using this
theorem r_value (b : Bool) (l : List UInt8) (h1 : l.length ≤ 7) : Fn PP f_narrowsref01_value [intV b (bs l)] (.int .i64 (sg b (nat l))) := by
 refine Fn.of TBgood mixed h_narrowsref01_value rfl rfl (Nat.le_of_ble_eq_true rfl) ?_
 intro w
 have hn := nat7 h1
 cases b with
 | true =>
   conv => whnf
   refine CallVC.fn (r_small l h1) rfl ?_
   conv => whnf
   refine postV_one ?_
   rw [neg_wrap (by omega)]; rfl
 | false =>
   conv => whnf
   refine CallVC.fn (r_small l h1) rfl ?_
   conv => whnf
   exact postV_one rfl
theorem byte_one {n : Nat} (h0 : 0 < n) (h : n < 256) : bytes n = [UInt8.ofNat n] := by
 rw [bytes_step h0, show n / 256 = 0 by omega, bytes_zero, Nat.mod_eq_of_lt h]; rfl
theorem r_mag (n : Nat) (hn : n < 9223372036854775808) : Fn PP f_narrowsref01_mag [.int .i64 n] (.string (bs (bytes n))) := by
 refine Fn.of TBgood mixed h_narrowsref01_mag rfl rfl (Nat.le_of_ble_eq_true rfl) ?_
 intro w
 conv => whnf
 refine br_split ?_ ?_
 · intro h
   have hn2 : n < 256 := by
     have : (n : Int) < 256 := of_decide_eq_true h
     omega
   conv => whnf
   refine br_split ?_ ?_
   · intro h0
     have hn0 : n = 0 := by
       have : (n : Int) = 0 := eq_of_beq h0
       omega
     subst hn0
     conv => whnf
     refine postV_one ?_
     rw [bytes_zero]; rfl
   · intro h0
     have hn0 : 0 < n := by
       have : ¬ (n : Int) = 0 := ne_of_beq_false h0
       omega
     conv => whnf
     have hw : IntKind.u8.wrap (n : Int) = ((UInt8.ofNat n).toNat : Int) := by
       rw [IntKind.wrap_u8]
       have : (UInt8.ofNat n).toNat = n := by simp; omega
       rw [this]; omega
     refine ⟨[UInt8.ofNat n], rfl, ?_, ?_⟩
     · show [Value.int .u8 (IntKind.u8.wrap (n : Int))] = _
       rw [hw]; rfl
     conv => whnf
     refine postV_one ?_
     rw [byte_one hn0 hn2]; rfl
 intro hbig
 conv => whnf
 refine sexec_loop (ι := Nat × Nat × List UInt8) (fun ⟨i, c, L⟩ => ⟨[(0, .o (.v (.int .i64 c))), (3, .o (.p 3 0)), (4, .o (.v (.int .i64 i)))], [(3, .sym (rowV u8c (List.replicate i 0 ++ L)) t_ar8_uint8)], []⟩)
   (fun ⟨i, c, L⟩ => i + L.length = 8 ∧ c < 256 ^ i ∧ bytes n = bytes c ++ L) (fun ⟨i, c, L⟩ => c) (8, n, []) ⟨rfl, by omega, by simp⟩ (SLe.id ⟨rfl, rfl, rfl, trivial⟩ ⟨⟨_, rfl, .sym _ rfl⟩, trivial⟩ (fun R hR => hR)) ?_
 rintro ⟨i, c, L⟩ ⟨hL, hc, hb⟩
 conv => whnf
 refine br_split ?_ ?_
 · intro h
   have hc0 : 0 < c := by
     have : (c : Int) > 0 := of_decide_eq_true h
     omega
   conv => whnf
   have hi0 : 0 < i := by
     rcases Nat.eq_zero_or_pos i with h2 | h2
     · rw [h2] at hc; omega
     · exact h2
   obtain ⟨j, rfl⟩ : ∃ j, i = j + 1 := ⟨i - 1, by omega⟩
   have hij : IntKind.i64.wrap (((j + 1 : Nat) : Int) - 1) = (j : Int) := by rw [wrap_i64 (by omega) (by omega)]; omega
   refine ⟨by rw [hij]; show 0 ≤ (j : Int) ∧ (j : Int) < ((8 : Nat) : Int); omega, ?_⟩
   conv => whnf
   refine ⟨by rw [hij, rowV_length u8c_len]; show 0 + j * 1 + 1 ≤ _; simp, ?_⟩
   conv => whnf
   refine ⟨by decide, ?_⟩
   conv => whnf
   have hcn : c ≤ n ∨ n < c := by omega
   have hcb : c < 9223372036854775808 := by
     have h8 : (256 : Nat) ^ (j + 1) ≤ 256 ^ 8 := Nat.pow_le_pow_right (by decide) (by omega)
     have hcm : nat (bytes c) ≤ nat (bytes n) := by
       rw [hb, nat_append]
       have : nat (bytes c) * 1 ≤ nat (bytes c) * 256 ^ L.length := Nat.mul_le_mul_left _ (Nat.pow_pos (by decide))
       omega
     rw [nat_bytes, nat_bytes] at hcm
     omega
   refine ⟨(j, c / 256, UInt8.ofNat (c % 256) :: L), ⟨by simp; omega, ?_, ?_⟩, by show c / 256 < c; omega, SLe.id ⟨?_, rfl, ?_, trivial⟩ ⟨⟨_, rfl, ?_⟩, trivial⟩ (fun R hR => hR)⟩
   · show c / 256 < 256 ^ j
     rw [Nat.pow_succ] at hc; omega
   · rw [hb, bytes_step hc0]; simp
   · show some (SV.o (.v (.int .i64 (Int.fdiv (c : Int) (2 ^ min (8 : Int).toNat IntKind.i64.bits))))) = some (SV.o (.v (.int .i64 ((c / 256 : Nat) : Int))))
     rw [show min (8 : Int).toNat IntKind.i64.bits = 8 from rfl, Int.fdiv_eq_ediv_of_nonneg _ (by decide)]; rfl
   · show some (SV.o (.v (.int .i64 (IntKind.i64.wrap (((j + 1 : Nat) : Int) - 1))))) = some (SV.o (.v (.int .i64 (j : Int))))
     rw [hij]
   · show MEle (ME.sym (putN (0 + (IntKind.i64.wrap (((j + 1 : Nat) : Int) - 1)).toNat * 1) [Value.int .u8 (IntKind.u8.wrap (c : Int))] (rowV u8c (List.replicate (j + 1) 0 ++ L))) _) (ME.sym (rowV u8c (List.replicate j 0 ++ (UInt8.ofNat (c % 256) :: L))) _)
     have hw : IntKind.u8.wrap (c : Int) = ((UInt8.ofNat (c % 256)).toNat : Int) := by
       rw [IntKind.wrap_u8]
       have : (UInt8.ofNat (c % 256)).toNat = c % 256 := by simp
       rw [this]; omega
     have hput := rowV_put (f := u8c) u8c_len (k := j) (l := List.replicate (j + 1) 0 ++ L) (UInt8.ofNat (c % 256)) (by simp; omega)
     have hset : (List.replicate (j + 1) 0 ++ L).set j (UInt8.ofNat (c % 256)) = List.replicate j 0 ++ (UInt8.ofNat (c % 256) :: L) := by
       rw [List.replicate_succ', List.append_assoc, List.set_append_right _ _ (by simp)]
       simp
     rw [hset] at hput
     rw [hij, hw, Int.toNat_natCast, Nat.zero_add, ← hput]
     exact .refl _
 · intro h
   have hc0 : c = 0 := by
     have : ¬ (c : Int) > 0 := of_decide_eq_false h
     omega
   subst hc0
   rw [bytes_zero, List.nil_append] at hb
   conv => whnf
   refine ⟨by show 0 ≤ (i : Int) ∧ (i : Int) ≤ ((8 : Nat) : Int) ∧ ((8 : Nat) : Int) ≤ ((8 : Nat) : Int); omega, ?_⟩
   conv => whnf
   have hdrop : ((rowV u8c (List.replicate i 0 ++ L)).drop (bif Nat.beq 8 ((i : Int).toNat) then 0 else 0 + (i : Int).toNat * 1)).take (((8 : Nat) : Int).toNat - (i : Int).toNat) = bytV L := by
     rw [Int.toNat_natCast, Int.toNat_natCast]
     cases hb8 : Nat.beq 8 i with
     | true =>
       have h8 := Nat.eq_of_beq_eq_true hb8
       have hL0 : L = [] := List.length_eq_zero_iff.1 (by omega)
       rw [hL0, ← h8]; rfl
     | false =>
       rw [cond_false, Nat.zero_add, rowV_drop u8c_len]
       have : (List.replicate i 0 ++ L).drop i = L := by
         have := List.drop_left (l₁ := List.replicate i (0 : UInt8)) (l₂ := L)
         rwa [List.length_replicate] at this
       rw [this, rowV_u8, show 8 - i = L.length by omega]
       have : (bytV L).length = L.length := by simp [bytV]
       rw [← this, List.take_length]
   refine ⟨L, by rw [Int.toNat_natCast, Int.toNat_natCast]; omega, hdrop, ?_⟩
   conv => whnf
   refine postV_one ?_
   rw [hb]; rfl
theorem r_Of (n : Int) (h1 : -9223372036854775808 ≤ n) (h2 : n ≤ 9223372036854775807) : Fn PP f_narrowsref01_Of [.int .i64 n] (zV n) := by
 refine Fn.of TBgood mixed h_narrowsref01_Of rfl rfl (Nat.le_of_ble_eq_true rfl) ?_
 intro w
 conv => whnf
 refine br_split ?_ ?_
 · intro h
   have h0 : 0 ≤ n := of_decide_eq_true h
   obtain ⟨m, rfl⟩ := Int.eq_ofNat_of_zero_le h0
   conv => whnf
   refine CallVC.fn (r_mag m (by omega)) rfl ?_
   conv => whnf
   refine postV_one ?_
   rw [zV, decide_eq_false (by omega), Int.natAbs_natCast]
 · intro h
   have h0 : ¬ 0 ≤ n := of_decide_eq_false h
   conv => whnf
   refine br_split ?_ ?_
   · intro he
     have he2 : n = IntKind.i64.wrap (0 - n) := eq_of_beq he
     have hm : n = -9223372036854775808 := by
       by_cases hm : n = -9223372036854775808
       · exact hm
       · rw [wrap_i64 (by omega) (by omega)] at he2; omega
     subst hm
     conv => whnf
     refine postV_one ?_
     show intV true ⟨#[128, 0, 0, 0, 0, 0, 0, 0]⟩ = zV (-9223372036854775808)
     rw [zV, decide_eq_true (by decide)]
     have : bytes (-9223372036854775808 : Int).natAbs = [128, 0, 0, 0, 0, 0, 0, 0] := by decide +kernel
     rw [this]; rfl
   · intro he
     have hm : ¬ n = -9223372036854775808 := fun hm => by
       subst hm
       exact absurd he (by decide)
     obtain ⟨m, rfl⟩ : ∃ m : Nat, n = -(m : Int) := ⟨n.natAbs, by omega⟩
     conv => whnf
     have hw : IntKind.i64.wrap (0 - -(m : Int)) = (m : Int) := by rw [wrap_i64 (by omega) (by omega)]; omega
     refine CallVC.fn (r_mag m (by omega)) (by show [SV.o (.v (.int .i64 (IntKind.i64.wrap (0 - -(m : Int)))))] = _; rw [hw]; rfl) ?_
     conv => whnf
     refine postV_one ?_
     rw [zV, decide_eq_true (by omega), Int.natAbs_neg, Int.natAbs_natCast]
end Go.Sx
end
section
set_option maxRecDepth 10000
set_option maxHeartbeats 2000000
namespace Go.Sx
open Go Go.Proofs
theorem bytesLess_nat : ∀ (a b : List UInt8), a.length = b.length → Op.bytesLess a b = decide (nat a < nat b)
 | [], [], _ => rfl
 | x :: a, [], h => by cases h
 | [], y :: b, h => by cases h
 | x :: a, y :: b, h => by
   have hl : a.length = b.length := by simpa using h
   have ih := bytesLess_nat a b hl
   have ha := nat_lt a
   have hb := nat_lt b
   rw [Op.bytesLess, ih, nat_cons, nat_cons, ← hl]
   rw [← hl] at hb
   rw [Bool.eq_iff_iff]
   simp only [Bool.or_eq_true, Bool.and_eq_true, decide_eq_true_eq, beq_iff_eq, UInt8.lt_iff_toNat_lt]
   generalize 256 ^ a.length = B at *
   constructor
   · rintro (h1 | ⟨rfl, h1⟩)
     · have : (x.toNat + 1) * B ≤ y.toNat * B := Nat.mul_le_mul_right _ h1
       rw [Nat.add_mul] at this; omega
     · omega
   · intro h1
     rcases Nat.lt_trichotomy x.toNat y.toNat with h2 | h2 | h2
     · exact .inl h2
     · right; exact ⟨UInt8.toNat_inj.1 h2, by rw [h2] at h1; omega⟩
     · exfalso
       have : (y.toNat + 1) * B ≤ x.toNat * B := Nat.mul_le_mul_right _ h2
       rw [Nat.add_mul] at this; omega
theorem bytes_lt_of_len {m n : Nat} (h : (bytes m).length < (bytes n).length) : m < n := by
 have h1 := nat_lt (bytes m)
 rw [nat_bytes] at h1
 have h2 : ¬ n < 256 ^ (bytes m).length := fun h2 => by have := bytes_len h2; omega
 omega
theorem r_compareMag (m n : Nat) : Fn PP f_narrowsref01_compareMag [.string (bs (bytes m)), .string (bs (bytes n))] (.int .i64 (cmpN m n)) := by
 refine Fn.of TBgood mixed h_narrowsref01_compareMag rfl rfl (Nat.le_of_ble_eq_true rfl) ?_
 intro w
 conv => whnf
 refine br_split ?_ ?_
 · intro h
   have hne : (bytes m).length ≠ (bytes n).length := by
     intro he
     have h2 : (((bytes m).length : Int) != ((bytes n).length : Int)) = true := h
     rw [he] at h2
     simp at h2
   conv => whnf
   refine br_split ?_ ?_
   · intro h2
     have h3 : (bytes m).length < (bytes n).length := by
       have : ((bytes m).length : Int) < ((bytes n).length : Int) := of_decide_eq_true h2
       omega
     conv => whnf
     refine postV_one ?_
     rw [cmpN, if_pos (bytes_lt_of_len h3)]
   · intro h2
     have h3 : (bytes n).length < (bytes m).length := by
       have : ¬ ((bytes m).length : Int) < ((bytes n).length : Int) := of_decide_eq_false h2
       omega
     have h4 := bytes_lt_of_len h3
     conv => whnf
     refine postV_one ?_
     rw [cmpN, if_neg (by omega), if_pos h4]
 · intro h
   have he : (bytes m).length = (bytes n).length := by
     have h2 : (((bytes m).length : Int) != ((bytes n).length : Int)) = false := h
     simp at h2; omega
   conv => whnf
   have hb1 := bytesLess_nat (bytes m) (bytes n) he
   rw [nat_bytes, nat_bytes] at hb1
   rcases Nat.lt_trichotomy m n with h1 | h1 | h1
   · refine br_true (by rw [bs_toList, bs_toList, hb1]; exact decide_eq_true h1) ?_
     conv => whnf
     refine postV_one ?_
     rw [cmpN, if_pos h1]
   · refine br_false (by rw [bs_toList, bs_toList, hb1]; exact decide_eq_false (by omega)) ?_
     conv => whnf
     refine br_false (by rw [bs_toList, bs_toList, hb1, h1]; simp) ?_
     conv => whnf
     refine postV_one ?_
     rw [cmpN, if_neg (by omega), if_neg (by omega)]
   · refine br_false (by rw [bs_toList, bs_toList, hb1]; exact decide_eq_false (by omega)) ?_
     conv => whnf
     refine br_true (by
       rw [bs_toList, bs_toList, hb1, decide_eq_false (show ¬ m < n by omega)]
       have : bytes m ≠ bytes n := fun h => by have := bytes_inj h; omega
       simp [this]) ?_
     conv => whnf
     refine postV_one ?_
     rw [cmpN, if_neg (by omega), if_pos h1]
def dgt (l : List UInt8) (j : Nat) : Nat := if j < l.length then (l.getD (l.length - 1 - j) 0).toNat else 0
def low (l : List UInt8) (j : Nat) : Nat := nat (l.drop (l.length - j))
theorem low_zero (l : List UInt8) : low l 0 = 0 := by unfold low; rw [Nat.sub_zero, List.drop_length]; rfl
theorem low_all {l : List UInt8} {j : Nat} (h : l.length ≤ j) : low l j = nat l := by unfold low; rw [show l.length - j = 0 by omega, List.drop_zero]
theorem low_succ (l : List UInt8) (j : Nat) : low l (j + 1) = dgt l j * 256 ^ j + low l j := by
 unfold low dgt
 by_cases h : j < l.length
 · rw [if_pos h]
   have e : l.length - (j + 1) = l.length - 1 - j := by omega
   have hlt : l.length - 1 - j < l.length := by omega
   rw [e, List.drop_eq_getElem_cons hlt, nat_cons, show l.length - 1 - j + 1 = l.length - j by omega]
   have : (l.drop (l.length - j)).length = j := by rw [List.length_drop]; omega
   rw [this, List.getD_eq_getElem?_getD, List.getElem?_eq_getElem hlt]; rfl
 · rw [if_neg h, show l.length - (j + 1) = l.length - j by omega]; omega
theorem dgt_lt (l : List UInt8) (j : Nat) : dgt l j < 256 := by
 unfold dgt; split
 · exact (l.getD (l.length - 1 - j) 0).toBitVec.isLt
 · decide
theorem set_front {k : Nat} {L : List UInt8} (x : UInt8) : (List.replicate (k + 1) 0 ++ L).set k x = List.replicate k 0 ++ (x :: L) := by
 rw [List.replicate_succ', List.append_assoc, List.set_append_right _ _ (by simp)]
 simp
theorem sb_dgt (l : List UInt8) {j : Nat} (h : j < l.length) {z : Int} (hz : z = (l.length : Int) - ((j + 1 : Nat) : Int)) : sb (bs l) z = (dgt l j : Int) := by
 rw [sb_bs, hz]
 unfold dgt
 rw [if_pos h, show ((l.length : Int) - ((j + 1 : Nat) : Int)).toNat = l.length - 1 - j by omega]
theorem nat_cons_lt {x : Nat} (hx : x < 256) (L : List UInt8) : nat (UInt8.ofNat x :: L) = x * 256 ^ L.length + nat L := by
 rw [nat_cons, UInt8.toNat_ofNat', Nat.mod_eq_of_lt hx]
theorem max_eq (a b : Nat) : (if (b : Int) > (a : Int) then (b : Int) else (a : Int)) = ((max a b : Nat) : Int) := by
 by_cases h : (b : Int) > (a : Int)
 · rw [if_pos h]; omega
 · rw [if_neg h]; omega
theorem rep_front (n : Nat) : repl n [Value.int .u8 0] = rowV u8c (List.replicate n 0) := by rw [rowV_repl]; rfl
theorem add_step {P c da db nL A B : Nat} (h : nL + c * P = A + B) : (c + da + db) % 256 * P + nL + (c + da + db) / 256 * (P * 256) = (da * P + A) + (db * P + B) := by
 have h1 : (c + da + db) * P = (c + da + db) % 256 * P + (c + da + db) / 256 * (P * 256) := by
   have := Nat.mod_add_div (c + da + db) 256
   rw [Nat.mul_comm P 256, ← Nat.mul_assoc, ← Nat.add_mul, Nat.mul_comm _ 256, this]
 rw [Nat.add_mul, Nat.add_mul] at h1
 omega
theorem u8_mod {x : Nat} : IntKind.u8.wrap (x : Int) = ((UInt8.ofNat (x % 256)).toNat : Int) := by
 rw [IntKind.wrap_u8, UInt8.toNat_ofNat']; omega
theorem put_front {N k : Nat} {L : List UInt8} {x : Nat} {z : Int} {v : Value} (hk : N = k + 1) (hz : z = (k : Int)) (hv : v = .int .u8 (x : Int)) :
   putN (z.toNat * 1) [Value.int .u8 (IntKind.u8.wrap (x : Int))] (rowV u8c (List.replicate N 0 ++ L)) = rowV u8c (List.replicate k 0 ++ (UInt8.ofNat (x % 256) :: L)) := by
 have hput := rowV_put (f := u8c) u8c_len (k := k) (l := List.replicate (k + 1) 0 ++ L) (UInt8.ofNat (x % 256)) (by simp; omega)
 rw [set_front] at hput
 rw [hz, hk, Int.toNat_natCast, ← hput, u8_mod]; rfl
theorem fdiv8 (x : Nat) : Int.fdiv (x : Int) (2 ^ min (8 : Int).toNat IntKind.i64.bits) = ((x / 256 : Nat) : Int) := by
 rw [show min (8 : Int).toNat IntKind.i64.bits = 8 from rfl, Int.fdiv_eq_ediv_of_nonneg _ (by decide)]; rfl
theorem r_addMag (a b : List UInt8) (ha : a.length ≤ 500000000) (hb : b.length ≤ 500000000) : Fn PP f_narrowsref01_addMag [.string (bs a), .string (bs b)] (.string (bs (bytes (nat a + nat b)))) := by
 refine Fn.of TBgood mixed h_narrowsref01_addMag rfl rfl (Nat.le_of_ble_eq_true rfl) ?_
 intro w
 obtain ⟨m, hm⟩ : ∃ m, m = max a.length b.length := ⟨_, rfl⟩
 have hmx : (if ((b.length : Nat) : Int) > ((a.length : Nat) : Int) then ((b.length : Nat) : Int) else ((a.length : Nat) : Int)) = (m : Int) := by rw [hm]; exact max_eq _ _
 obtain ⟨N, hN⟩ : ∃ N, N = m + 1 := ⟨_, rfl⟩
 have hw1 : IntKind.i64.wrap ((if ((b.length : Nat) : Int) > ((a.length : Nat) : Int) then ((b.length : Nat) : Int) else ((a.length : Nat) : Int)) + 1) = (N : Int) := by rw [hmx, wrap_i64 (by omega) (by omega)]; omega
 conv => whnf
 refine ⟨?_, ?_⟩
 · show 0 ≤ IntKind.i64.wrap ((if ((b.length : Nat) : Int) > ((a.length : Nat) : Int) then ((b.length : Nat) : Int) else ((a.length : Nat) : Int)) + 1) ∧ IntKind.i64.wrap ((if ((b.length : Nat) : Int) > ((a.length : Nat) : Int) then ((b.length : Nat) : Int) else ((a.length : Nat) : Int)) + 1) ≤ IntKind.i64.wrap ((if ((b.length : Nat) : Int) > ((a.length : Nat) : Int) then ((b.length : Nat) : Int) else ((a.length : Nat) : Int)) + 1) ∧ ((1 : Nat) : Int) * IntKind.i64.wrap ((if ((b.length : Nat) : Int) > ((a.length : Nat) : Int) then ((b.length : Nat) : Int) else ((a.length : Nat) : Int)) + 1) ≤ 281474976710656 ∧ IntKind.i64.wrap ((if ((b.length : Nat) : Int) > ((a.length : Nat) : Int) then ((b.length : Nat) : Int) else ((a.length : Nat) : Int)) + 1) ≤ 9223372036854775807
   rw [hw1]; omega
 conv => whnf
 refine sexec_loop (ι := Nat × Nat × List UInt8) (fun ⟨j, c, L⟩ => ⟨[(0, .o (.v (.string (bs a)))), (1, .o (.v (.string (bs b)))), (5, .o (.v (.int .i64 N))), (6, .o (.w 16)), (7, .o (.v (.int .i64 c))), (8, .o (.v (.int .i64 (j + 1 : Nat))))], [(16, .own t_uint8 1 N (rowV u8c (List.replicate (N - j) 0 ++ L)))], []⟩)
   (fun ⟨j, c, L⟩ => j ≤ N ∧ L.length = j ∧ c ≤ 1 ∧ nat L + c * 256 ^ j = low a j + low b j) (fun ⟨j, c, L⟩ => N - j) (0, 0, []) ⟨Nat.zero_le _, rfl, by decide, by rw [low_zero, low_zero]; rfl⟩ (SLe.id ⟨rfl, rfl, ?_, rfl, rfl, rfl, trivial⟩ ⟨⟨_, rfl, ?_⟩, trivial⟩ (fun R hR => hR)) ?_
 · show some (SV.o (.v (.int .i64 (IntKind.i64.wrap ((if ((b.length : Nat) : Int) > ((a.length : Nat) : Int) then ((b.length : Nat) : Int) else ((a.length : Nat) : Int)) + 1))))) = _
   rw [hw1]; rfl
 · show MEle (ME.own t_uint8 1 (IntKind.i64.wrap ((if ((b.length : Nat) : Int) > ((a.length : Nat) : Int) then ((b.length : Nat) : Int) else ((a.length : Nat) : Int)) + 1)).toNat (repl (IntKind.i64.wrap ((if ((b.length : Nat) : Int) > ((a.length : Nat) : Int) then ((b.length : Nat) : Int) else ((a.length : Nat) : Int)) + 1)).toNat [Value.int .u8 0])) (ME.own t_uint8 1 N (rowV u8c (List.replicate (N - 0) 0 ++ [])))
   rw [hw1, Int.toNat_natCast, rep_front, List.append_nil]; exact .refl _
 rintro ⟨j, c, L⟩ ⟨hj, hL, hc, hinv⟩
 conv => whnf
 refine br_split ?_ ?_
 · intro h
   have hj2 : j < N := by
     have : ((j + 1 : Nat) : Int) ≤ (N : Int) := of_decide_eq_true h
     omega
   obtain ⟨k, hk⟩ : ∃ k, N - j = k + 1 := ⟨N - j - 1, by omega⟩
   have hwk : IntKind.i64.wrap ((N : Int) - ((j + 1 : Nat) : Int)) = (k : Int) := by rw [wrap_i64 (by omega) (by omega)]; omega
   have hwa : ∀ x : List UInt8, x.length ≤ 500000000 → IntKind.i64.wrap ((x.length : Int) - ((j + 1 : Nat) : Int)) = (x.length : Int) - ((j + 1 : Nat) : Int) := fun x hx => wrap_i64 (by omega) (by omega)
   have hda := dgt_lt a j
   have hdb := dgt_lt b j
   have hcv : ∀ x : List UInt8, x.length ≤ 500000000 → j < x.length → IntKind.i64.wrap (sb (bs x) (IntKind.i64.wrap ((x.length : Int) - ((j + 1 : Nat) : Int)))) = (dgt x j : Int) := fun x hx hlt => by
     rw [hwa x hx, sb_dgt x hlt rfl]
     have := dgt_lt x j
     exact wrap_i64 (by omega) (by omega)
   have hidx : ∀ x : List UInt8, x.length ≤ 500000000 → j < x.length → 0 ≤ IntKind.i64.wrap ((x.length : Int) - ((j + 1 : Nat) : Int)) ∧ IntKind.i64.wrap ((x.length : Int) - ((j + 1 : Nat) : Int)) < (((bs x).size : Nat) : Int) := fun x hx hlt => by
     rw [hwa x hx]; show _ ∧ _ < ((x.length : Nat) : Int); omega
   have d0 : ∀ x : List UInt8, ¬ j < x.length → dgt x j = 0 := fun x hx => by unfold dgt; rw [if_neg hx]
   have hstep := add_step (da := dgt a j) (db := dgt b j) hinv
   rw [← low_succ, ← low_succ] at hstep
   conv => whnf
   refine br_split ?_ ?_
   · intro h1
     have la : j < a.length := by
       have : ((j + 1 : Nat) : Int) ≤ ((a.length : Nat) : Int) := of_decide_eq_true h1
       omega
     conv => whnf
     refine ⟨hidx a ha la, ?_⟩
     conv => whnf
     refine br_split ?_ ?_
     · intro h2
       have lb : j < b.length := by
         have : ((j + 1 : Nat) : Int) ≤ ((b.length : Nat) : Int) := of_decide_eq_true h2
         omega
       conv => whnf
       refine ⟨hidx b hb lb, ?_⟩
       have hE : IntKind.i64.wrap (IntKind.i64.wrap ((c : Int) + IntKind.i64.wrap (sb (bs a) (IntKind.i64.wrap ((a.length : Int) - ((j + 1 : Nat) : Int))))) + IntKind.i64.wrap (sb (bs b) (IntKind.i64.wrap ((b.length : Int) - ((j + 1 : Nat) : Int))))) = ((c + dgt a j + dgt b j : Nat) : Int) := by
         rw [hcv a ha la, hcv b hb lb, wrap_i64 (n := (c : Int) + _) (by omega) (by omega), wrap_i64 (by omega) (by omega)]; omega
       conv => whnf
       refine ⟨by rw [hwk]; show 0 ≤ (k : Int) ∧ (k : Int) < (N : Int); omega, ?_⟩
       conv => whnf
       refine ⟨⟨by rw [hwk, rowV_length u8c_len]; show (k : Int).toNat * 1 + 1 ≤ _; simp; omega, by decide⟩, ?_⟩
       conv => whnf
       refine ⟨by decide, ?_⟩
       conv => whnf
       refine ⟨(j + 1, (c + dgt a j + dgt b j) / 256, UInt8.ofNat ((c + dgt a j + dgt b j) % 256) :: L), ⟨by omega, by simp [hL], by omega, ?_⟩, by show N - (j + 1) < N - j; omega, SLe.id ⟨rfl, rfl, rfl, rfl, ?_, some_wrap (i := j + 1) (n := N + 1) (by omega) (by omega), trivial⟩ ⟨⟨_, rfl, ?_⟩, trivial⟩ (fun R hR => hR)⟩
       · rw [nat_cons_lt (Nat.mod_lt _ (by decide)), hL, Nat.pow_succ]; exact hstep
       · show some (SV.o (.v (.int .i64 (Int.fdiv (IntKind.i64.wrap (IntKind.i64.wrap ((c : Int) + IntKind.i64.wrap (sb (bs a) (IntKind.i64.wrap ((a.length : Int) - ((j + 1 : Nat) : Int))))) + IntKind.i64.wrap (sb (bs b) (IntKind.i64.wrap ((b.length : Int) - ((j + 1 : Nat) : Int)))))) (2 ^ min (8 : Int).toNat IntKind.i64.bits))))) = _
         rw [hE, fdiv8]; rfl
       · show MEle (ME.own t_uint8 1 N (putN ((IntKind.i64.wrap ((N : Int) - ((j + 1 : Nat) : Int))).toNat * 1) [Value.int .u8 (IntKind.u8.wrap (IntKind.i64.wrap (IntKind.i64.wrap ((c : Int) + IntKind.i64.wrap (sb (bs a) (IntKind.i64.wrap ((a.length : Int) - ((j + 1 : Nat) : Int))))) + IntKind.i64.wrap (sb (bs b) (IntKind.i64.wrap ((b.length : Int) - ((j + 1 : Nat) : Int)))))))] (rowV u8c (List.replicate (N - j) 0 ++ L)))) (ME.own t_uint8 1 N (rowV u8c (List.replicate (N - (j + 1)) 0 ++ (UInt8.ofNat ((c + dgt a j + dgt b j) % 256) :: L))))
         rw [hE, put_front hk hwk rfl, show N - (j + 1) = k by omega]; exact .refl _
     · intro h2
       have lb : ¬ j < b.length := by
         have : ¬ ((j + 1 : Nat) : Int) ≤ ((b.length : Nat) : Int) := of_decide_eq_false h2
         omega
       have z := d0 b lb
       have hE : IntKind.i64.wrap ((c : Int) + IntKind.i64.wrap (sb (bs a) (IntKind.i64.wrap ((a.length : Int) - ((j + 1 : Nat) : Int))))) = ((c + dgt a j + dgt b j : Nat) : Int) := by
         rw [hcv a ha la, wrap_i64 (by omega) (by omega)]; omega
       conv => whnf
       refine ⟨by rw [hwk]; show 0 ≤ (k : Int) ∧ (k : Int) < (N : Int); omega, ?_⟩
       conv => whnf
       refine ⟨⟨by rw [hwk, rowV_length u8c_len]; show (k : Int).toNat * 1 + 1 ≤ _; simp; omega, by decide⟩, ?_⟩
       conv => whnf
       refine ⟨by decide, ?_⟩
       conv => whnf
       refine ⟨(j + 1, (c + dgt a j + dgt b j) / 256, UInt8.ofNat ((c + dgt a j + dgt b j) % 256) :: L), ⟨by omega, by simp [hL], by omega, ?_⟩, by show N - (j + 1) < N - j; omega, SLe.id ⟨rfl, rfl, rfl, rfl, ?_, some_wrap (i := j + 1) (n := N + 1) (by omega) (by omega), trivial⟩ ⟨⟨_, rfl, ?_⟩, trivial⟩ (fun R hR => hR)⟩
       · rw [nat_cons_lt (Nat.mod_lt _ (by decide)), hL, Nat.pow_succ]; exact hstep
       · show some (SV.o (.v (.int .i64 (Int.fdiv (IntKind.i64.wrap ((c : Int) + IntKind.i64.wrap (sb (bs a) (IntKind.i64.wrap ((a.length : Int) - ((j + 1 : Nat) : Int)))))) (2 ^ min (8 : Int).toNat IntKind.i64.bits))))) = _
         rw [hE, fdiv8]; rfl
       · show MEle (ME.own t_uint8 1 N (putN ((IntKind.i64.wrap ((N : Int) - ((j + 1 : Nat) : Int))).toNat * 1) [Value.int .u8 (IntKind.u8.wrap (IntKind.i64.wrap ((c : Int) + IntKind.i64.wrap (sb (bs a) (IntKind.i64.wrap ((a.length : Int) - ((j + 1 : Nat) : Int)))))))] (rowV u8c (List.replicate (N - j) 0 ++ L)))) (ME.own t_uint8 1 N (rowV u8c (List.replicate (N - (j + 1)) 0 ++ (UInt8.ofNat ((c + dgt a j + dgt b j) % 256) :: L))))
         rw [hE, put_front hk hwk rfl, show N - (j + 1) = k by omega]; exact .refl _
   · intro h1
     have la : ¬ j < a.length := by
       have : ¬ ((j + 1 : Nat) : Int) ≤ ((a.length : Nat) : Int) := of_decide_eq_false h1
       omega
     have z := d0 a la
     conv => whnf
     refine br_split ?_ ?_
     · intro h2
       have lb : j < b.length := by
         have : ((j + 1 : Nat) : Int) ≤ ((b.length : Nat) : Int) := of_decide_eq_true h2
         omega
       conv => whnf
       refine ⟨hidx b hb lb, ?_⟩
       have hE : IntKind.i64.wrap ((c : Int) + IntKind.i64.wrap (sb (bs b) (IntKind.i64.wrap ((b.length : Int) - ((j + 1 : Nat) : Int))))) = ((c + dgt a j + dgt b j : Nat) : Int) := by
         rw [hcv b hb lb, wrap_i64 (by omega) (by omega)]; omega
       conv => whnf
       refine ⟨by rw [hwk]; show 0 ≤ (k : Int) ∧ (k : Int) < (N : Int); omega, ?_⟩
       conv => whnf
       refine ⟨⟨by rw [hwk, rowV_length u8c_len]; show (k : Int).toNat * 1 + 1 ≤ _; simp; omega, by decide⟩, ?_⟩
       conv => whnf
       refine ⟨by decide, ?_⟩
       conv => whnf
       refine ⟨(j + 1, (c + dgt a j + dgt b j) / 256, UInt8.ofNat ((c + dgt a j + dgt b j) % 256) :: L), ⟨by omega, by simp [hL], by omega, ?_⟩, by show N - (j + 1) < N - j; omega, SLe.id ⟨rfl, rfl, rfl, rfl, ?_, some_wrap (i := j + 1) (n := N + 1) (by omega) (by omega), trivial⟩ ⟨⟨_, rfl, ?_⟩, trivial⟩ (fun R hR => hR)⟩
       · rw [nat_cons_lt (Nat.mod_lt _ (by decide)), hL, Nat.pow_succ]; exact hstep
       · show some (SV.o (.v (.int .i64 (Int.fdiv (IntKind.i64.wrap ((c : Int) + IntKind.i64.wrap (sb (bs b) (IntKind.i64.wrap ((b.length : Int) - ((j + 1 : Nat) : Int)))))) (2 ^ min (8 : Int).toNat IntKind.i64.bits))))) = _
         rw [hE, fdiv8]; rfl
       · show MEle (ME.own t_uint8 1 N (putN ((IntKind.i64.wrap ((N : Int) - ((j + 1 : Nat) : Int))).toNat * 1) [Value.int .u8 (IntKind.u8.wrap (IntKind.i64.wrap ((c : Int) + IntKind.i64.wrap (sb (bs b) (IntKind.i64.wrap ((b.length : Int) - ((j + 1 : Nat) : Int)))))))] (rowV u8c (List.replicate (N - j) 0 ++ L)))) (ME.own t_uint8 1 N (rowV u8c (List.replicate (N - (j + 1)) 0 ++ (UInt8.ofNat ((c + dgt a j + dgt b j) % 256) :: L))))
         rw [hE, put_front hk hwk rfl, show N - (j + 1) = k by omega]; exact .refl _
     · intro h2
       have lb : ¬ j < b.length := by
         have : ¬ ((j + 1 : Nat) : Int) ≤ ((b.length : Nat) : Int) := of_decide_eq_false h2
         omega
       have z2 := d0 b lb
       have hE : (c : Int) = ((c + dgt a j + dgt b j : Nat) : Int) := by
         omega
       conv => whnf
       refine ⟨by rw [hwk]; show 0 ≤ (k : Int) ∧ (k : Int) < (N : Int); omega, ?_⟩
       conv => whnf
       refine ⟨⟨by rw [hwk, rowV_length u8c_len]; show (k : Int).toNat * 1 + 1 ≤ _; simp; omega, by decide⟩, ?_⟩
       conv => whnf
       refine ⟨by decide, ?_⟩
       conv => whnf
       refine ⟨(j + 1, (c + dgt a j + dgt b j) / 256, UInt8.ofNat ((c + dgt a j + dgt b j) % 256) :: L), ⟨by omega, by simp [hL], by omega, ?_⟩, by show N - (j + 1) < N - j; omega, SLe.id ⟨rfl, rfl, rfl, rfl, ?_, some_wrap (i := j + 1) (n := N + 1) (by omega) (by omega), trivial⟩ ⟨⟨_, rfl, ?_⟩, trivial⟩ (fun R hR => hR)⟩
       · rw [nat_cons_lt (Nat.mod_lt _ (by decide)), hL, Nat.pow_succ]; exact hstep
       · show some (SV.o (.v (.int .i64 (Int.fdiv ((c : Int)) (2 ^ min (8 : Int).toNat IntKind.i64.bits))))) = _
         rw [hE, fdiv8]; rfl
       · show MEle (ME.own t_uint8 1 N (putN ((IntKind.i64.wrap ((N : Int) - ((j + 1 : Nat) : Int))).toNat * 1) [Value.int .u8 (IntKind.u8.wrap ((c : Int)))] (rowV u8c (List.replicate (N - j) 0 ++ L)))) (ME.own t_uint8 1 N (rowV u8c (List.replicate (N - (j + 1)) 0 ++ (UInt8.ofNat ((c + dgt a j + dgt b j) % 256) :: L))))
         rw [hE, put_front hk hwk rfl, show N - (j + 1) = k by omega]; exact .refl _
 · intro h
   have hj2 : j = N := by
     have : ¬ ((j + 1 : Nat) : Int) ≤ (N : Int) := of_decide_eq_false h
     omega
   subst hj2
   rw [low_all (by omega), low_all (by omega)] at hinv
   have hc0 : c = 0 := by
     have h1 := nat_bound (l := a) (k := j - 1) (by omega)
     have h2 := nat_bound (l := b) (k := j - 1) (by omega)
     rcases Nat.eq_zero_or_pos c with h3 | h3
     · exact h3
     · exfalso
       have h4 : 256 ^ j = 256 ^ (j - 1) * 256 := by rw [← Nat.pow_succ, show (j - 1).succ = j by omega]
       have : 1 * 256 ^ j ≤ c * 256 ^ j := Nat.mul_le_mul_right _ h3
       omega
   rw [hc0, Nat.zero_mul, Nat.add_zero] at hinv
   conv => whnf
   refine ⟨L, hL, by show (rowV u8c (List.replicate (j - j) 0 ++ L)).take j = bytV L; rw [Nat.sub_self, List.replicate_zero, List.nil_append, rowV_u8]; exact List.take_of_length_le (by simp [bytV, hL]), ?_⟩
   conv => whnf
   refine CallVC.fn (r_trim L) rfl ?_
   rw [stripL_eq, hinv]
   conv => whnf
   exact postV_one rfl
end Go.Sx
end
section
set_option maxRecDepth 10000
set_option maxHeartbeats 2000000
namespace Go.Sx
open Go Go.Proofs
theorem sub_step {P d da db bw bw' nL A B : Nat} (h : nL + B = A + bw * P) (hd : d + db + bw = da + 256 * bw') : d * P + nL + (db * P + B) = (da * P + A) + bw' * (P * 256) := by
 have h1 : (d + db + bw) * P = (da + 256 * bw') * P := by rw [hd]
 rw [Nat.add_mul, Nat.add_mul, Nat.add_mul, Nat.mul_comm 256 bw', Nat.mul_assoc, Nat.mul_comm 256 P] at h1
 omega
theorem r_subMag (a b : List UInt8) (ha : a.length ≤ 500000000) (hb : b.length ≤ a.length) (hle : nat b ≤ nat a) : Fn PP f_narrowsref01_subMag [.string (bs a), .string (bs b)] (.string (bs (bytes (nat a - nat b)))) := by
 refine Fn.of TBgood mixed h_narrowsref01_subMag rfl rfl (Nat.le_of_ble_eq_true rfl) ?_
 intro w
 obtain ⟨N, hN⟩ : ∃ N, N = a.length := ⟨_, rfl⟩
 conv => whnf
 refine ⟨by show 0 ≤ ((a.length : Nat) : Int) ∧ ((a.length : Nat) : Int) ≤ ((a.length : Nat) : Int) ∧ ((1 : Nat) : Int) * ((a.length : Nat) : Int) ≤ 281474976710656 ∧ ((a.length : Nat) : Int) ≤ 9223372036854775807; omega, ?_⟩
 conv => whnf
 refine sexec_loop (ι := Nat × Nat × List UInt8) (fun ⟨j, c, L⟩ => ⟨[(0, .o (.v (.string (bs a)))), (1, .o (.v (.string (bs b)))), (5, .o (.w 11)), (6, .o (.v (.int .i64 c))), (7, .o (.v (.int .i64 (j + 1 : Nat))))], [(11, .own t_uint8 1 N (rowV u8c (List.replicate (N - j) 0 ++ L)))], []⟩)
   (fun ⟨j, c, L⟩ => j ≤ N ∧ L.length = j ∧ c ≤ 1 ∧ nat L + low b j = low a j + c * 256 ^ j) (fun ⟨j, c, L⟩ => N - j) (0, 0, []) ⟨Nat.zero_le _, rfl, by decide, by rw [low_zero, low_zero]; rfl⟩ (SLe.id ⟨rfl, rfl, rfl, rfl, rfl, trivial⟩ ⟨⟨_, rfl, ?_⟩, trivial⟩ (fun R hR => hR)) ?_
 · show MEle (ME.own t_uint8 1 ((a.length : Nat) : Int).toNat (repl ((a.length : Nat) : Int).toNat [Value.int .u8 0])) (ME.own t_uint8 1 N (rowV u8c (List.replicate (N - 0) 0 ++ [])))
   rw [← hN, Int.toNat_natCast, rep_front, List.append_nil]; exact .refl _
 rintro ⟨j, c, L⟩ ⟨hj, hL, hc, hinv⟩
 conv => whnf
 refine br_split ?_ ?_
 · intro h
   have hj2 : j < N := by
     have : ((j + 1 : Nat) : Int) ≤ ((a.length : Nat) : Int) := of_decide_eq_true h
     omega
   obtain ⟨k, hk⟩ : ∃ k, N - j = k + 1 := ⟨N - j - 1, by omega⟩
   have hwk : IntKind.i64.wrap ((a.length : Int) - ((j + 1 : Nat) : Int)) = (k : Int) := by rw [wrap_i64 (by omega) (by omega)]; omega
   have hwk2 : IntKind.i64.wrap ((((bs a).size : Nat) : Int) - ((j + 1 : Nat) : Int)) = (k : Int) := hwk
   have hwa : ∀ x : List UInt8, x.length ≤ 500000000 → IntKind.i64.wrap ((x.length : Int) - ((j + 1 : Nat) : Int)) = (x.length : Int) - ((j + 1 : Nat) : Int) := fun x hx => wrap_i64 (by omega) (by omega)
   have hda := dgt_lt a j
   have hdb := dgt_lt b j
   have hcv : ∀ x : List UInt8, x.length ≤ 500000000 → j < x.length → IntKind.i64.wrap (sb (bs x) (IntKind.i64.wrap ((x.length : Int) - ((j + 1 : Nat) : Int)))) = (dgt x j : Int) := fun x hx hlt => by
     rw [hwa x hx, sb_dgt x hlt rfl]
     have := dgt_lt x j
     exact wrap_i64 (by omega) (by omega)
   have hidx : ∀ x : List UInt8, x.length ≤ 500000000 → j < x.length → 0 ≤ IntKind.i64.wrap ((x.length : Int) - ((j + 1 : Nat) : Int)) ∧ IntKind.i64.wrap ((x.length : Int) - ((j + 1 : Nat) : Int)) < (((bs x).size : Nat) : Int) := fun x hx hlt => by
     rw [hwa x hx]; show _ ∧ _ < ((x.length : Nat) : Int); omega
   have d0 : ¬ j < b.length → dgt b j = 0 := fun hx => by unfold dgt; rw [if_neg hx]
   have la : j < a.length := by omega
   conv => whnf
   refine ⟨hidx a ha la, ?_⟩
   conv => whnf
   refine br_split ?_ ?_
   · intro h2
     have lb : j < b.length := by
       have : ((j + 1 : Nat) : Int) ≤ ((b.length : Nat) : Int) := of_decide_eq_true h2
       omega
     conv => whnf
     refine ⟨hidx b (by omega) lb, ?_⟩
     have hE : IntKind.i64.wrap (IntKind.i64.wrap (IntKind.i64.wrap (sb (bs a) (IntKind.i64.wrap ((a.length : Int) - ((j + 1 : Nat) : Int)))) - (c : Int)) - IntKind.i64.wrap (sb (bs b) (IntKind.i64.wrap ((b.length : Int) - ((j + 1 : Nat) : Int))))) = (dgt a j : Int) - (c : Int) - (dgt b j : Int) := by
       rw [hcv a ha la, hcv b (by omega) lb, wrap_i64 (n := (dgt a j : Int) - (c : Int)) (by omega) (by omega), wrap_i64 (by omega) (by omega)]
     conv => whnf
     refine br_split ?_ ?_
     · intro h3
       have h4 : IntKind.i64.wrap (IntKind.i64.wrap (IntKind.i64.wrap (sb (bs a) (IntKind.i64.wrap ((a.length : Int) - ((j + 1 : Nat) : Int)))) - (c : Int)) - IntKind.i64.wrap (sb (bs b) (IntKind.i64.wrap ((b.length : Int) - ((j + 1 : Nat) : Int))))) < 0 := of_decide_eq_true h3
       rw [hE] at h4
       obtain ⟨d, hd⟩ : ∃ d : Nat, (d : Int) = (dgt a j : Int) - (c : Int) - (dgt b j : Int) + 256 := ⟨((dgt a j : Int) - (c : Int) - (dgt b j : Int) + 256).toNat, by omega⟩
       have hD : IntKind.i64.wrap (IntKind.i64.wrap (IntKind.i64.wrap (IntKind.i64.wrap (sb (bs a) (IntKind.i64.wrap ((a.length : Int) - ((j + 1 : Nat) : Int)))) - (c : Int)) - IntKind.i64.wrap (sb (bs b) (IntKind.i64.wrap ((b.length : Int) - ((j + 1 : Nat) : Int))))) + 256) = (d : Int) := by
         rw [hE, wrap_i64 (by omega) (by omega)]; omega
       conv => whnf
       refine ⟨by rw [hwk2]; show 0 ≤ (k : Int) ∧ (k : Int) < (N : Int); omega, ?_⟩
       conv => whnf
       refine ⟨⟨by rw [hwk2, rowV_length u8c_len]; show (k : Int).toNat * 1 + 1 ≤ _; simp; omega, by decide⟩, ?_⟩
       conv => whnf
       refine ⟨(j + 1, 1, UInt8.ofNat (d % 256) :: L), ⟨by omega, by simp [hL], by decide, ?_⟩, by show N - (j + 1) < N - j; omega, SLe.id ⟨rfl, rfl, rfl, rfl, some_wrap (i := j + 1) (n := N + 1) (by omega) (by omega), trivial⟩ ⟨⟨_, rfl, ?_⟩, trivial⟩ (fun R hR => hR)⟩
       · rw [Nat.mod_eq_of_lt (by omega), nat_cons_lt (by omega), hL, Nat.pow_succ, low_succ, low_succ]
         exact sub_step hinv (by omega)
       · show MEle (ME.own t_uint8 1 N (putN ((IntKind.i64.wrap ((a.length : Int) - ((j + 1 : Nat) : Int))).toNat * 1) [Value.int .u8 (IntKind.u8.wrap (IntKind.i64.wrap (IntKind.i64.wrap (IntKind.i64.wrap (IntKind.i64.wrap (sb (bs a) (IntKind.i64.wrap ((a.length : Int) - ((j + 1 : Nat) : Int)))) - (c : Int)) - IntKind.i64.wrap (sb (bs b) (IntKind.i64.wrap ((b.length : Int) - ((j + 1 : Nat) : Int))))) + 256)))] (rowV u8c (List.replicate (N - j) 0 ++ L)))) (ME.own t_uint8 1 N (rowV u8c (List.replicate (N - (j + 1)) 0 ++ (UInt8.ofNat (d % 256) :: L))))
         rw [hD, put_front hk hwk rfl, show N - (j + 1) = k by omega]; exact .refl _
     · intro h3
       have h4 : ¬ IntKind.i64.wrap (IntKind.i64.wrap (IntKind.i64.wrap (sb (bs a) (IntKind.i64.wrap ((a.length : Int) - ((j + 1 : Nat) : Int)))) - (c : Int)) - IntKind.i64.wrap (sb (bs b) (IntKind.i64.wrap ((b.length : Int) - ((j + 1 : Nat) : Int))))) < 0 := of_decide_eq_false h3
       rw [hE] at h4
       obtain ⟨d, hd⟩ : ∃ d : Nat, (d : Int) = (dgt a j : Int) - (c : Int) - (dgt b j : Int) := ⟨((dgt a j : Int) - (c : Int) - (dgt b j : Int)).toNat, by omega⟩
       have hD : IntKind.i64.wrap (IntKind.i64.wrap (IntKind.i64.wrap (sb (bs a) (IntKind.i64.wrap ((a.length : Int) - ((j + 1 : Nat) : Int)))) - (c : Int)) - IntKind.i64.wrap (sb (bs b) (IntKind.i64.wrap ((b.length : Int) - ((j + 1 : Nat) : Int))))) = (d : Int) := by
         rw [hE, hd]
       conv => whnf
       refine ⟨by rw [hwk2]; show 0 ≤ (k : Int) ∧ (k : Int) < (N : Int); omega, ?_⟩
       conv => whnf
       refine ⟨⟨by rw [hwk2, rowV_length u8c_len]; show (k : Int).toNat * 1 + 1 ≤ _; simp; omega, by decide⟩, ?_⟩
       conv => whnf
       refine ⟨(j + 1, 0, UInt8.ofNat (d % 256) :: L), ⟨by omega, by simp [hL], by decide, ?_⟩, by show N - (j + 1) < N - j; omega, SLe.id ⟨rfl, rfl, rfl, rfl, some_wrap (i := j + 1) (n := N + 1) (by omega) (by omega), trivial⟩ ⟨⟨_, rfl, ?_⟩, trivial⟩ (fun R hR => hR)⟩
       · rw [Nat.mod_eq_of_lt (by omega), nat_cons_lt (by omega), hL, Nat.pow_succ, low_succ, low_succ]
         exact sub_step hinv (by omega)
       · show MEle (ME.own t_uint8 1 N (putN ((IntKind.i64.wrap ((a.length : Int) - ((j + 1 : Nat) : Int))).toNat * 1) [Value.int .u8 (IntKind.u8.wrap (IntKind.i64.wrap (IntKind.i64.wrap (IntKind.i64.wrap (sb (bs a) (IntKind.i64.wrap ((a.length : Int) - ((j + 1 : Nat) : Int)))) - (c : Int)) - IntKind.i64.wrap (sb (bs b) (IntKind.i64.wrap ((b.length : Int) - ((j + 1 : Nat) : Int)))))))] (rowV u8c (List.replicate (N - j) 0 ++ L)))) (ME.own t_uint8 1 N (rowV u8c (List.replicate (N - (j + 1)) 0 ++ (UInt8.ofNat (d % 256) :: L))))
         rw [hD, put_front hk hwk rfl, show N - (j + 1) = k by omega]; exact .refl _
   · intro h2
     have lb : ¬ j < b.length := by
       have : ¬ ((j + 1 : Nat) : Int) ≤ ((b.length : Nat) : Int) := of_decide_eq_false h2
       omega
     have z := d0 lb
     have hE : IntKind.i64.wrap (IntKind.i64.wrap (sb (bs a) (IntKind.i64.wrap ((a.length : Int) - ((j + 1 : Nat) : Int)))) - (c : Int)) = (dgt a j : Int) - (c : Int) - (dgt b j : Int) := by
       rw [hcv a ha la, wrap_i64 (by omega) (by omega)]; omega
     conv => whnf
     refine br_split ?_ ?_
     · intro h3
       have h4 : IntKind.i64.wrap (IntKind.i64.wrap (sb (bs a) (IntKind.i64.wrap ((a.length : Int) - ((j + 1 : Nat) : Int)))) - (c : Int)) < 0 := of_decide_eq_true h3
       rw [hE] at h4
       obtain ⟨d, hd⟩ : ∃ d : Nat, (d : Int) = (dgt a j : Int) - (c : Int) - (dgt b j : Int) + 256 := ⟨((dgt a j : Int) - (c : Int) - (dgt b j : Int) + 256).toNat, by omega⟩
       have hD : IntKind.i64.wrap (IntKind.i64.wrap (IntKind.i64.wrap (sb (bs a) (IntKind.i64.wrap ((a.length : Int) - ((j + 1 : Nat) : Int)))) - (c : Int)) + 256) = (d : Int) := by
         rw [hE, wrap_i64 (by omega) (by omega)]; omega
       conv => whnf
       refine ⟨by rw [hwk2]; show 0 ≤ (k : Int) ∧ (k : Int) < (N : Int); omega, ?_⟩
       conv => whnf
       refine ⟨⟨by rw [hwk2, rowV_length u8c_len]; show (k : Int).toNat * 1 + 1 ≤ _; simp; omega, by decide⟩, ?_⟩
       conv => whnf
       refine ⟨(j + 1, 1, UInt8.ofNat (d % 256) :: L), ⟨by omega, by simp [hL], by decide, ?_⟩, by show N - (j + 1) < N - j; omega, SLe.id ⟨rfl, rfl, rfl, rfl, some_wrap (i := j + 1) (n := N + 1) (by omega) (by omega), trivial⟩ ⟨⟨_, rfl, ?_⟩, trivial⟩ (fun R hR => hR)⟩
       · rw [Nat.mod_eq_of_lt (by omega), nat_cons_lt (by omega), hL, Nat.pow_succ, low_succ, low_succ]
         exact sub_step hinv (by omega)
       · show MEle (ME.own t_uint8 1 N (putN ((IntKind.i64.wrap ((a.length : Int) - ((j + 1 : Nat) : Int))).toNat * 1) [Value.int .u8 (IntKind.u8.wrap (IntKind.i64.wrap (IntKind.i64.wrap (IntKind.i64.wrap (sb (bs a) (IntKind.i64.wrap ((a.length : Int) - ((j + 1 : Nat) : Int)))) - (c : Int)) + 256)))] (rowV u8c (List.replicate (N - j) 0 ++ L)))) (ME.own t_uint8 1 N (rowV u8c (List.replicate (N - (j + 1)) 0 ++ (UInt8.ofNat (d % 256) :: L))))
         rw [hD, put_front hk hwk rfl, show N - (j + 1) = k by omega]; exact .refl _
     · intro h3
       have h4 : ¬ IntKind.i64.wrap (IntKind.i64.wrap (sb (bs a) (IntKind.i64.wrap ((a.length : Int) - ((j + 1 : Nat) : Int)))) - (c : Int)) < 0 := of_decide_eq_false h3
       rw [hE] at h4
       obtain ⟨d, hd⟩ : ∃ d : Nat, (d : Int) = (dgt a j : Int) - (c : Int) - (dgt b j : Int) := ⟨((dgt a j : Int) - (c : Int) - (dgt b j : Int)).toNat, by omega⟩
       have hD : IntKind.i64.wrap (IntKind.i64.wrap (sb (bs a) (IntKind.i64.wrap ((a.length : Int) - ((j + 1 : Nat) : Int)))) - (c : Int)) = (d : Int) := by
         rw [hE, hd]
       conv => whnf
       refine ⟨by rw [hwk2]; show 0 ≤ (k : Int) ∧ (k : Int) < (N : Int); omega, ?_⟩
       conv => whnf
       refine ⟨⟨by rw [hwk2, rowV_length u8c_len]; show (k : Int).toNat * 1 + 1 ≤ _; simp; omega, by decide⟩, ?_⟩
       conv => whnf
       refine ⟨(j + 1, 0, UInt8.ofNat (d % 256) :: L), ⟨by omega, by simp [hL], by decide, ?_⟩, by show N - (j + 1) < N - j; omega, SLe.id ⟨rfl, rfl, rfl, rfl, some_wrap (i := j + 1) (n := N + 1) (by omega) (by omega), trivial⟩ ⟨⟨_, rfl, ?_⟩, trivial⟩ (fun R hR => hR)⟩
       · rw [Nat.mod_eq_of_lt (by omega), nat_cons_lt (by omega), hL, Nat.pow_succ, low_succ, low_succ]
         exact sub_step hinv (by omega)
       · show MEle (ME.own t_uint8 1 N (putN ((IntKind.i64.wrap ((a.length : Int) - ((j + 1 : Nat) : Int))).toNat * 1) [Value.int .u8 (IntKind.u8.wrap (IntKind.i64.wrap (IntKind.i64.wrap (sb (bs a) (IntKind.i64.wrap ((a.length : Int) - ((j + 1 : Nat) : Int)))) - (c : Int))))] (rowV u8c (List.replicate (N - j) 0 ++ L)))) (ME.own t_uint8 1 N (rowV u8c (List.replicate (N - (j + 1)) 0 ++ (UInt8.ofNat (d % 256) :: L))))
         rw [hD, put_front hk hwk rfl, show N - (j + 1) = k by omega]; exact .refl _
 · intro h
   have hj2 : j = N := by
     have : ¬ ((j + 1 : Nat) : Int) ≤ ((a.length : Nat) : Int) := of_decide_eq_false h
     omega
   subst hj2
   rw [low_all (show b.length ≤ j by omega), low_all (show a.length ≤ j by omega)] at hinv
   have hc0 : c = 0 := by
     have h1 := nat_bound (l := L) (k := j) (by omega)
     rcases Nat.eq_zero_or_pos c with h3 | h3
     · exact h3
     · exfalso
       have : 1 * 256 ^ j ≤ c * 256 ^ j := Nat.mul_le_mul_right _ h3
       omega
   rw [hc0, Nat.zero_mul, Nat.add_zero] at hinv
   have hnl : nat L = nat a - nat b := by omega
   conv => whnf
   refine ⟨L, hL, by show (rowV u8c (List.replicate (j - j) 0 ++ L)).take j = bytV L; rw [Nat.sub_self, List.replicate_zero, List.nil_append, rowV_u8]; exact List.take_of_length_le (by simp [bytV, hL]), ?_⟩
   conv => whnf
   refine CallVC.fn (r_trim L) rfl ?_
   rw [stripL_eq, hnl]
   conv => whnf
   exact postV_one rfl
end Go.Sx
end
section
set_option maxRecDepth 10000
set_option maxHeartbeats 2000000
namespace Go.Sx
open Go Go.Proofs
def i64c (x : Nat) : List Value := [.int .i64 (x : Int)]
theorem i64c_len (x : Nat) : (i64c x).length = 1 := rfl
def nvB : List Nat → Nat
 | [] => 0
 | x :: l => x * 256 ^ l.length + nvB l
theorem nvB_zeros (k : Nat) (l : List Nat) : nvB (List.replicate k 0 ++ l) = nvB l := by
 induction k with
 | zero => rfl
 | succ k ih => rw [List.replicate_succ, List.cons_append, nvB, ih]; omega
theorem nvB_drop {l : List Nat} {q : Nat} (h : q < l.length) : nvB (l.drop q) = l.getD q 0 * 256 ^ (l.length - q - 1) + nvB (l.drop (q + 1)) := by
 rw [List.drop_eq_getElem_cons h, nvB, List.length_drop, List.getD_eq_getElem?_getD, List.getElem?_eq_getElem h, show l.length - (q + 1) = l.length - q - 1 by omega]; rfl
theorem nat_drop {l : List UInt8} {q : Nat} (h : q < l.length) : nat (l.drop q) = (l.getD q 0).toNat * 256 ^ (l.length - q - 1) + nat (l.drop (q + 1)) := by
 rw [List.drop_eq_getElem_cons h, nat_cons, List.length_drop, List.getD_eq_getElem?_getD, List.getElem?_eq_getElem h, show l.length - (q + 1) = l.length - q - 1 by omega]; rfl
theorem nvB_bytes : ∀ {l : List Nat}, (∀ x ∈ l, x < 256) → nat (l.map UInt8.ofNat) = nvB l
 | [], _ => rfl
 | x :: l, h => by
   rw [List.map_cons, nat_cons_lt (h x (List.mem_cons_self ..)), nvB, List.length_map, nvB_bytes (fun y hy => h y (List.mem_cons_of_mem _ hy))]
theorem and255 {e : Nat} (h : e < 9223372036854775808) : IntKind.i64.wrap (BitVec.toNat (w := 64) (BitVec.ofInt 64 (e : Int) &&& BitVec.ofInt 64 255) : Int) = ((e % 256 : Nat) : Int) := by
 rw [BitVec.toNat_and, ofInt64_toNat (by omega), show (BitVec.ofInt 64 255).toNat = 2 ^ 8 - 1 from rfl, Nat.and_two_pow_sub_one_eq_mod, wrap_i64 (by omega) (by omega)]
theorem mul_step {e c m ab nU nM nb P R S : Nat} (hP : P = R * S) (he : e = c + m + ab) (h : nU + c * P = nM + nb * R) {a b : Nat} (hab : ab = a * b) {nb' : Nat} (hn : nb = a * nb') :
   e % 256 * P + nU + e / 256 * (P * 256) = (m * P + nM) + (a * (b * S + nb')) * R := by
 have h1 : e * P = e % 256 * P + e / 256 * (P * 256) := by
   have := Nat.mod_add_div e 256
   rw [Nat.mul_comm P 256, ← Nat.mul_assoc, ← Nat.add_mul, Nat.mul_comm _ 256, this]
 have h2 : (a * (b * S + nb')) * R = ab * P + nb * R := by
   rw [hab, hn, hP, Nat.mul_add, Nat.add_mul, Nat.mul_comm R S, ← Nat.mul_assoc a b S, Nat.mul_assoc (a * b) S R]
 have h3 : e * P = c * P + m * P + ab * P := by rw [he, Nat.add_mul, Nat.add_mul]
 omega
theorem set_fr {k : Nat} {M : List Nat} (x y : Nat) : (List.replicate (k + 1) 0 ++ M).set k x = List.replicate k 0 ++ (x :: M) := by
 rw [List.replicate_succ', List.append_assoc, List.set_append_right _ _ (by simp)]
 simp
theorem set_in {k q : Nat} {M U : List Nat} (h : q < M.length) (x : Nat) : (List.replicate k 0 ++ (M.take (q + 1) ++ U)).set (k + q) x = List.replicate k 0 ++ (M.take q ++ (x :: U)) := by
 rw [List.set_append_right _ _ (by simp), List.length_replicate, Nat.add_sub_cancel_left, List.set_append_left _ _ (by rw [List.length_take]; omega)]
 congr 1
 rw [List.take_add_one, List.getElem?_eq_getElem h, Option.toList_some, List.set_append_right _ _ (by rw [List.length_take]; omega), List.append_assoc]
 congr 1
 rw [List.length_take, Nat.min_eq_left (by omega), Nat.sub_self]; rfl
theorem get_in {k q : Nat} {M U : List Nat} (h : q < M.length) : (List.replicate k 0 ++ (M.take (q + 1) ++ U))[k + q]? = some (M.getD q 0) := by
 rw [List.getElem?_append_right (by simp), List.length_replicate, Nat.add_sub_cancel_left, List.getElem?_append_left (by rw [List.length_take]; omega), List.getElem?_take, if_pos (by omega), List.getElem?_eq_getElem h, List.getD_eq_getElem?_getD, List.getElem?_eq_getElem h]; rfl
theorem sb_get (l : List UInt8) (k : Nat) : sb (bs l) (k : Int) = ((l.getD k 0).toNat : Int) := by rw [sb_bs, Int.toNat_natCast]
theorem repl_i64 (n : Nat) : repl n [Value.int .i64 0] = rowV i64c (List.replicate n 0) := by rw [rowV_repl]; rfl
theorem mul_bound {a b : Nat} (ha : a < 256) (hb : b < 256) : a * b ≤ 65025 := by
 have := Nat.mul_le_mul (show a ≤ 255 by omega) (show b ≤ 255 by omega); omega
theorem r_mulMag (a b : List UInt8) (ha : a.length ≤ 500000000) (hb : b.length ≤ 400000000) : Fn PP f_narrowsref01_mulMag [.string (bs a), .string (bs b)] (.string (bs (bytes (nat a * nat b)))) := by
 refine Fn.of TBgood mixed h_narrowsref01_mulMag rfl rfl (Nat.le_of_ble_eq_true rfl) ?_
 intro w
 obtain ⟨n, hn⟩ : ∃ n, n = a.length + b.length := ⟨_, rfl⟩
 have hw0 : IntKind.i64.wrap (((bs a).size : Int) + ((bs b).size : Int)) = (n : Int) := by
   show IntKind.i64.wrap ((a.length : Int) + (b.length : Int)) = _
   rw [wrap_i64 (by omega) (by omega)]; omega
 conv => whnf
 refine ⟨by rw [hw0]; show 0 ≤ (n : Int) ∧ (n : Int) ≤ (n : Int) ∧ ((8 : Nat) : Int) * (n : Int) ≤ 281474976710656 ∧ (n : Int) ≤ 9223372036854775807; omega, ?_⟩
 conv => whnf
 refine sexec_loop (ι := Nat × List Nat × Int) (fun ⟨p, M, z⟩ => ⟨[(0, .o (.v (.string (bs a)))), (1, .o (.v (.string (bs b)))), (5, .o (.w 16)), (6, .o (.v (.int .i64 z)))], [(16, .own t_int 1 n (rowV i64c (List.replicate p 0 ++ M)))], []⟩)
   (fun ⟨p, M, z⟩ => z = (p : Int) - 1 ∧ p ≤ a.length ∧ M.length = n - p ∧ (∀ x ∈ M, x < 256) ∧ nvB M = nat (a.drop p) * nat b) (fun ⟨p, M, z⟩ => p) (a.length, List.replicate b.length 0, (a.length : Int) - 1) ⟨rfl, Nat.le_refl _, by rw [List.length_replicate]; omega, fun x hx => by rw [List.eq_of_mem_replicate hx]; decide, by
     rw [List.drop_length, nat_nil, Nat.zero_mul]
     have := nvB_zeros b.length []
     rw [List.append_nil] at this; exact this⟩ (SLe.id ⟨rfl, rfl, rfl, ?_, trivial⟩ ⟨⟨_, rfl, ?_⟩, trivial⟩ (fun R hR => hR)) ?_
 · show some (SV.o (.v (.int .i64 (IntKind.i64.wrap ((a.length : Int) - 1))))) = some (SV.o (.v (.int .i64 ((a.length : Int) - 1))))
   rw [wrap_i64 (by omega) (by omega)]
 · show MEle (ME.own t_int 1 (IntKind.i64.wrap (((bs a).size : Int) + ((bs b).size : Int))).toNat (repl (IntKind.i64.wrap (((bs a).size : Int) + ((bs b).size : Int))).toNat [Value.int .i64 0])) (ME.own t_int 1 n (rowV i64c (List.replicate a.length 0 ++ List.replicate b.length 0)))
   rw [hw0, Int.toNat_natCast, repl_i64, List.replicate_append_replicate, ← hn]; exact .refl _
 rintro ⟨p1, M, z⟩ ⟨hz, hp, hM, hMb, hv⟩
 conv => whnf
 refine br_split ?_ ?_
 · intro h
   obtain ⟨p, rfl⟩ : ∃ p, p1 = p + 1 := ⟨p1 - 1, by
     have : z ≥ 0 := of_decide_eq_true h
     omega⟩
   obtain rfl : z = (p : Int) := by omega
   have hap : (a.getD p 0).toNat < 256 := (a.getD p 0).toBitVec.isLt
   obtain ⟨x, hx⟩ : ∃ x, x = (a.getD p 0).toNat := ⟨_, rfl⟩
   rw [← hx] at hap
   conv => whnf
   refine sexec_loop (ι := Nat × List Nat × Nat × Int) (fun ⟨q, U, c, z⟩ => ⟨[(0, .o (.v (.string (bs a)))), (1, .o (.v (.string (bs b)))), (5, .o (.w 16)), (6, .o (.v (.int .i64 (p : Int)))), (7, .o (.v (.int .i64 c))), (8, .o (.v (.int .i64 z)))], [(16, .own t_int 1 n (rowV i64c (List.replicate (p + 1) 0 ++ (M.take q ++ U))))], []⟩)
     (fun ⟨q, U, c, z⟩ => z = (q : Int) - 1 ∧ q ≤ b.length ∧ U.length = M.length - q ∧ (∀ x ∈ U, x < 256) ∧ c < 256 ∧ nvB U + c * 256 ^ (M.length - q) = nvB (M.drop q) + x * nat (b.drop q) * 256 ^ (a.length - p - 1)) (fun ⟨q, U, c, z⟩ => q) (b.length, M.drop b.length, 0, (b.length : Int) - 1) ⟨rfl, Nat.le_refl _, by rw [List.length_drop], fun x hx => hMb x (List.mem_of_mem_drop hx), by decide, by
       rw [List.drop_length, nat_nil, Nat.mul_zero, Nat.zero_mul, Nat.zero_mul]⟩ (SLe.id ⟨rfl, rfl, rfl, rfl, rfl, ?_, trivial⟩ ⟨⟨_, rfl, ?_⟩, trivial⟩ (fun R hR => hR)) ?_
   · show some (SV.o (.v (.int .i64 (IntKind.i64.wrap ((b.length : Int) - 1))))) = some (SV.o (.v (.int .i64 ((b.length : Int) - 1))))
     rw [wrap_i64 (by omega) (by omega)]
   · show MEle (ME.own t_int 1 n (rowV i64c (List.replicate (p + 1) 0 ++ M))) (ME.own t_int 1 n (rowV i64c (List.replicate (p + 1) 0 ++ (M.take b.length ++ M.drop b.length))))
     rw [List.take_append_drop]; exact .refl _
   rintro ⟨q1, U, c, z⟩ ⟨hz, hq, hU, hUb, hc, hinv⟩
   conv => whnf
   refine br_split ?_ ?_
   · intro h
     obtain ⟨q, rfl⟩ : ∃ q, q1 = q + 1 := ⟨q1 - 1, by
       have : z ≥ 0 := of_decide_eq_true h
       omega⟩
     obtain rfl : z = (q : Int) := by omega
     have hbq : (b.getD q 0).toNat < 256 := (b.getD q 0).toBitVec.isLt
     obtain ⟨y, hy⟩ : ∃ y, y = (b.getD q 0).toNat := ⟨_, rfl⟩
     rw [← hy] at hbq
     have hqM : q < M.length := by omega
     have hpq : IntKind.i64.wrap (IntKind.i64.wrap ((p : Int) + (q : Int)) + 1) = ((p + 1 + q : Nat) : Int) := by
       rw [wrap_i64 (n := (p : Int) + (q : Int)) (by omega) (by omega), wrap_i64 (by omega) (by omega)]; omega
     have hlen : (List.replicate (p + 1) 0 ++ (M.take (q + 1) ++ U)).length = n := by
       simp only [List.length_append, List.length_replicate, List.length_take]; omega
     conv => whnf
     refine DrawVC.quiet (by kernel_rfl) ?_
     conv => whnf
     refine ⟨by rw [hpq]; show 0 ≤ ((p + 1 + q : Nat) : Int) ∧ ((p + 1 + q : Nat) : Int) < (n : Int); omega, ?_⟩
     conv => whnf
     refine RowVC.elem i64c i64c_len (k := p + 1 + q) (by show (IntKind.i64.wrap (IntKind.i64.wrap ((p : Int) + (q : Int)) + 1)).toNat * 1 = _; rw [hpq, Int.toNat_natCast]) (by omega) (by decide) (fun _ => rfl) ?_
     intro m hm
     rw [get_in hqM] at hm
     have hmb : m < 256 := by
       rw [← Option.some.inj hm, List.getD_eq_getElem?_getD, List.getElem?_eq_getElem hqM]
       exact hMb _ (List.getElem_mem hqM)
     conv => whnf
     refine ⟨by show 0 ≤ (p : Int) ∧ (p : Int) < ((a.length : Nat) : Int); omega, ?_⟩
     conv => whnf
     refine ⟨by show 0 ≤ (q : Int) ∧ (q : Int) < ((b.length : Nat) : Int); omega, ?_⟩
     have hxy := mul_bound hap hbq
     obtain ⟨e, he⟩ : ∃ e, e = c + m + x * y := ⟨_, rfl⟩
     have hE : IntKind.i64.wrap ((c : Int) + IntKind.i64.wrap ((m : Int) + IntKind.i64.wrap (IntKind.i64.wrap (sb (bs a) (p : Int)) * IntKind.i64.wrap (sb (bs b) (q : Int))))) = (e : Int) := by
       rw [sb_get, sb_get, ← hx, ← hy, wrap_i64 (n := (x : Int)) (by omega) (by omega), wrap_i64 (n := (y : Int)) (by omega) (by omega), ← Int.natCast_mul, wrap_i64 (n := ((x * y : Nat) : Int)) (by omega) (by omega), wrap_i64 (n := (m : Int) + ((x * y : Nat) : Int)) (by omega) (by omega), wrap_i64 (by omega) (by omega)]
       omega
     conv => whnf
     refine ⟨by rw [hpq]; show 0 ≤ ((p + 1 + q : Nat) : Int) ∧ ((p + 1 + q : Nat) : Int) < (n : Int); omega, ?_⟩
     conv => whnf
     refine ⟨⟨by rw [hpq, rowV_length i64c_len, hlen]; show ((p + 1 + q : Nat) : Int).toNat * 1 + 1 ≤ n * 1; omega, by decide⟩, ?_⟩
     conv => whnf
     refine ⟨by decide, ?_⟩
     conv => whnf
     refine ⟨(q, e % 256 :: U, e / 256, (q : Int) - 1), ⟨rfl, by omega, by simp [hU]; omega, fun z hz => ?_, by omega, ?_⟩, by show q < q + 1; omega, SLe.id ⟨rfl, rfl, rfl, rfl, ?_, ?_, trivial⟩ ⟨⟨_, rfl, ?_⟩, trivial⟩ (fun R hR => hR)⟩
     · rcases List.mem_cons.1 hz with rfl | hz
       · omega
       · exact hUb z hz
     · have hPl : M.length - (q + 1) = (a.length - p - 1) + (b.length - q - 1) := by omega
       rw [nvB, hU, nvB_drop hqM, Option.some.inj hm, show M.length - q - 1 = M.length - (q + 1) by omega, nat_drop (show q < b.length by omega), ← hy, show M.length - q = M.length - (q + 1) + 1 by omega, Nat.pow_succ]
       exact mul_step (by rw [hPl, Nat.pow_add]) he hinv rfl rfl
     · show some (SV.o (.v (.int .i64 (Int.fdiv (IntKind.i64.wrap ((c : Int) + IntKind.i64.wrap ((m : Int) + IntKind.i64.wrap (IntKind.i64.wrap (sb (bs a) (p : Int)) * IntKind.i64.wrap (sb (bs b) (q : Int)))))) (2 ^ min (8 : Int).toNat IntKind.i64.bits))))) = _
       rw [hE, fdiv8]; rfl
     · show some (SV.o (.v (.int .i64 (IntKind.i64.wrap ((q : Int) - 1))))) = _
       rw [wrap_i64 (by omega) (by omega)]; rfl
     · show MEle (ME.own t_int 1 n (putN ((IntKind.i64.wrap (IntKind.i64.wrap ((p : Int) + (q : Int)) + 1)).toNat * 1) [Value.int .i64 (IntKind.i64.wrap (BitVec.toNat (w := 64) (BitVec.ofInt 64 (IntKind.i64.wrap ((c : Int) + IntKind.i64.wrap ((m : Int) + IntKind.i64.wrap (IntKind.i64.wrap (sb (bs a) (p : Int)) * IntKind.i64.wrap (sb (bs b) (q : Int)))))) &&& BitVec.ofInt 64 255) : Int))] (rowV i64c (List.replicate (p + 1) 0 ++ (M.take (q + 1) ++ U))))) (ME.own t_int 1 n (rowV i64c (List.replicate (p + 1) 0 ++ (M.take q ++ (e % 256 :: U)))))
       rw [hE, and255 (by omega), hpq, Int.toNat_natCast, ← set_in hqM (e % 256), ← rowV_put i64c_len (e % 256) (by omega)]; exact .refl _
   · intro h
     have hq0 : q1 = 0 := by
       have : ¬ z ≥ 0 := of_decide_eq_false h
       omega
     subst hq0
     rw [List.drop_zero, List.drop_zero, Nat.sub_zero] at hinv
     have hdrop := nat_drop (l := a) (q := p) (by omega)
     rw [← hx] at hdrop
     have hval : nvB U + c * 256 ^ M.length = nat (a.drop p) * nat b := by
       rw [hinv, hv, hdrop, Nat.add_mul, Nat.mul_assoc x, Nat.mul_assoc x, Nat.mul_comm (nat b), Nat.add_comm]
     have hlen : (List.replicate (p + 1) 0 ++ ([] ++ U)).length = n := by
       simp only [List.length_append, List.length_replicate, List.length_nil, List.nil_append]; omega
     conv => whnf
     refine ⟨by show 0 ≤ (p : Int) ∧ (p : Int) < (n : Int); omega, ?_⟩
     conv => whnf
     refine RowVC.elem i64c i64c_len (k := p) (by show (p : Int).toNat * 1 = _; rw [Int.toNat_natCast]) (by show p < (List.replicate (p + 1) 0 ++ ([] ++ U)).length; omega) (by decide) (fun _ => rfl) ?_
     intro m hm
     have hm0 : m = 0 := by
       have h2 : (List.replicate (p + 1) 0 ++ ([] ++ U))[p]? = some m := hm
       rw [List.getElem?_append_left (by simp)] at h2
       rw [List.getElem?_replicate, if_pos (by omega)] at h2
       exact (Option.some.inj h2).symm
     subst hm0
     conv => whnf
     refine ⟨by show 0 ≤ (p : Int) ∧ (p : Int) < (n : Int); omega, ?_⟩
     conv => whnf
     refine ⟨⟨by show (p : Int).toNat * 1 + 1 ≤ (rowV i64c (List.replicate (p + 1) 0 ++ ([] ++ U))).length; rw [rowV_length i64c_len, hlen]; omega, by decide⟩, ?_⟩
     conv => whnf
     refine ⟨(p, c :: U, (p : Int) - 1), ⟨rfl, by omega, by simp [hU]; omega, fun z hz => ?_, ?_⟩, by show p < p + 1; omega, SLe.id ⟨rfl, rfl, rfl, ?_, trivial⟩ ⟨⟨_, rfl, ?_⟩, trivial⟩ (fun R hR => hR)⟩
     · rcases List.mem_cons.1 hz with rfl | hz
       · exact hc
       · exact hUb z hz
     · rw [nvB, hU, Nat.sub_zero, Nat.add_comm]; exact hval
     · show some (SV.o (.v (.int .i64 (IntKind.i64.wrap ((p : Int) - 1))))) = _
       rw [wrap_i64 (by omega) (by omega)]; rfl
     · show MEle (ME.own t_int 1 n (putN ((p : Int).toNat * 1) [Value.int .i64 (IntKind.i64.wrap (((0 : Nat) : Int) + (c : Int)))] (rowV i64c (List.replicate (p + 1) 0 ++ ([] ++ U))))) (ME.own t_int 1 n (rowV i64c (List.replicate p 0 ++ (c :: U))))
       rw [wrap_i64 (by omega) (by omega), Int.toNat_natCast, List.nil_append, ← set_fr c 0, ← rowV_put i64c_len c (by simp; omega), show ((0 : Nat) : Int) + (c : Int) = (c : Int) by omega]; exact .refl _
 · intro h
   have hp0 : p1 = 0 := by
     have : ¬ z ≥ 0 := of_decide_eq_false h
     omega
   subst hp0
   rw [List.drop_zero] at hv
   have hMn : M.length = n := by omega
   conv => whnf
   refine ⟨by show 0 ≤ (n : Int) ∧ (n : Int) ≤ (n : Int) ∧ ((1 : Nat) : Int) * (n : Int) ≤ 281474976710656 ∧ (n : Int) ≤ 9223372036854775807; omega, ?_⟩
   conv => whnf
   refine sexec_loop (ι := Nat) (fun i => ⟨[(5, .o (.w 16)), (9, .o (.w 69)), (10, .o (.v (.int .i64 i)))], [(16, .own t_int 1 n (rowV i64c M)), (69, .own t_uint8 1 n (rowV u8c ((M.take i).map UInt8.ofNat ++ List.replicate (n - i) 0)))], []⟩)
     (fun i => i ≤ n) (fun i => n - i) 0 (Nat.zero_le _) (SLe.id ⟨rfl, rfl, rfl, trivial⟩ ⟨⟨_, rfl, .refl _⟩, ⟨_, rfl, ?_⟩, trivial⟩ (fun R hR => hR)) ?_
   · show MEle (ME.own t_uint8 1 (n : Int).toNat (repl (n : Int).toNat [Value.int .u8 0])) (ME.own t_uint8 1 n (rowV u8c (List.replicate (n - 0) 0)))
     rw [Int.toNat_natCast, rep_front]; exact .refl _
   intro i hi
   conv => whnf
   refine br_split ?_ ?_
   · intro h
     have hi2 : i < n := by
       have : (i : Int) < (n : Int) := of_decide_eq_true h
       omega
     conv => whnf
     refine ⟨by show 0 ≤ (i : Int) ∧ (i : Int) < (n : Int); omega, ?_⟩
     conv => whnf
     refine RowVC.elem i64c i64c_len (k := i) (by show (i : Int).toNat * 1 = _; rw [Int.toNat_natCast]) (by omega) (by decide) (fun _ => rfl) ?_
     intro m hm
     have hmb := hMb m (List.mem_of_getElem? hm)
     conv => whnf
     refine ⟨by show 0 ≤ (i : Int) ∧ (i : Int) < (n : Int); omega, ?_⟩
     conv => whnf
     refine ⟨⟨by show (i : Int).toNat * 1 + 1 ≤ (rowV u8c ((M.take i).map UInt8.ofNat ++ List.replicate (n - i) 0)).length; rw [rowV_length u8c_len]; simp; omega, by decide⟩, ?_⟩
     conv => whnf
     refine ⟨i + 1, by omega, by omega, SLe.id ⟨rfl, rfl, some_wrap hi2 (by omega), trivial⟩ ⟨⟨_, rfl, .refl _⟩, ⟨_, rfl, ?_⟩, trivial⟩ (fun R hR => hR)⟩
     show MEle (ME.own t_uint8 1 n (putN ((i : Int).toNat * 1) [Value.int .u8 (IntKind.u8.wrap (m : Int))] (rowV u8c ((M.take i).map UInt8.ofNat ++ List.replicate (n - i) 0)))) (ME.own t_uint8 1 n (rowV u8c ((M.take (i + 1)).map UInt8.ofNat ++ List.replicate (n - (i + 1)) 0)))
     have hput := rowV_put (f := u8c) u8c_len (k := i) (l := (M.take i).map UInt8.ofNat ++ List.replicate (n - i) 0) (UInt8.ofNat (m % 256)) (by simp; omega)
     have hset : ((M.take i).map UInt8.ofNat ++ List.replicate (n - i) 0).set i (UInt8.ofNat (m % 256)) = (M.take (i + 1)).map UInt8.ofNat ++ List.replicate (n - (i + 1)) 0 := by
       rw [List.set_append_right _ _ (by simp; omega), List.length_map, List.length_take, Nat.min_eq_left (by omega), Nat.sub_self, show n - i = (n - (i + 1)) + 1 by omega, List.replicate_succ, List.set_cons_zero, take_snoc' hm, List.map_append, List.append_assoc, Nat.mod_eq_of_lt hmb]; rfl
     rw [hset] at hput
     rw [Int.toNat_natCast, u8_mod, ← hput]; exact .refl _
   · intro h
     have hi2 : i = n := by
       have : ¬ (i : Int) < (n : Int) := of_decide_eq_false h
       omega
     subst hi2
     conv => whnf
     refine ⟨M.map UInt8.ofNat, by rw [List.length_map, hMn], ?_, ?_⟩
     · show (rowV u8c ((M.take i).map UInt8.ofNat ++ List.replicate (i - i) 0)).take i = _
       rw [show M.take i = M from List.take_of_length_le (by omega), Nat.sub_self, List.replicate_zero, List.append_nil, rowV_u8]
       exact List.take_of_length_le (by simp [bytV, hMn])
     conv => whnf
     refine CallVC.fn (r_trim (M.map UInt8.ofNat)) rfl ?_
     rw [stripL_eq, nvB_bytes hMb, hv]
     conv => whnf
     exact postV_one rfl
end Go.Sx
end
section
set_option maxRecDepth 10000
set_option maxHeartbeats 2000000
namespace Go.Sx
open Go Go.Proofs
def strC (n : Nat) : List Value := [.string (bs (bytes n))]
theorem strC_len (n : Nat) : (strC n).length = 1 := rfl
def timesL (y i : Nat) : List Nat := (List.range 8).map fun j => if j < i then y * 2 ^ j else 0
theorem timesL_len (y i : Nat) : (timesL y i).length = 8 := by simp [timesL]
theorem timesL_get (y i j : Nat) (h : j < 8) : (timesL y i)[j]? = some (if j < i then y * 2 ^ j else 0) := by
 unfold timesL; rw [List.getElem?_map, List.getElem?_range h]; rfl
theorem timesL_set (y i : Nat) (h : i < 8) : (timesL y i).set i (y * 2 ^ i) = timesL y (i + 1) := by
 apply List.ext_getElem?
 intro j
 rw [List.getElem?_set]
 by_cases hj : j < 8
 · rw [timesL_get y (i + 1) j hj]
   by_cases e : i = j
   · subst e; rw [if_pos rfl, if_pos (by rw [timesL_len]; exact h), if_pos (by omega)]
   · rw [if_neg e, timesL_get y i j hj]
     by_cases h2 : j < i
     · rw [if_pos h2, if_pos (by omega)]
     · rw [if_neg h2, if_neg (by omega)]
 · rw [List.getElem?_eq_none (by rw [timesL_len]; omega), List.getElem?_eq_none (by rw [timesL_len]; omega), if_neg (by omega)]
theorem bytes_mono {m n : Nat} (h : m ≤ n) : (bytes m).length ≤ (bytes n).length := by
 rcases Nat.lt_or_ge (bytes n).length (bytes m).length with h1 | h1
 · have := bytes_lt_of_len h1; omega
 · exact h1
theorem bytes_len_mul {n k : Nat} : (bytes (n * 256 ^ k)).length ≤ (bytes n).length + k := by
 refine bytes_len ?_
 have := nat_lt (bytes n)
 rw [nat_bytes] at this
 rw [Nat.pow_add]
 exact Nat.mul_lt_mul_of_pos_right this (Nat.pow_pos (by decide))
theorem r_divMag (x y : Nat) (hx : (bytes x).length ≤ 300000000) (hy : (bytes y).length ≤ 300000000) (hy0 : 0 < y) :
   Fn PP f_narrowsref01_divMag [.string (bs (bytes x)), .string (bs (bytes y))] (.tuple #[.string (bs (bytes (x / y))), .string (bs (bytes (x % y)))]) := by
 refine Fn.of TBgood mixed h_narrowsref01_divMag rfl rfl (Nat.le_of_ble_eq_true rfl) ?_
 intro w
 obtain ⟨a, ha⟩ : ∃ a, a = bytes x := ⟨_, rfl⟩
 have hax : nat a = x := by rw [ha, nat_bytes]
 rw [← ha] at hx ⊢
 have hty : ∀ j, j ≤ 8 → (bytes (y * 2 ^ j)).length ≤ 300000001 := fun j hj => by
   have h1 : y * 2 ^ j ≤ y * 256 ^ 1 := Nat.mul_le_mul_left _ (Nat.le_trans (Nat.pow_le_pow_right (by decide) hj) (by decide))
   have := bytes_mono h1
   have := bytes_len_mul (n := y) (k := 1)
   omega
 conv => whnf
 refine ⟨by decide, ?_⟩
 conv => whnf
 refine sexec_loop (ι := Nat) (fun i => ⟨[(0, .o (.v (.string (bs a)))), (6, .o (.p 6 0)), (7, .o (.v (.int .i64 i)))], [(6, .sym (rowV strC (timesL y i)) t_ar8_string)], []⟩)
   (fun i => 1 ≤ i ∧ i ≤ 8) (fun i => 8 - i) 1 ⟨Nat.le_refl _, by decide⟩ (SLe.id ⟨rfl, rfl, rfl, trivial⟩ ⟨⟨_, rfl, .sym _ ?_⟩, trivial⟩ (fun R hR => hR)) ?_
 · have e : timesL y 1 = [y, 0, 0, 0, 0, 0, 0, 0] := by simp [timesL, List.range_succ]
   rw [e]
   simp only [rowV, strC, bytes_zero]
   rfl
 rintro i ⟨hi1, hi⟩
 conv => whnf
 refine br_split ?_ ?_
 · intro h
   have hi2 : i < 8 := by
     have : (i : Int) < 8 := of_decide_eq_true h
     omega
   obtain ⟨j, rfl⟩ : ∃ j, i = j + 1 := ⟨i - 1, by omega⟩
   have hw : IntKind.i64.wrap (((j + 1 : Nat) : Int) - 1) = (j : Int) := by rw [wrap_i64 (by omega) (by omega)]; omega
   have hg := timesL_get y (j + 1) j (by omega)
   rw [if_pos (by omega)] at hg
   conv => whnf
   refine DrawVC.quiet (by kernel_rfl) ?_
   conv => whnf
   refine ⟨by rw [hw]; show 0 ≤ (j : Int) ∧ (j : Int) < ((8 : Nat) : Int); omega, ?_⟩
   conv => whnf
   refine RowVC.elem strC strC_len (k := j) (by show 0 + (IntKind.i64.wrap (((j + 1 : Nat) : Int) - 1)).toNat * 1 = _; rw [hw, Int.toNat_natCast]; omega) (by rw [timesL_len]; omega) (by decide) (fun _ => rfl) ?_
   intro m hm
   obtain rfl : m = y * 2 ^ j := by rw [hg] at hm; exact (Option.some.inj hm).symm
   conv => whnf
   refine ⟨by rw [hw]; show 0 ≤ (j : Int) ∧ (j : Int) < ((8 : Nat) : Int); omega, ?_⟩
   conv => whnf
   refine RowVC.elem strC strC_len (k := j) (by show 0 + (IntKind.i64.wrap (((j + 1 : Nat) : Int) - 1)).toNat * 1 = _; rw [hw, Int.toNat_natCast]; omega) (by rw [timesL_len]; omega) (by decide) (fun _ => rfl) ?_
   intro m hm
   obtain rfl : m = y * 2 ^ j := by rw [hg] at hm; exact (Option.some.inj hm).symm
   conv => whnf
   have hl := hty j (by omega)
   refine CallVCd.fn (r_addMag (bytes (y * 2 ^ j)) (bytes (y * 2 ^ j)) (by omega) (by omega)) rfl ?_
   rw [nat_bytes, show y * 2 ^ j + y * 2 ^ j = y * 2 ^ (j + 1) by rw [Nat.pow_succ, ← Nat.mul_assoc]; omega]
   conv => whnf
   refine ⟨by show 0 ≤ ((j + 1 : Nat) : Int) ∧ ((j + 1 : Nat) : Int) < ((8 : Nat) : Int); omega, ?_⟩
   conv => whnf
   refine ⟨by show 0 + ((j + 1 : Nat) : Int).toNat * 1 + 1 ≤ (rowV strC (timesL y (j + 1))).length; rw [rowV_length strC_len, timesL_len, Int.toNat_natCast]; omega, ?_⟩
   conv => whnf
   refine ⟨j + 2, ⟨by omega, by omega⟩, by omega, SLe.id ⟨rfl, rfl, some_wrap hi2 (by omega), trivial⟩ ⟨⟨_, rfl, ?_⟩, trivial⟩ (fun R hR => hR)⟩
   show MEle (ME.sym (putN (0 + ((j + 1 : Nat) : Int).toNat * 1) (strC (y * 2 ^ (j + 1))) (rowV strC (timesL y (j + 1)))) _) (ME.sym (rowV strC (timesL y (j + 2))) _)
   rw [Int.toNat_natCast, Nat.zero_add, rowV_put strC_len (y * 2 ^ (j + 1)) (by rw [timesL_len]; omega), timesL_set y (j + 1) hi2]
   exact .refl _
 intro h
 have hi2 : i = 8 := by
   have : ¬ (i : Int) < 8 := of_decide_eq_false h
   omega
 subst hi2
 have hts : ∀ k, k < 8 → (timesL y 8)[k]? = some (y * 2 ^ k) := fun k hk => by rw [timesL_get y 8 k hk, if_pos hk]
 obtain ⟨n, hn⟩ : ∃ n, n = a.length := ⟨_, rfl⟩
 conv => whnf
 refine ⟨by show 0 ≤ ((a.length : Nat) : Int) ∧ ((a.length : Nat) : Int) ≤ ((a.length : Nat) : Int) ∧ ((1 : Nat) : Int) * ((a.length : Nat) : Int) ≤ 281474976710656 ∧ ((a.length : Nat) : Int) ≤ 9223372036854775807; omega, ?_⟩
 conv => whnf
 refine sexec_loop (ι := Nat × List UInt8 × Nat) (fun ⟨i, L, r⟩ => ⟨[(0, .o (.v (.string (bs a)))), (6, .o (.p 6 0)), (8, .o (.w 32)), (9, .o (.v (.string (bs (bytes r))))), (10, .o (.v (.int .i64 i)))], [(6, .sym (rowV strC (timesL y 8)) t_ar8_string), (32, .own t_uint8 1 n (rowV u8c (L ++ List.replicate (n - i) 0)))], []⟩)
   (fun ⟨i, L, r⟩ => i ≤ n ∧ L.length = i ∧ nat L = nat (a.take i) / y ∧ r = nat (a.take i) % y) (fun ⟨i, L, r⟩ => n - i) (0, [], 0) ⟨Nat.zero_le _, rfl, by rw [List.take_zero, nat_nil, Nat.zero_div], by rw [List.take_zero, nat_nil, Nat.zero_mod]⟩ (SLe.id ⟨rfl, rfl, rfl, ?_, rfl, trivial⟩ ⟨⟨_, rfl, .refl _⟩, ⟨_, rfl, ?_⟩, trivial⟩ (fun R hR => hR)) ?_
 · rw [bytes_zero]; rfl
 · show MEle (ME.own t_uint8 1 ((a.length : Nat) : Int).toNat (repl ((a.length : Nat) : Int).toNat [Value.int .u8 0])) (ME.own t_uint8 1 n (rowV u8c ([] ++ List.replicate (n - 0) 0)))
   rw [← hn, Int.toNat_natCast, rep_front]; exact .refl _
 rintro ⟨i, L, r⟩ ⟨hi, hL, hq, hr⟩
 conv => whnf
 refine br_split ?_ ?_
 · intro h
   have hi2 : i < n := by
     have : (i : Int) < ((a.length : Nat) : Int) := of_decide_eq_true h
     omega
   obtain ⟨d0, hd0⟩ : ∃ d0, a[i]? = some d0 := ⟨_, List.getElem?_eq_getElem (by omega)⟩
   have hwi : IntKind.i64.wrap ((i : Int) + 1) = ((i + 1 : Nat) : Int) := wrap_succ hi2 (by omega)
   have hry : r < y := by rw [hr]; exact Nat.mod_lt _ hy0
   have hlr := bytes_mono (Nat.le_of_lt hry)
   have hd0b : d0.toNat < 256 := d0.toBitVec.isLt
   have hext : (bs a).extract (i : Int).toNat (IntKind.i64.wrap ((i : Int) + 1)).toNat = bs [d0] := by
     rw [hwi, Int.toNat_natCast, Int.toNat_natCast, bs_extract, take_snoc' hd0, List.drop_append_of_le_length (by rw [List.length_take]; omega), List.drop_of_length_le (by rw [List.length_take]; omega)]; rfl
   obtain ⟨V, hV⟩ : ∃ V, V = r * 256 + d0.toNat := ⟨_, rfl⟩
   have hnatV : nat (bytes r ++ [d0]) = V := by rw [nat_snoc, nat_bytes]; omega
   conv => whnf
   refine ⟨by rw [hwi]; show 0 ≤ (i : Int) ∧ (i : Int) ≤ ((i + 1 : Nat) : Int) ∧ ((i + 1 : Nat) : Int) ≤ ((a.length : Nat) : Int); omega, ?_⟩
   rw [hext]
   conv => whnf
   refine ⟨by show (((bytes r).length + 1 : Nat) : Int) ≤ 9223372036854775807; omega, ?_⟩
   rw [bs_append]
   conv => whnf
   refine CallVC.fn (r_trim (bytes r ++ [d0])) rfl ?_
   rw [stripL_eq, hnatV]
   conv => whnf
   refine sexec_loop (ι := Nat × Nat × Nat × Int) (fun ⟨k, R, d, z⟩ => ⟨[(0, .o (.v (.string (bs a)))), (6, .o (.p 6 0)), (8, .o (.w 32)), (9, .o (.v (.string (bs (bytes R))))), (10, .o (.v (.int .i64 i))), (11, .o (.v (.int .i64 d))), (12, .o (.v (.int .i64 z)))], [(6, .sym (rowV strC (timesL y 8)) t_ar8_string), (32, .own t_uint8 1 n (rowV u8c (L ++ List.replicate (n - i) 0)))], []⟩)
     (fun ⟨k, R, d, z⟩ => z = (k : Int) - 1 ∧ k ≤ 8 ∧ R + d * y = V ∧ R < y * 2 ^ k ∧ d + 2 ^ k ≤ 256) (fun ⟨k, R, d, z⟩ => k) (8, V, 0, 7) ⟨rfl, Nat.le_refl _, by omega, by rw [hV]; omega, by decide⟩ (SLe.id ⟨rfl, rfl, rfl, rfl, rfl, rfl, rfl, trivial⟩ ⟨⟨_, rfl, .refl _⟩, ⟨_, rfl, .refl _⟩, trivial⟩ (fun R hR => hR)) ?_
   rintro ⟨k1, R, d, z⟩ ⟨hz, hk8, hRV, hRy, hd⟩
   conv => whnf
   refine br_split ?_ ?_
   · intro h
     obtain ⟨k, rfl⟩ : ∃ k, k1 = k + 1 := ⟨k1 - 1, by
       have : z ≥ 0 := of_decide_eq_true h
       omega⟩
     obtain rfl : z = (k : Int) := by omega
     have hR9 : (bytes R).length ≤ 300000001 := by
       have h1 : R ≤ y * 2 ^ 8 := Nat.le_trans (Nat.le_of_lt hRy) (Nat.mul_le_mul_left _ (Nat.pow_le_pow_right (by decide) hk8))
       have := bytes_mono h1
       have := hty 8 (Nat.le_refl _)
       omega
     have hpow : 2 ^ (k + 1) = 2 ^ k + 2 ^ k := by rw [Nat.pow_succ]; omega
     rw [hpow] at hRy hd
     rw [Nat.mul_add] at hRy
     have hdec : IntKind.i64.wrap ((k : Int) - 1) = (k : Int) - 1 := wrap_i64 (by omega) (by omega)
     conv => whnf
     refine ⟨by show 0 ≤ (k : Int) ∧ (k : Int) < ((8 : Nat) : Int); omega, ?_⟩
     conv => whnf
     refine RowVC.elem strC strC_len (k := k) (by show 0 + (k : Int).toNat * 1 = _; rw [Int.toNat_natCast]; omega) (by rw [timesL_len]; omega) (by decide) (fun _ => rfl) ?_
     intro m hm
     obtain rfl : m = y * 2 ^ k := by rw [hts k (by omega)] at hm; exact (Option.some.inj hm).symm
     conv => whnf
     refine CallVC.fn (r_compareMag R (y * 2 ^ k)) rfl ?_
     by_cases hge : y * 2 ^ k ≤ R
     · have hcmp : cmpN R (y * 2 ^ k) = 0 ∨ cmpN R (y * 2 ^ k) = 1 := by
         unfold cmpN; rw [if_neg (by omega)]; split
         · exact .inr rfl
         · exact .inl rfl
       conv => whnf
       refine br_true (decide_eq_true (by rcases hcmp with e | e <;> rw [e] <;> decide)) ?_
       conv => whnf
       refine ⟨by show 0 ≤ (k : Int) ∧ (k : Int) < ((8 : Nat) : Int); omega, ?_⟩
       conv => whnf
       refine RowVC.elem strC strC_len (k := k) (by show 0 + (k : Int).toNat * 1 = _; rw [Int.toNat_natCast]; omega) (by rw [timesL_len]; omega) (by decide) (fun _ => rfl) ?_
       intro m hm
       obtain rfl : m = y * 2 ^ k := by rw [hts k (by omega)] at hm; exact (Option.some.inj hm).symm
       conv => whnf
       refine CallVC.fn (r_subMag (bytes R) (bytes (y * 2 ^ k)) (by omega) (bytes_mono hge) (by rw [nat_bytes, nat_bytes]; exact hge)) rfl ?_
       rw [nat_bytes, nat_bytes]
       conv => whnf
       have hkw : IntKind.u64.wrap (k : Int) = (k : Int) := by rw [IntKind.wrap_u64]; omega
       refine ⟨by rw [hkw]; omega, ?_⟩
       conv => whnf
       have hgen : ∀ (P : Nat), d + (P + P) ≤ 256 → IntKind.i64.wrap ((d : Int) + IntKind.i64.wrap (P : Int)) = ((d + P : Nat) : Int) := fun P hP => by
         rw [wrap_i64 (n := (P : Int)) (by omega) (by omega), wrap_i64 (by omega) (by omega)]; omega
       have hsh : IntKind.i64.wrap ((d : Int) + IntKind.i64.wrap (1 * 2 ^ min (IntKind.u64.wrap (k : Int)).toNat IntKind.i64.bits)) = ((d + 2 ^ k : Nat) : Int) := by
         rw [hkw, Int.toNat_natCast, Nat.min_eq_left (show k ≤ IntKind.i64.bits by show k ≤ 64; omega), Int.one_mul, show ((2 : Int) ^ k) = ((2 ^ k : Nat) : Int) by rw [Int.natCast_pow]; rfl, hgen _ hd]
       refine ⟨(k, R - y * 2 ^ k, d + 2 ^ k, (k : Int) - 1), ⟨rfl, by omega, ?_, by omega, by omega⟩, by show k < k + 1; omega, SLe.id ⟨rfl, rfl, rfl, rfl, rfl, ?_, ?_, trivial⟩ ⟨⟨_, rfl, .refl _⟩, ⟨_, rfl, .refl _⟩, trivial⟩ (fun R hR => hR)⟩
       · rw [Nat.add_mul, Nat.mul_comm (2 ^ k) y]; omega
       · show some (SV.o (.v (.int .i64 (IntKind.i64.wrap ((d : Int) + IntKind.i64.wrap (1 * 2 ^ min (IntKind.u64.wrap (k : Int)).toNat IntKind.i64.bits)))))) = _
         rw [hsh]; rfl
       · show some (SV.o (.v (.int .i64 (IntKind.i64.wrap ((k : Int) - 1))))) = _
         rw [hdec]; rfl
     · have hcmp : cmpN R (y * 2 ^ k) = -1 := by unfold cmpN; rw [if_pos (by omega)]
       rw [hcmp]
       conv => whnf
       refine ⟨(k, R, d, (k : Int) - 1), ⟨rfl, by omega, hRV, by omega, Nat.le_trans (Nat.add_le_add_left (Nat.le_add_right _ _) _) hd⟩, by show k < k + 1; omega, SLe.id ⟨rfl, rfl, rfl, rfl, rfl, rfl, ?_, trivial⟩ ⟨⟨_, rfl, .refl _⟩, ⟨_, rfl, .refl _⟩, trivial⟩ (fun R hR => hR)⟩
       show some (SV.o (.v (.int .i64 (IntKind.i64.wrap ((k : Int) - 1))))) = _
       rw [hdec]; rfl
   · intro h
     have hk0 : k1 = 0 := by
       have : ¬ z ≥ 0 := of_decide_eq_false h
       omega
     subst hk0
     rw [Nat.pow_zero, Nat.mul_one] at hRy
     have hR2 : R = V % y := by rw [← hRV, Nat.add_mul_mod_self_right, Nat.mod_eq_of_lt hRy]
     have hd2 : d = V / y := by rw [← hRV, Nat.add_mul_div_right _ _ hy0, Nat.div_eq_of_lt hRy, Nat.zero_add]
     have hA : nat (a.take (i + 1)) = nat (a.take i) / y * 256 * y + V := by
       rw [take_snoc' hd0, nat_snoc, hV, hr]
       have := Nat.div_add_mod (nat (a.take i)) y
       generalize nat (a.take i) / y = Q at *
       generalize nat (a.take i) % y = M at *
       rw [← this, Nat.mul_assoc Q 256 y, Nat.mul_comm 256 y, ← Nat.mul_assoc, Nat.mul_comm Q y, Nat.mul_add]; omega
     have hm2 : nat (a.take (i + 1)) % y = R := by rw [hA, Nat.add_comm, Nat.add_mul_mod_self_right, hR2]
     have hq2 : nat (a.take (i + 1)) / y = nat (a.take i) / y * 256 + d := by rw [hA, Nat.add_comm, Nat.add_mul_div_right _ _ hy0, hd2, Nat.add_comm]
     have hdb : d < 256 := by omega
     conv => whnf
     refine ⟨by show 0 ≤ (i : Int) ∧ (i : Int) < ((n : Nat) : Int); omega, ?_⟩
     conv => whnf
     refine ⟨⟨by show (i : Int).toNat * 1 + 1 ≤ (rowV u8c (L ++ List.replicate (n - i) 0)).length; rw [rowV_length u8c_len]; simp; omega, by decide⟩, ?_⟩
     conv => whnf
     refine ⟨(i + 1, L ++ [UInt8.ofNat (d % 256)], R), ⟨by omega, by simp [hL], ?_, hm2.symm⟩, by show n - (i + 1) < n - i; omega, SLe.id ⟨rfl, rfl, rfl, rfl, some_wrap hi2 (by omega), trivial⟩ ⟨⟨_, rfl, .refl _⟩, ⟨_, rfl, ?_⟩, trivial⟩ (fun R hR => hR)⟩
     · rw [nat_snoc, hq, hq2, UInt8.toNat_ofNat', Nat.mod_mod, Nat.mod_eq_of_lt hdb]; omega
     · show MEle (ME.own t_uint8 1 n (putN ((i : Int).toNat * 1) [Value.int .u8 (IntKind.u8.wrap (d : Int))] (rowV u8c (L ++ List.replicate (n - i) 0)))) (ME.own t_uint8 1 n (rowV u8c ((L ++ [UInt8.ofNat (d % 256)]) ++ List.replicate (n - (i + 1)) 0)))
       have hput := rowV_put (f := u8c) u8c_len (k := i) (l := L ++ List.replicate (n - i) 0) (UInt8.ofNat (d % 256)) (by simp; omega)
       have hset : (L ++ List.replicate (n - i) 0).set i (UInt8.ofNat (d % 256)) = (L ++ [UInt8.ofNat (d % 256)]) ++ List.replicate (n - (i + 1)) 0 := by
         rw [List.set_append_right _ _ (by omega), hL, Nat.sub_self, show n - i = (n - (i + 1)) + 1 by omega, List.replicate_succ, List.set_cons_zero, List.append_assoc]; rfl
       rw [hset] at hput
       rw [Int.toNat_natCast, u8_mod, ← hput]; exact .refl _
 · intro h
   have hi2 : i = n := by
     have : ¬ (i : Int) < ((a.length : Nat) : Int) := of_decide_eq_false h
     omega
   subst hi2
   have hall : a.take i = a := List.take_of_length_le (by omega)
   rw [hall, hax] at hq hr
   conv => whnf
   refine ⟨L, hL, ?_, ?_⟩
   · show (rowV u8c (L ++ List.replicate (i - i) 0)).take i = _
     rw [Nat.sub_self, List.replicate_zero, List.append_nil, rowV_u8]
     exact List.take_of_length_le (by simp [bytV, hL])
   conv => whnf
   refine CallVC.fn (r_trim L) rfl ?_
   rw [stripL_eq, hq]
   conv => whnf
   subst hr
   exact postV_two rfl
end Go.Sx
end
section
set_option maxRecDepth 10000
set_option maxHeartbeats 2000000
namespace Go.Sx
open Go Go.Proofs
theorem lt8 {z : Int} (h : (bytes z.natAbs).length ≤ 7) : z.natAbs < 72057594037927936 := by
 have := nat7 h
 rwa [nat_bytes] at this
theorem r_valueZ (z : Int) (h : (bytes z.natAbs).length ≤ 7) : Fn PP f_narrowsref01_value [zV z] (.int .i64 z) := by
 have := r_value (decide (z < 0)) (bytes z.natAbs) h
 rw [nat_bytes, sg_z] at this
 exact this
theorem zV_same {z : Int} {b : Bool} {n : Nat} (h : z = sg b n) (hb : n = 0 → b = false) : zV z = intV b (bs (bytes n)) := by
 subst h
 rw [zV, sg_natAbs]
 rcases Nat.eq_zero_or_pos n with h0 | h0
 · rw [hb h0, h0]; rfl
 · rw [sg_neg h0]
theorem beqB {x y : Bool} (h : (x == y) = true) : x = y := by simpa using h
theorem bneB {x y : Bool} (h : (x == y) = false) : x ≠ y := by simpa using h
theorem r_Add (a b : Bool) (l m : List UInt8) (hl : l.length ≤ 500000000) (hm : m.length ≤ 500000000) : Fn PP f_narrowsref01_Add [intV a (bs l), intV b (bs m)] (zV (sg a (nat l) + sg b (nat m))) := by
 refine Fn.of TBgood mixed h_narrowsref01_Add rfl rfl (Nat.le_of_ble_eq_true rfl) ?_
 intro w
 obtain ⟨X, hX⟩ : ∃ X, X = sg a (nat l) := ⟨_, rfl⟩
 obtain ⟨Y, hY⟩ : ∃ Y, Y = sg b (nat m) := ⟨_, rfl⟩
 have hXl : (bytes X.natAbs).length ≤ 500000000 := by rw [hX, sg_natAbs]; exact Nat.le_trans (bytes_nat_len _) hl
 have hYl : (bytes Y.natAbs).length ≤ 500000000 := by rw [hY, sg_natAbs]; exact Nat.le_trans (bytes_nat_len _) hm
 have cX := r_Canonical a l
 have cY := r_Canonical b m
 rw [← hX] at cX ⊢
 rw [← hY] at cY ⊢
 conv => whnf
 refine DrawVC.quiet (by kernel_rfl) ?_
 conv => whnf
 refine CallVCd.fn cX rfl ?_
 conv => whnf
 refine CallVCd.fn cY rfl ?_
 conv => whnf
 by_cases hs : (bytes X.natAbs).length ≤ 7 ∧ (bytes Y.natAbs).length ≤ 7
 · refine br_true (decide_eq_true (show ((bytes X.natAbs).length : Int) < 8 by omega)) ?_
   conv => whnf
   refine br_true (decide_eq_true (show ((bytes Y.natAbs).length : Int) < 8 by omega)) ?_
   have h1 := lt8 hs.1
   have h2 := lt8 hs.2
   conv => whnf
   refine DrawVC.quiet (by kernel_rfl) ?_
   conv => whnf
   refine CallVCd.fn (r_valueZ X hs.1) rfl ?_
   conv => whnf
   refine CallVCd.fn (r_valueZ Y hs.2) rfl ?_
   conv => whnf
   have hw : IntKind.i64.wrap (X + Y) = X + Y := wrap_i64 (by omega) (by omega)
   refine CallVCd.fn (r := zV (X + Y)) (r_Of (X + Y) (by omega) (by omega)) (congrArg (fun z => [SV.o (.v (.int .i64 z))]) hw) ?_
   conv => whnf
   exact postV_one rfl
 have hc : ¬ (bytes X.natAbs).length ≤ 7 ∨ ((bytes X.natAbs).length ≤ 7 ∧ ¬ (bytes Y.natAbs).length ≤ 7) := by omega
 have hsame : decide (X < 0) = decide (Y < 0) → intV (decide (X < 0)) (bs (bytes (X.natAbs + Y.natAbs))) = zV (X + Y) := fun h => by
   refine (zV_same ?_ ?_).symm
   · have h1 := decide_eq_decide.1 h
     unfold sg
     by_cases h2 : X < 0
     · rw [decide_eq_true h2, if_pos rfl]; omega
     · rw [decide_eq_false h2, if_neg (by decide)]; omega
   · intro h0; exact decide_eq_false (by omega)
 have hleft : decide (X < 0) ≠ decide (Y < 0) → Y.natAbs < X.natAbs → intV (decide (X < 0)) (bs (bytes (X.natAbs - Y.natAbs))) = zV (X + Y) := fun h hlt => by
   refine (zV_same ?_ (by omega)).symm
   unfold sg
   by_cases h2 : X < 0 <;> by_cases h3 : Y < 0
   · exact absurd (by rw [decide_eq_true h2, decide_eq_true h3]) h
   · rw [decide_eq_true h2, if_pos rfl]; omega
   · rw [decide_eq_false h2, if_neg (by decide)]; omega
   · exact absurd (by rw [decide_eq_false h2, decide_eq_false h3]) h
 have hright : decide (X < 0) ≠ decide (Y < 0) → X.natAbs < Y.natAbs → intV (decide (Y < 0)) (bs (bytes (Y.natAbs - X.natAbs))) = zV (X + Y) := fun h hlt => by
   refine (zV_same ?_ (by omega)).symm
   unfold sg
   by_cases h2 : X < 0 <;> by_cases h3 : Y < 0
   · exact absurd (by rw [decide_eq_true h2, decide_eq_true h3]) h
   · rw [decide_eq_false h3, if_neg (by decide)]; omega
   · rw [decide_eq_true h3, if_pos rfl]; omega
   · exact absurd (by rw [decide_eq_false h2, decide_eq_false h3]) h
 have hz : decide (X < 0) ≠ decide (Y < 0) → X.natAbs = Y.natAbs → intV false ⟨#[]⟩ = zV (X + Y) := fun h he => by
   have : X + Y = 0 := by
     by_cases h2 : X < 0 <;> by_cases h3 : Y < 0
     · exact absurd (by rw [decide_eq_true h2, decide_eq_true h3]) h
     · omega
     · omega
     · exact absurd (by rw [decide_eq_false h2, decide_eq_false h3]) h
   rw [this, zV, Int.natAbs_zero, bytes_zero]; rfl
 rcases hc with h1 | ⟨h1, h2⟩
 · refine br_false (decide_eq_false (show ¬ ((bytes X.natAbs).length : Int) < 8 by omega)) ?_
   conv => whnf
   refine br_split ?_ ?_
   · intro h
     have hs := beqB h
     conv => whnf
     refine DrawVC.quiet (by kernel_rfl) ?_
     conv => whnf
     refine CallVCd.fn (r_addMag (bytes X.natAbs) (bytes Y.natAbs) hXl hYl) rfl ?_
     rw [nat_bytes, nat_bytes]
     conv => whnf
     exact postV_one (hsame hs)
   · intro h
     have hs := bneB h
     conv => whnf
     refine CallVC.fn (r_compareMag X.natAbs Y.natAbs) rfl ?_
     rcases Nat.lt_trichotomy X.natAbs Y.natAbs with hc | hc | hc
     · rw [show cmpN X.natAbs Y.natAbs = -1 by rw [cmpN, if_pos hc]]
       conv => whnf
       refine DrawVC.quiet (by kernel_rfl) ?_
       conv => whnf
       refine CallVCd.fn (r_subMag (bytes Y.natAbs) (bytes X.natAbs) hYl (bytes_mono (Nat.le_of_lt hc)) (by rw [nat_bytes, nat_bytes]; omega)) rfl ?_
       rw [nat_bytes, nat_bytes]
       conv => whnf
       exact postV_one (hright hs hc)
     · rw [show cmpN X.natAbs Y.natAbs = 0 by rw [cmpN, if_neg (by omega), if_neg (by omega)]]
       conv => whnf
       exact postV_one (hz hs hc)
     · rw [show cmpN X.natAbs Y.natAbs = 1 by rw [cmpN, if_neg (by omega), if_pos hc]]
       conv => whnf
       refine DrawVC.quiet (by kernel_rfl) ?_
       conv => whnf
       refine CallVCd.fn (r_subMag (bytes X.natAbs) (bytes Y.natAbs) hXl (bytes_mono (Nat.le_of_lt hc)) (by rw [nat_bytes, nat_bytes]; omega)) rfl ?_
       rw [nat_bytes, nat_bytes]
       conv => whnf
       exact postV_one (hleft hs hc)
 · refine br_true (decide_eq_true (show ((bytes X.natAbs).length : Int) < 8 by omega)) ?_
   conv => whnf
   refine br_false (decide_eq_false (show ¬ ((bytes Y.natAbs).length : Int) < 8 by omega)) ?_
   conv => whnf
   refine br_split ?_ ?_
   · intro h
     have hs := beqB h
     conv => whnf
     refine DrawVC.quiet (by kernel_rfl) ?_
     conv => whnf
     refine CallVCd.fn (r_addMag (bytes X.natAbs) (bytes Y.natAbs) hXl hYl) rfl ?_
     rw [nat_bytes, nat_bytes]
     conv => whnf
     exact postV_one (hsame hs)
   · intro h
     have hs := bneB h
     conv => whnf
     refine CallVC.fn (r_compareMag X.natAbs Y.natAbs) rfl ?_
     rcases Nat.lt_trichotomy X.natAbs Y.natAbs with hc | hc | hc
     · rw [show cmpN X.natAbs Y.natAbs = -1 by rw [cmpN, if_pos hc]]
       conv => whnf
       refine DrawVC.quiet (by kernel_rfl) ?_
       conv => whnf
       refine CallVCd.fn (r_subMag (bytes Y.natAbs) (bytes X.natAbs) hYl (bytes_mono (Nat.le_of_lt hc)) (by rw [nat_bytes, nat_bytes]; omega)) rfl ?_
       rw [nat_bytes, nat_bytes]
       conv => whnf
       exact postV_one (hright hs hc)
     · rw [show cmpN X.natAbs Y.natAbs = 0 by rw [cmpN, if_neg (by omega), if_neg (by omega)]]
       conv => whnf
       exact postV_one (hz hs hc)
     · rw [show cmpN X.natAbs Y.natAbs = 1 by rw [cmpN, if_neg (by omega), if_pos hc]]
       conv => whnf
       refine DrawVC.quiet (by kernel_rfl) ?_
       conv => whnf
       refine CallVCd.fn (r_subMag (bytes X.natAbs) (bytes Y.natAbs) hXl (bytes_mono (Nat.le_of_lt hc)) (by rw [nat_bytes, nat_bytes]; omega)) rfl ?_
       rw [nat_bytes, nat_bytes]
       conv => whnf
       exact postV_one (hleft hs hc)
theorem r_AddZ (x y : Int) (hx : (bytes x.natAbs).length ≤ 500000000) (hy : (bytes y.natAbs).length ≤ 500000000) : Fn PP f_narrowsref01_Add [zV x, zV y] (zV (x + y)) := by
 have := r_Add (decide (x < 0)) (decide (y < 0)) (bytes x.natAbs) (bytes y.natAbs) hx hy
 rw [nat_bytes, nat_bytes, sg_z, sg_z] at this
 exact this
theorem r_Neg (b : Bool) (l : List UInt8) : Fn PP f_narrowsref01_Neg [intV b (bs l)] (zV (-(sg b (nat l)))) := by
 refine Fn.of TBgood mixed h_narrowsref01_Neg rfl rfl (Nat.le_of_ble_eq_true rfl) ?_
 intro w
 obtain ⟨X, hX⟩ : ∃ X, X = sg b (nat l) := ⟨_, rfl⟩
 have cX := r_Canonical b l
 rw [← hX] at cX ⊢
 conv => whnf
 refine CallVC.fn cX rfl ?_
 conv => whnf
 by_cases h : X < 0
 · refine br_false (by rw [decide_eq_true h]; rfl) ?_
   conv => whnf
   refine postV_one ?_
   rw [zV, Int.natAbs_neg, decide_eq_false (show ¬ -X < 0 by omega)]
 · refine br_true (by rw [decide_eq_false h]; rfl) ?_
   conv => whnf
   refine postV_one ?_
   show intV (!((bs (bytes X.natAbs)).toList == ByteArray.toList ⟨#[]⟩)) _ = _
   rw [bs_nil_iff, zV, Int.natAbs_neg]
   congr 1
   by_cases h0 : X = 0
   · rw [h0, Int.natAbs_zero, bytes_zero]; rfl
   · rw [decide_eq_false (fun h2 => by have := bytes_nil.1 h2; omega), decide_eq_true (show -X < 0 by omega)]; rfl
theorem r_NegZ (x : Int) : Fn PP f_narrowsref01_Neg [zV x] (zV (-x)) := by
 have := r_Neg (decide (x < 0)) (bytes x.natAbs)
 rw [nat_bytes, sg_z] at this
 exact this
theorem r_SubZ (x y : Int) (hx : (bytes x.natAbs).length ≤ 500000000) (hy : (bytes y.natAbs).length ≤ 500000000) : Fn PP f_narrowsref01_Sub [zV x, zV y] (zV (x - y)) := by
 refine Fn.of TBgood mixed h_narrowsref01_Sub rfl rfl (Nat.le_of_ble_eq_true rfl) ?_
 intro w
 conv => whnf
 refine DrawVC.quiet (by kernel_rfl) ?_
 conv => whnf
 refine CallVCd.fn (r_NegZ y) rfl ?_
 conv => whnf
 refine CallVCd.fn (r_AddZ x (-y) hx (by rw [Int.natAbs_neg]; exact hy)) rfl ?_
 conv => whnf
 exact postV_one (by rw [Int.sub_eq_add_neg])
end Go.Sx
end
section
set_option maxRecDepth 10000
set_option maxHeartbeats 2000000
namespace Go.Sx
open Go Go.Proofs
theorem emptyN (n : Nat) : ((bs (bytes n)).toList == ByteArray.toList ⟨#[]⟩) = decide (n = 0) := by rw [bs_nil_iff]; exact decide_eq_decide.2 bytes_nil
theorem emptyZ (X : Int) : ((bs (bytes X.natAbs)).toList == ByteArray.toList ⟨#[]⟩) = decide (X = 0) := by rw [emptyN]; exact decide_eq_decide.2 (by omega)
theorem r_mulZ0 (X Y : Int) (h : X = 0 ∨ Y = 0) : intV false ⟨#[]⟩ = zV (X * Y) := by
 have : X * Y = 0 := by rcases h with h | h <;> simp [h]
 rw [this, zV, Int.natAbs_zero, bytes_zero]; rfl
theorem bytes_prod_lt {X Y : Int} (h : (bytes X.natAbs).length + (bytes Y.natAbs).length ≤ 7) : (X * Y).natAbs < 72057594037927936 := by
 have h1 := nat_lt (bytes X.natAbs)
 have h2 := nat_lt (bytes Y.natAbs)
 rw [nat_bytes] at h1 h2
 have := Nat.lt_of_lt_of_le (pow_add_lt h1 h2) (Nat.pow_le_pow_right (n := 256) (by decide) h)
 rw [Int.natAbs_mul]; simpa using this
theorem r_Mul (a b : Bool) (l m : List UInt8) (hl : l.length ≤ 400000000) (hm : m.length ≤ 400000000) : Fn PP f_narrowsref01_Mul [intV a (bs l), intV b (bs m)] (zV (sg a (nat l) * sg b (nat m))) := by
 refine Fn.of TBgood mixed h_narrowsref01_Mul rfl rfl (Nat.le_of_ble_eq_true rfl) ?_
 intro w
 obtain ⟨X, hX⟩ : ∃ X, X = sg a (nat l) := ⟨_, rfl⟩
 obtain ⟨Y, hY⟩ : ∃ Y, Y = sg b (nat m) := ⟨_, rfl⟩
 have hXl : (bytes X.natAbs).length ≤ 400000000 := by rw [hX, sg_natAbs]; exact Nat.le_trans (bytes_nat_len _) hl
 have hYl : (bytes Y.natAbs).length ≤ 400000000 := by rw [hY, sg_natAbs]; exact Nat.le_trans (bytes_nat_len _) hm
 have cX := r_Canonical a l
 have cY := r_Canonical b m
 rw [← hX] at cX ⊢
 rw [← hY] at cY ⊢
 conv => whnf
 refine DrawVC.quiet (by kernel_rfl) ?_
 conv => whnf
 refine CallVCd.fn cX rfl ?_
 conv => whnf
 refine CallVCd.fn cY rfl ?_
 conv => whnf
 by_cases hX0 : X = 0
 · refine br_true ((emptyZ X).trans (decide_eq_true hX0)) ?_
   conv => whnf
   exact postV_one (r_mulZ0 X Y (.inl hX0))
 refine br_false ((emptyZ X).trans (decide_eq_false hX0)) ?_
 conv => whnf
 by_cases hY0 : Y = 0
 · refine br_true ((emptyZ Y).trans (decide_eq_true hY0)) ?_
   conv => whnf
   exact postV_one (r_mulZ0 X Y (.inr hY0))
 refine br_false ((emptyZ Y).trans (decide_eq_false hY0)) ?_
 conv => whnf
 have hw : IntKind.i64.wrap (((bytes X.natAbs).length : Int) + ((bytes Y.natAbs).length : Int)) = ((bytes X.natAbs).length : Int) + ((bytes Y.natAbs).length : Int) := wrap_i64 (by omega) (by omega)
 refine br_split ?_ ?_
 · intro h
   have hs : (bytes X.natAbs).length + (bytes Y.natAbs).length ≤ 7 := by
     have h2 : IntKind.i64.wrap (((bytes X.natAbs).length : Int) + ((bytes Y.natAbs).length : Int)) < 8 := of_decide_eq_true h
     rw [hw] at h2; omega
   have hp := bytes_prod_lt hs
   conv => whnf
   refine DrawVC.quiet (by kernel_rfl) ?_
   conv => whnf
   refine CallVCd.fn (r_valueZ X (by omega)) rfl ?_
   conv => whnf
   refine CallVCd.fn (r_valueZ Y (by omega)) rfl ?_
   conv => whnf
   have hw2 : IntKind.i64.wrap (X * Y) = X * Y := wrap_i64 (by omega) (by omega)
   refine CallVCd.fn (r := zV (X * Y)) (r_Of (X * Y) (by omega) (by omega)) (congrArg (fun z => [SV.o (.v (.int .i64 z))]) hw2) ?_
   conv => whnf
   exact postV_one rfl
 · intro h
   conv => whnf
   refine DrawVC.quiet (by kernel_rfl) ?_
   conv => whnf
   refine CallVCd.fn (r_mulMag (bytes X.natAbs) (bytes Y.natAbs) (by omega) hYl) rfl ?_
   rw [nat_bytes, nat_bytes]
   conv => whnf
   refine postV_one ?_
   have hpos : 0 < X.natAbs * Y.natAbs := Nat.mul_pos (by omega) (by omega)
   refine (zV_same (b := decide (X < 0) != decide (Y < 0)) ?_ (by omega)).symm
   rw [sg_mul, sg_z, sg_z]
theorem r_MulZ (x y : Int) (hx : (bytes x.natAbs).length ≤ 400000000) (hy : (bytes y.natAbs).length ≤ 400000000) : Fn PP f_narrowsref01_Mul [zV x, zV y] (zV (x * y)) := by
 have := r_Mul (decide (x < 0)) (decide (y < 0)) (bytes x.natAbs) (bytes y.natAbs) hx hy
 rw [nat_bytes, nat_bytes, sg_z, sg_z] at this
 exact this
theorem bne_true {x y : Bool} (h : x ≠ y) : (x != y) = true := by cases x <;> cases y <;> simp_all
theorem bne_false {x y : Bool} (h : x = y) : (x != y) = false := by subst h; cases x <;> rfl
theorem r_CompareZ (X Y : Int) : Fn PP f_narrowsref01_Compare [zV X, zV Y] (.int .i64 (cmpZ X Y)) := by
 refine Fn.of TBgood mixed h_narrowsref01_Compare rfl rfl (Nat.le_of_ble_eq_true rfl) ?_
 intro w
 have cX := r_Canonical (decide (X < 0)) (bytes X.natAbs)
 have cY := r_Canonical (decide (Y < 0)) (bytes Y.natAbs)
 rw [nat_bytes, sg_z] at cX cY
 conv => whnf
 refine DrawVC.quiet (by kernel_rfl) ?_
 conv => whnf
 refine CallVCd.fn cX rfl ?_
 conv => whnf
 refine CallVCd.fn cY rfl ?_
 conv => whnf
 by_cases hx : X < 0 <;> by_cases hy : Y < 0
 · refine br_false (bne_false (by rw [decide_eq_true hx, decide_eq_true hy])) ?_
   conv => whnf
   refine br_true (decide_eq_true hx) ?_
   conv => whnf
   refine CallVC.fn (r_compareMag Y.natAbs X.natAbs) rfl ?_
   conv => whnf
   refine postV_one ?_
   rw [← cmpZ_neg, show -((X.natAbs : Nat) : Int) = X by omega, show -((Y.natAbs : Nat) : Int) = Y by omega]
 · refine br_true (bne_true (by rw [decide_eq_true hx, decide_eq_false hy]; decide)) ?_
   conv => whnf
   refine br_true (decide_eq_true hx) ?_
   conv => whnf
   refine postV_one ?_
   rw [cmpZ_lt (by omega)]
 · refine br_true (bne_true (by rw [decide_eq_false hx, decide_eq_true hy]; decide)) ?_
   conv => whnf
   refine br_false (decide_eq_false hx) ?_
   conv => whnf
   refine postV_one ?_
   rw [cmpZ_gt (by omega)]
 · refine br_false (bne_false (by rw [decide_eq_false hx, decide_eq_false hy])) ?_
   conv => whnf
   refine br_false (decide_eq_false hx) ?_
   conv => whnf
   refine CallVC.fn (r_compareMag X.natAbs Y.natAbs) rfl ?_
   conv => whnf
   refine postV_one ?_
   rw [← cmpZ_nat, show ((X.natAbs : Nat) : Int) = X by omega, show ((Y.natAbs : Nat) : Int) = Y by omega]
end Go.Sx
end
section
set_option maxRecDepth 10000
set_option maxHeartbeats 2000000
namespace Go.Sx
open Go Go.Proofs
theorem zV_nat (n : Nat) : zV (n : Int) = intV false (bs (bytes n)) := by rw [zV, Int.natAbs_natCast, decide_eq_false (by omega)]
theorem bneT {x y : Bool} (h : (x != y) = true) : x ≠ y := by simpa using h
theorem bneF {x y : Bool} (h : (x != y) = false) : x = y := by simpa using h
theorem fdiv_sam {X Y : Int} (hY : Y ≠ 0) (h : decide (X < 0) = decide (Y < 0)) : X.fdiv Y = ((X.natAbs / Y.natAbs : Nat) : Int) ∧ X.fmod Y = if Y < 0 then -((X.natAbs % Y.natAbs : Nat) : Int) else ((X.natAbs % Y.natAbs : Nat) : Int) := by
 have h2 := fdiv_same (decide (X < 0)) (decide (Y < 0)) X.natAbs Y.natAbs (by omega) (.inl h)
 rw [sg_z, sg_z] at h2
 rw [h2.1, h2.2, bne_false h, h]
 refine ⟨rfl, ?_⟩
 by_cases hy : Y < 0
 · rw [if_pos hy, decide_eq_true hy]; rfl
 · rw [if_neg hy, decide_eq_false hy]; rfl
theorem fdiv_zero {X Y : Int} (hY : Y ≠ 0) (h : X.natAbs % Y.natAbs = 0) : X.fdiv Y = (if decide (X < 0) = decide (Y < 0) then ((X.natAbs / Y.natAbs : Nat) : Int) else -((X.natAbs / Y.natAbs : Nat) : Int)) ∧ X.fmod Y = 0 := by
 have h2 := fdiv_same (decide (X < 0)) (decide (Y < 0)) X.natAbs Y.natAbs (by omega) (.inr h)
 rw [sg_z, sg_z, h] at h2
 rw [h2.1, h2.2]
 refine ⟨?_, by unfold sg; split <;> rfl⟩
 by_cases hab : decide (X < 0) = decide (Y < 0)
 · rw [if_pos hab, bne_false hab]; rfl
 · rw [if_neg hab, bne_true hab]; rfl
theorem fdiv_oth {X Y : Int} (hY : Y ≠ 0) (h : decide (X < 0) ≠ decide (Y < 0)) (h0 : X.natAbs % Y.natAbs ≠ 0) : X.fdiv Y = -(sg false (X.natAbs / Y.natAbs)) - 1 ∧ X.fmod Y = if Y < 0 then -((Y.natAbs : Int) - ((X.natAbs % Y.natAbs : Nat) : Int)) else (Y.natAbs : Int) - ((X.natAbs % Y.natAbs : Nat) : Int) := by
 have h2 := fdiv_other (decide (X < 0)) (decide (Y < 0)) X.natAbs Y.natAbs (by omega) h h0
 rw [sg_z, sg_z] at h2
 rw [h2.1, h2.2, bne_true h]
 refine ⟨rfl, ?_⟩
 by_cases hy : Y < 0
 · have hx : ¬ X < 0 := fun hx => h (by rw [decide_eq_true hx, decide_eq_true hy])
   rw [if_pos hy, decide_eq_false hx]
   show ((X.natAbs % Y.natAbs : Nat) : Int) + Y = _
   omega
 · have hx : X < 0 := by
     by_cases hx : X < 0
     · exact hx
     · exact absurd (by rw [decide_eq_false hx, decide_eq_false hy]) h
   rw [if_neg hy, decide_eq_true hx]
   show -((X.natAbs % Y.natAbs : Nat) : Int) + Y = _
   omega
theorem r_SubR (x y : Nat) (hx : (bytes x).length ≤ 500000000) (hy : (bytes y).length ≤ 500000000) : Fn PP f_narrowsref01_Sub [intV false (bs (bytes x)), intV false (bs (bytes y))] (zV ((x : Int) - (y : Int))) := by
 have := r_SubZ (x : Int) (y : Int) (by rw [Int.natAbs_natCast]; exact hx) (by rw [Int.natAbs_natCast]; exact hy)
 rw [zV_nat, zV_nat] at this
 exact this
theorem r_OfN (n : Nat) (h : n < 9223372036854775808) : Fn PP f_narrowsref01_Of [.int .i64 (n : Int)] (intV false (bs (bytes n))) := by
 have := r_Of (n : Int) (by omega) (by omega)
 rw [zV_nat] at this
 exact this
theorem wrapN {n : Nat} (h : n < 9223372036854775808) : IntKind.i64.wrap (n : Int) = (n : Int) := wrap_i64 (by omega) (by omega)
theorem r_DivZ (X Y : Int) (hX : (bytes X.natAbs).length ≤ 300000000) (hYl : (bytes Y.natAbs).length ≤ 300000000) :
   Fn PP f_narrowsref01_Div [zV X, zV Y] (if Y = 0 then divV 0 0 10 else divV (X.fdiv Y) (X.fmod Y) 0) := by
 refine Fn.of TBgood mixed h_narrowsref01_Div rfl rfl (Nat.le_of_ble_eq_true rfl) ?_
 intro w
 have cX := r_Canonical (decide (X < 0)) (bytes X.natAbs)
 have cY := r_Canonical (decide (Y < 0)) (bytes Y.natAbs)
 rw [nat_bytes, sg_z] at cX cY
 have hq1 := bytes_mono (Nat.div_le_self X.natAbs Y.natAbs)
 have hr1 := bytes_mono (Nat.mod_le X.natAbs Y.natAbs)
 conv => whnf
 refine DrawVC.quiet (by kernel_rfl) ?_
 conv => whnf
 refine CallVCd.fn cX rfl ?_
 conv => whnf
 refine CallVCd.fn cY rfl ?_
 conv => whnf
 by_cases hY : Y = 0
 · refine br_true ((emptyZ Y).trans (decide_eq_true hY)) ?_
   rw [if_pos hY]
   conv => whnf
   refine postV_three ?_
   simp only [divV, zV, bytes_zero, Int.natAbs_zero]
   rfl
 refine br_false ((emptyZ Y).trans (decide_eq_false hY)) ?_
 rw [if_neg hY]
 conv => whnf
 have hc : (bytes X.natAbs).length ≤ 7 ∧ (bytes Y.natAbs).length ≤ 7 ∨ ¬ (bytes X.natAbs).length ≤ 7 ∨ ((bytes X.natAbs).length ≤ 7 ∧ ¬ (bytes Y.natAbs).length ≤ 7) := by omega
 rcases hc with hs | h1 | ⟨h1, h2⟩
 · refine br_true (decide_eq_true (show ((bytes X.natAbs).length : Int) < 8 by omega)) ?_
   conv => whnf
   refine br_true (decide_eq_true (show ((bytes Y.natAbs).length : Int) < 8 by omega)) ?_
   have h1 := lt8 hs.1
   have h2 := lt8 hs.2
   have hq2 := Nat.div_le_self X.natAbs Y.natAbs
   have hr2 := Nat.mod_le X.natAbs Y.natAbs
   conv => whnf
   refine DrawVC.quiet (by kernel_rfl) ?_
   conv => whnf
   refine CallVCd.fn (r_small (bytes X.natAbs) hs.1) rfl ?_
   rw [nat_bytes]
   conv => whnf
   refine CallVCd.fn (r_small (bytes Y.natAbs) hs.2) rfl ?_
   rw [nat_bytes]
   conv => whnf
   refine DrawVC.quiet (by kernel_rfl) ?_
   conv => whnf
   refine ⟨by omega, ?_⟩
   conv => whnf
   refine CallVCd.fn (r_OfN (X.natAbs / Y.natAbs) (by omega)) (congrArg (fun z => [SV.o (.v (.int .i64 z))]) (show IntKind.i64.wrap (Int.tdiv (X.natAbs : Int) (Y.natAbs : Int)) = _ by exact wrapN (show X.natAbs / Y.natAbs < 9223372036854775808 by omega))) ?_
   conv => whnf
   refine ⟨by omega, ?_⟩
   conv => whnf
   refine CallVCd.fn (r_OfN (X.natAbs % Y.natAbs) (by omega)) rfl ?_
   conv => whnf
   refine br_split ?_ ?_
   · intro h
     have hab : decide (X < 0) ≠ decide (Y < 0) := bneT h
     conv => whnf
     refine CallVC.fn (r_Neg false (bytes (X.natAbs / Y.natAbs))) rfl ?_
     rw [nat_bytes]
     conv => whnf
     by_cases hr0 : X.natAbs % Y.natAbs = 0
     · refine br_false (by rw [emptyN, decide_eq_true hr0]; rfl) ?_
       conv => whnf
       obtain ⟨e1, e2⟩ := fdiv_zero hY hr0
       by_cases hyn : Y < 0
       · refine br_true (decide_eq_true hyn) ?_
         conv => whnf
         refine CallVC.fn (r_Neg false (bytes (X.natAbs % Y.natAbs))) rfl ?_
         rw [nat_bytes]
         conv => whnf
         refine DrawVC.late [(2, 4, [1])] (by kernel_rfl) ?_
         conv => whnf
         refine postV_three ?_
         rw [e1, e2, if_neg hab, hr0]; rfl
       · refine br_false (decide_eq_false hyn) ?_
         conv => whnf
         refine DrawVC.late [(2, 4, [1])] (by kernel_rfl) ?_
         conv => whnf
         refine postV_three ?_
         rw [e1, e2, if_neg hab, hr0]
         simp only [divV, zV, bytes_zero, Int.natAbs_zero]; rfl
     · refine br_true (by rw [emptyN, decide_eq_false hr0]; rfl) ?_
       conv => whnf
       refine DrawVC.quiet (by kernel_rfl) ?_
       conv => whnf
       refine CallVCd.fn (r_Of 1 (by decide) (by decide)) rfl ?_
       conv => whnf
       refine CallVCd.fn (r_SubZ (-(sg false (X.natAbs / Y.natAbs))) 1 (by rw [Int.natAbs_neg, sg_natAbs]; omega) (by decide +kernel)) rfl ?_
       conv => whnf
       refine CallVC.fn (r_SubR Y.natAbs (X.natAbs % Y.natAbs) (by omega) (by omega)) rfl ?_
       conv => whnf
       obtain ⟨e1, e2⟩ := fdiv_oth hY hab hr0
       by_cases hyn : Y < 0
       · refine br_true (decide_eq_true hyn) ?_
         conv => whnf
         refine CallVC.fn (r_NegZ ((Y.natAbs : Int) - ((X.natAbs % Y.natAbs : Nat) : Int))) rfl ?_
         conv => whnf
         refine DrawVC.late [(2, 4, [1])] (by kernel_rfl) ?_
         conv => whnf
         refine postV_three ?_
         rw [e1, e2, if_pos hyn]; rfl
       · refine br_false (decide_eq_false hyn) ?_
         conv => whnf
         refine DrawVC.late [(2, 4, [1])] (by kernel_rfl) ?_
         conv => whnf
         refine postV_three ?_
         rw [e1, e2, if_neg hyn]; rfl
   · intro h
     have hab : decide (X < 0) = decide (Y < 0) := bneF h
     obtain ⟨e1, e2⟩ := fdiv_sam hY hab
     conv => whnf
     by_cases hyn : Y < 0
     · refine br_true (decide_eq_true hyn) ?_
       conv => whnf
       refine CallVC.fn (r_Neg false (bytes (X.natAbs % Y.natAbs))) rfl ?_
       rw [nat_bytes]
       conv => whnf
       refine DrawVC.late [(2, 4, [1])] (by kernel_rfl) ?_
       conv => whnf
       refine postV_three ?_
       rw [e1, e2, if_pos hyn, divV, zV_nat]; rfl
     · refine br_false (decide_eq_false hyn) ?_
       conv => whnf
       refine DrawVC.late [(2, 4, [1])] (by kernel_rfl) ?_
       conv => whnf
       refine postV_three ?_
       rw [e1, e2, if_neg hyn, divV, zV_nat, zV_nat]
 · refine br_false (decide_eq_false (show ¬ ((bytes X.natAbs).length : Int) < 8 by omega)) ?_
   conv => whnf
   refine CallVC.fn (r_divMag X.natAbs Y.natAbs hX hYl (by omega)) rfl ?_
   conv => whnf
   refine br_split ?_ ?_
   · intro h
     have hab : decide (X < 0) ≠ decide (Y < 0) := bneT h
     conv => whnf
     refine CallVC.fn (r_Neg false (bytes (X.natAbs / Y.natAbs))) rfl ?_
     rw [nat_bytes]
     conv => whnf
     by_cases hr0 : X.natAbs % Y.natAbs = 0
     · refine br_false (by rw [emptyN, decide_eq_true hr0]; rfl) ?_
       conv => whnf
       obtain ⟨e1, e2⟩ := fdiv_zero hY hr0
       by_cases hyn : Y < 0
       · refine br_true (decide_eq_true hyn) ?_
         conv => whnf
         refine CallVC.fn (r_Neg false (bytes (X.natAbs % Y.natAbs))) rfl ?_
         rw [nat_bytes]
         conv => whnf
         refine DrawVC.late [(2, 4, [1])] (by kernel_rfl) ?_
         conv => whnf
         refine postV_three ?_
         rw [e1, e2, if_neg hab, hr0]; rfl
       · refine br_false (decide_eq_false hyn) ?_
         conv => whnf
         refine DrawVC.late [(2, 4, [1])] (by kernel_rfl) ?_
         conv => whnf
         refine postV_three ?_
         rw [e1, e2, if_neg hab, hr0]
         simp only [divV, zV, bytes_zero, Int.natAbs_zero]; rfl
     · refine br_true (by rw [emptyN, decide_eq_false hr0]; rfl) ?_
       conv => whnf
       refine DrawVC.quiet (by kernel_rfl) ?_
       conv => whnf
       refine CallVCd.fn (r_Of 1 (by decide) (by decide)) rfl ?_
       conv => whnf
       refine CallVCd.fn (r_SubZ (-(sg false (X.natAbs / Y.natAbs))) 1 (by rw [Int.natAbs_neg, sg_natAbs]; omega) (by decide +kernel)) rfl ?_
       conv => whnf
       refine CallVC.fn (r_SubR Y.natAbs (X.natAbs % Y.natAbs) (by omega) (by omega)) rfl ?_
       conv => whnf
       obtain ⟨e1, e2⟩ := fdiv_oth hY hab hr0
       by_cases hyn : Y < 0
       · refine br_true (decide_eq_true hyn) ?_
         conv => whnf
         refine CallVC.fn (r_NegZ ((Y.natAbs : Int) - ((X.natAbs % Y.natAbs : Nat) : Int))) rfl ?_
         conv => whnf
         refine DrawVC.late [(2, 4, [1])] (by kernel_rfl) ?_
         conv => whnf
         refine postV_three ?_
         rw [e1, e2, if_pos hyn]; rfl
       · refine br_false (decide_eq_false hyn) ?_
         conv => whnf
         refine DrawVC.late [(2, 4, [1])] (by kernel_rfl) ?_
         conv => whnf
         refine postV_three ?_
         rw [e1, e2, if_neg hyn]; rfl
   · intro h
     have hab : decide (X < 0) = decide (Y < 0) := bneF h
     obtain ⟨e1, e2⟩ := fdiv_sam hY hab
     conv => whnf
     by_cases hyn : Y < 0
     · refine br_true (decide_eq_true hyn) ?_
       conv => whnf
       refine CallVC.fn (r_Neg false (bytes (X.natAbs % Y.natAbs))) rfl ?_
       rw [nat_bytes]
       conv => whnf
       refine DrawVC.late [(2, 4, [1])] (by kernel_rfl) ?_
       conv => whnf
       refine postV_three ?_
       rw [e1, e2, if_pos hyn, divV, zV_nat]; rfl
     · refine br_false (decide_eq_false hyn) ?_
       conv => whnf
       refine DrawVC.late [(2, 4, [1])] (by kernel_rfl) ?_
       conv => whnf
       refine postV_three ?_
       rw [e1, e2, if_neg hyn, divV, zV_nat, zV_nat]
 · refine br_true (decide_eq_true (show ((bytes X.natAbs).length : Int) < 8 by omega)) ?_
   conv => whnf
   refine br_false (decide_eq_false (show ¬ ((bytes Y.natAbs).length : Int) < 8 by omega)) ?_
   conv => whnf
   refine CallVC.fn (r_divMag X.natAbs Y.natAbs hX hYl (by omega)) rfl ?_
   conv => whnf
   refine br_split ?_ ?_
   · intro h
     have hab : decide (X < 0) ≠ decide (Y < 0) := bneT h
     conv => whnf
     refine CallVC.fn (r_Neg false (bytes (X.natAbs / Y.natAbs))) rfl ?_
     rw [nat_bytes]
     conv => whnf
     by_cases hr0 : X.natAbs % Y.natAbs = 0
     · refine br_false (by rw [emptyN, decide_eq_true hr0]; rfl) ?_
       conv => whnf
       obtain ⟨e1, e2⟩ := fdiv_zero hY hr0
       by_cases hyn : Y < 0
       · refine br_true (decide_eq_true hyn) ?_
         conv => whnf
         refine CallVC.fn (r_Neg false (bytes (X.natAbs % Y.natAbs))) rfl ?_
         rw [nat_bytes]
         conv => whnf
         refine DrawVC.late [(2, 4, [1])] (by kernel_rfl) ?_
         conv => whnf
         refine postV_three ?_
         rw [e1, e2, if_neg hab, hr0]; rfl
       · refine br_false (decide_eq_false hyn) ?_
         conv => whnf
         refine DrawVC.late [(2, 4, [1])] (by kernel_rfl) ?_
         conv => whnf
         refine postV_three ?_
         rw [e1, e2, if_neg hab, hr0]
         simp only [divV, zV, bytes_zero, Int.natAbs_zero]; rfl
     · refine br_true (by rw [emptyN, decide_eq_false hr0]; rfl) ?_
       conv => whnf
       refine DrawVC.quiet (by kernel_rfl) ?_
       conv => whnf
       refine CallVCd.fn (r_Of 1 (by decide) (by decide)) rfl ?_
       conv => whnf
       refine CallVCd.fn (r_SubZ (-(sg false (X.natAbs / Y.natAbs))) 1 (by rw [Int.natAbs_neg, sg_natAbs]; omega) (by decide +kernel)) rfl ?_
       conv => whnf
       refine CallVC.fn (r_SubR Y.natAbs (X.natAbs % Y.natAbs) (by omega) (by omega)) rfl ?_
       conv => whnf
       obtain ⟨e1, e2⟩ := fdiv_oth hY hab hr0
       by_cases hyn : Y < 0
       · refine br_true (decide_eq_true hyn) ?_
         conv => whnf
         refine CallVC.fn (r_NegZ ((Y.natAbs : Int) - ((X.natAbs % Y.natAbs : Nat) : Int))) rfl ?_
         conv => whnf
         refine DrawVC.late [(2, 4, [1])] (by kernel_rfl) ?_
         conv => whnf
         refine postV_three ?_
         rw [e1, e2, if_pos hyn]; rfl
       · refine br_false (decide_eq_false hyn) ?_
         conv => whnf
         refine DrawVC.late [(2, 4, [1])] (by kernel_rfl) ?_
         conv => whnf
         refine postV_three ?_
         rw [e1, e2, if_neg hyn]; rfl
   · intro h
     have hab : decide (X < 0) = decide (Y < 0) := bneF h
     obtain ⟨e1, e2⟩ := fdiv_sam hY hab
     conv => whnf
     by_cases hyn : Y < 0
     · refine br_true (decide_eq_true hyn) ?_
       conv => whnf
       refine CallVC.fn (r_Neg false (bytes (X.natAbs % Y.natAbs))) rfl ?_
       rw [nat_bytes]
       conv => whnf
       refine DrawVC.late [(2, 4, [1])] (by kernel_rfl) ?_
       conv => whnf
       refine postV_three ?_
       rw [e1, e2, if_pos hyn, divV, zV_nat]; rfl
     · refine br_false (decide_eq_false hyn) ?_
       conv => whnf
       refine DrawVC.late [(2, 4, [1])] (by kernel_rfl) ?_
       conv => whnf
       refine postV_three ?_
       rw [e1, e2, if_neg hyn, divV, zV_nat, zV_nat]
end Go.Sx
end
section
set_option maxRecDepth 10000
set_option maxHeartbeats 2000000
namespace Go.Sx
open Go Go.Proofs
theorem nemptyN (n : Nat) : (!((bs (bytes n)).toList == ByteArray.toList ⟨#[]⟩)) = decide (n ≠ 0) := by rw [emptyN]; by_cases h : n = 0 <;> simp [h]
theorem r_GcdZ (X Y : Int) (hX : (bytes X.natAbs).length ≤ 300000000) (hYl : (bytes Y.natAbs).length ≤ 300000000) :
   Fn PP f_narrowsref01_Gcd [zV X, zV Y] (zV ((Nat.gcd X.natAbs Y.natAbs : Nat) : Int)) := by
 refine Fn.of TBgood mixed h_narrowsref01_Gcd rfl rfl (Nat.le_of_ble_eq_true rfl) ?_
 intro w
 have tX := r_trim (bytes X.natAbs)
 have tY := r_trim (bytes Y.natAbs)
 rw [stripL_eq, nat_bytes] at tX tY
 conv => whnf
 refine DrawVC.quiet (by kernel_rfl) ?_
 conv => whnf
 refine CallVCd.fn tX rfl ?_
 conv => whnf
 refine CallVCd.fn tY rfl ?_
 conv => whnf
 refine sexec_loop (ι := Nat × Nat) (fun ⟨a, b⟩ => ⟨[(4, .o (.p 4 0)), (5, .o (.v (.string (bs (bytes a))))), (6, .o (.v (.string (bs (bytes b)))))], [(4, .box [.v (.bool false), .v (.string ⟨#[]⟩)] t_api_Int)], []⟩)
   (fun ⟨a, b⟩ => Nat.gcd a b = Nat.gcd X.natAbs Y.natAbs ∧ (bytes a).length ≤ 300000000 ∧ (bytes b).length ≤ 300000000) (fun ⟨a, b⟩ => b) (X.natAbs, Y.natAbs) ⟨rfl, hX, hYl⟩ (SLe.id ⟨rfl, rfl, rfl, trivial⟩ ⟨⟨_, rfl, .refl _⟩, trivial⟩ (fun R hR => hR)) ?_
 rintro ⟨a, b⟩ ⟨hg, ha, hb⟩
 conv => whnf
 by_cases hb0 : b = 0
 · refine br_false ((nemptyN b).trans (decide_eq_false (by omega))) ?_
   conv => whnf
   refine br_true ((emptyN b).trans (decide_eq_true hb0)) ?_
   conv => whnf
   refine postV_one ?_
   rw [zV_nat, ← hg, hb0, Nat.gcd_zero_right]
 refine br_true ((nemptyN b).trans (decide_eq_true hb0)) ?_
 conv => whnf
 have hstep : Nat.gcd b (a % b) = Nat.gcd X.natAbs Y.natAbs := by rw [← hg, Nat.gcd_comm a b, Nat.gcd_rec b a, Nat.gcd_comm]
 have hlt : a % b < b := Nat.mod_lt _ (by omega)
 have hlr := bytes_mono (Nat.le_of_lt hlt)
 refine br_split ?_ ?_
 · intro h
   conv => whnf
   refine CallVC.fn (r_divMag a b ha hb (by omega)) rfl ?_
   conv => whnf
   exact ⟨(b, a % b), ⟨hstep, hb, by omega⟩, hlt, SLe.id ⟨rfl, rfl, rfl, trivial⟩ ⟨⟨_, rfl, .refl _⟩, trivial⟩ (fun R hR => hR)⟩
 intro h
 have ha7 : (bytes a).length ≤ 7 := by
   have : ¬ ((bytes a).length : Int) > 7 := of_decide_eq_false h
   omega
 conv => whnf
 refine br_split ?_ ?_
 · intro h
   conv => whnf
   refine CallVC.fn (r_divMag a b ha hb (by omega)) rfl ?_
   conv => whnf
   exact ⟨(b, a % b), ⟨hstep, hb, by omega⟩, hlt, SLe.id ⟨rfl, rfl, rfl, trivial⟩ ⟨⟨_, rfl, .refl _⟩, trivial⟩ (fun R hR => hR)⟩
 intro h
 have hb7 : (bytes b).length ≤ 7 := by
   have : ¬ ((bytes b).length : Int) > 7 := of_decide_eq_false h
   omega
 conv => whnf
 refine br_false ((emptyN b).trans (decide_eq_false hb0)) ?_
 conv => whnf
 refine CallVC.fn (r_small (bytes a) ha7) rfl ?_
 rw [nat_bytes]
 conv => whnf
 refine CallVC.fn (r_small (bytes b) hb7) rfl ?_
 rw [nat_bytes]
 have a56 := nat7 ha7
 have b56 := nat7 hb7
 rw [nat_bytes] at a56 b56
 conv => whnf
 refine sexec_loop (ι := Nat × Nat) (fun ⟨c, d⟩ => ⟨[(4, .o (.p 4 0)), (9, .o (.v (.int .i64 c))), (10, .o (.v (.int .i64 d)))], [(4, .box [.v (.bool false), .v (.string ⟨#[]⟩)] t_api_Int)], []⟩)
   (fun ⟨c, d⟩ => Nat.gcd c d = Nat.gcd X.natAbs Y.natAbs ∧ c < 9223372036854775808 ∧ d < 9223372036854775808) (fun ⟨c, d⟩ => d) (a, b) ⟨hg, by omega, by omega⟩ (SLe.id ⟨rfl, rfl, rfl, trivial⟩ ⟨⟨_, rfl, .refl _⟩, trivial⟩ (fun R hR => hR)) ?_
 rintro ⟨c, d⟩ ⟨hg2, hc, hd⟩
 conv => whnf
 refine br_split ?_ ?_
 · intro h
   have hd0 : 0 < d := by
     have : (d : Int) > 0 := of_decide_eq_true h
     omega
   have hlt2 : c % d < d := Nat.mod_lt _ hd0
   conv => whnf
   refine DrawVC.quiet (by kernel_rfl) ?_
   conv => whnf
   refine ⟨by omega, ?_⟩
   conv => whnf
   refine ⟨(d, c % d), ⟨by rw [← hg2, Nat.gcd_comm c d, Nat.gcd_rec d c, Nat.gcd_comm], hd, by omega⟩, hlt2, SLe.id ⟨rfl, rfl, rfl, trivial⟩ ⟨⟨_, rfl, .refl _⟩, trivial⟩ (fun R hR => hR)⟩
 · intro h
   have hd0 : d = 0 := by
     have : ¬ (d : Int) > 0 := of_decide_eq_false h
     omega
   subst hd0
   rw [Nat.gcd_zero_right] at hg2
   conv => whnf
   refine CallVC.fn (r_OfN c hc) rfl ?_
   conv => whnf
   refine postV_one ?_
   rw [zV_nat, ← hg2]
end Go.Sx
end
section
set_option maxRecDepth 10000
set_option maxHeartbeats 2000000
namespace Go.Sx
open Go Go.Proofs
theorem r_number (l : List UInt8) (h1 : l.length ≤ 7) : Fn PP f_narrowsref02_number [.string (bs l)] (.int .i64 (nat l)) := by
 refine Fn.of TBgood mixed h_narrowsref02_number rfl rfl (Nat.le_of_ble_eq_true rfl) ?_
 intro w
 conv => whnf
 refine sexec_loop (ι := Nat × Nat) (fun ⟨i, v⟩ => ⟨[(0, .o (.v (.string (bs l)))), (3, .o (.v (.int .i64 v))), (4, .o (.v (.int .i64 i)))], [], []⟩)
   (fun ⟨i, v⟩ => i ≤ l.length ∧ v = nat (l.take i)) (fun ⟨i, v⟩ => l.length - i) (0, 0) ⟨Nat.zero_le _, rfl⟩ (SLe.id ⟨rfl, rfl, rfl, trivial⟩ trivial (fun R hR => hR)) ?_
 rintro ⟨i, v⟩ ⟨hi, hv⟩
 conv => whnf
 refine br_split ?_ ?_
 · intro h2
   have hi2 : i < l.length := by
     have : (i : Int) < (l.length : Int) := of_decide_eq_true h2
     omega
   conv => whnf
   refine ⟨⟨by omega, by show (i : Int) < (l.length : Int); omega⟩, ?_⟩
   conv => whnf
   obtain ⟨x, hx⟩ : ∃ x, x = l[i] := ⟨_, rfl⟩
   have hg : l.getD i 0 = x := by rw [hx, List.getD_eq_getElem?_getD, List.getElem?_eq_getElem hi2]; rfl
   have htk : l.take (i + 1) = l.take i ++ [x] := by rw [List.take_succ_eq_append_getElem hi2, hx]
   have hnat : nat (l.take (i + 1)) = x.toNat + 256 * nat (l.take i) := by rw [htk, nat_snoc]
   have hnb : nat (l.take i) < 256 ^ 6 := nat_bound (by rw [List.length_take]; omega)
   have hxb : x.toNat < 256 := x.toBitVec.isLt
   refine ⟨(i + 1, nat (l.take (i + 1))), ⟨by omega, rfl⟩, by show l.length - (i + 1) < l.length - i; omega, SLe.id ⟨rfl, ?_, some_wrap hi2 (by omega), trivial⟩ trivial (fun R hR => hR)⟩
   show some (SV.o (.v (.int .i64 (IntKind.i64.wrap (IntKind.i64.wrap (256 * (v : Int)) + IntKind.i64.wrap (sb (bs l) (i : Int))))))) = _
   rw [sb_bs, Int.toNat_natCast, hg, wrap_i64 (n := (x.toNat : Int)) (by omega) (by omega), wrap_i64 (n := 256 * (v : Int)) (by omega) (by omega), wrap_i64 (by omega) (by omega), hnat, hv, Int.natCast_add, Int.natCast_mul, Int.add_comm]; rfl
 · intro h2
   have hi2 : i = l.length := by
     have : ¬ (i : Int) < (l.length : Int) := of_decide_eq_false h2
     omega
   subst hi2
   rw [List.take_length] at hv
   subst hv
   conv => whnf
   exact postV_one rfl
theorem pow_256 (j : Nat) : (2 : Nat) ^ (8 * j) = 256 ^ j := by rw [Nat.pow_mul]
theorem fdiv_pow8 (n j : Nat) (hj : j ≤ 7) : Int.fdiv (n : Int) (2 ^ min (8 * (j : Int)).toNat IntKind.i64.bits) = ((n / 256 ^ j : Nat) : Int) := by
 rw [show (8 * (j : Int)).toNat = 8 * j by omega, Nat.min_eq_left (show 8 * j ≤ IntKind.i64.bits by show 8 * j ≤ 64; omega), Int.fdiv_eq_ediv_of_nonneg _ (by exact Int.pow_nonneg (by decide)), show ((2 : Int) ^ (8 * j)) = ((256 ^ j : Nat) : Int) by rw [← pow_256]; exact (Int.natCast_pow 2 (8 * j)).symm]
 rfl
theorem bytes_next (n j : Nat) (h : 0 < n / 256 ^ j) : bytes (n / 256 ^ j) = bytes (n / 256 ^ (j + 1)) ++ [UInt8.ofNat (n / 256 ^ j % 256)] := by
 rw [bytes_step h, Nat.pow_succ, Nat.div_div_eq_div_mul]
theorem u8_low8 {x : Nat} : Value.int .u8 (IntKind.u8.wrap (x : Int)) = .int .u8 ((UInt8.ofNat (x % 256)).toNat : Int) := by rw [u8_mod]
theorem r_digits (n : Nat) (h0 : 0 < n) (hn : n < 72057594037927936) : Fn PP f_narrowsref02_digits [.int .i64 n] (.string (bs (bytes n))) := by
 refine Fn.of TBgood mixed h_narrowsref02_digits rfl rfl (Nat.le_of_ble_eq_true rfl) ?_
 intro w
 conv => whnf
 refine sexec_loop (ι := Nat × Int × List UInt8) (fun ⟨j, z, L⟩ => match L with
     | [] => ⟨[(0, .o (.v (.int .i64 n))), (3, .o (.v (.slice none 0 0))), (4, .o (.v (.int .i64 z)))], [], []⟩
     | x :: l => ⟨[(0, .o (.v (.int .i64 n))), (3, .o (.w 1)), (4, .o (.v (.int .i64 z)))], [(1, .own t_uint8 1 (l.length + 1) (rowV u8c (x :: l)))], []⟩)
   (fun ⟨j, z, L⟩ => j ≤ 7 ∧ z = 8 * (j : Int) - 8 ∧ L = bytes (n / 256 ^ j)) (fun ⟨j, z, L⟩ => j) (7, 48, []) ⟨by decide, by decide, by rw [Nat.div_eq_of_lt (by omega), bytes_zero]⟩ (SLe.id ⟨rfl, rfl, rfl, trivial⟩ trivial (fun R hR => hR)) ?_
 rintro ⟨j1, z, L⟩ ⟨hj, hz, hL⟩
 by_cases hz0 : 0 ≤ z
 · obtain ⟨j, rfl⟩ : ∃ j, j1 = j + 1 := ⟨j1 - 1, by omega⟩
   obtain rfl : z = 8 * (j : Int) := by omega
   have hf := fdiv_pow8 n j (by omega)
   have hw8 : IntKind.i64.wrap (8 * (j : Int) - 8) = 8 * (j : Int) - 8 := wrap_i64 (by omega) (by omega)
   obtain ⟨N, hN⟩ : ∃ N, N = n / 256 ^ j := ⟨_, rfl⟩
   have hlow : n / 256 ^ (j + 1) = N / 256 := by rw [hN, Nat.pow_succ, Nat.div_div_eq_div_mul]
   have hnx := bytes_next n j
   rw [← hN] at hf hnx
   rw [← hL] at hnx
   have hrem : Int.tmod (Int.fdiv (n : Int) (2 ^ min (8 * (j : Int)).toNat IntKind.i64.bits)) 256 = ((N % 256 : Nat) : Int) := by rw [hf]; rfl
   rcases L with _ | ⟨x, L⟩
   · have hN256 : N / 256 = 0 := by rw [← hlow]; exact bytes_nil.1 hL.symm
     conv => whnf
     refine ⟨hz0, ?_⟩
     conv => whnf
     refine ⟨by decide, ?_⟩
     conv => whnf
     by_cases hd : N = 0
     · refine br_false (decide_eq_false (by rw [hrem, hd]; decide)) ?_
       conv => whnf
       refine ⟨(j, 8 * (j : Int) - 8, []), ⟨by omega, rfl, by rw [← hN, hd, bytes_zero]⟩, Nat.lt_succ_self j, SLe.id ⟨rfl, rfl, ?_, trivial⟩ trivial (fun R hR => hR)⟩
       show some (SV.o (.v (.int .i64 (IntKind.i64.wrap (8 * (j : Int) - 8))))) = _
       rw [hw8]; rfl
     · refine br_true (decide_eq_true (by rw [hrem, Nat.mod_eq_of_lt (by omega)]; omega)) ?_
       conv => whnf
       refine ⟨hz0, ?_⟩
       conv => whnf
       refine ⟨by decide, ?_⟩
       conv => whnf
       refine ⟨(j, 8 * (j : Int) - 8, [UInt8.ofNat (N % 256)]), ⟨by omega, rfl, by rw [← hN, hnx (by omega)]; rfl⟩, Nat.lt_succ_self j, SLe.mk (fun _ => 27) ⟨rfl, rfl, ?_, trivial⟩ ⟨⟨_, rfl, ?_⟩, trivial⟩ rfl (fun R hR => hR)⟩
       · show some (SV.o (.v (.int .i64 (IntKind.i64.wrap (8 * (j : Int) - 8))))) = _
         rw [hw8]; rfl
       · show MEle (ME.own t_uint8 1 1 [Value.int .u8 (IntKind.u8.wrap (Int.fdiv (n : Int) (2 ^ min (8 * (j : Int)).toNat IntKind.i64.bits)))]) _
         rw [hf, u8_low8]; exact .refl _
   · have hNp : N ≠ 0 := by
       intro h
       rw [hlow, h, Nat.zero_div, bytes_zero] at hL
       cases hL
     have hlen : L.length + 1 ≤ 8 := by
       have h1 := congrArg List.length hL
       have h2 := bytes_mono (Nat.div_le_self n (256 ^ (j + 1)))
       have h3 : (bytes n).length ≤ 7 := bytes_len (k := 7) (by simpa using hn)
       simp only [List.length_cons] at h1
       omega
     conv => whnf
     refine ⟨hz0, ?_⟩
     conv => whnf
     refine ⟨by decide, ?_⟩
     conv => whnf
     refine br_split ?_ ?_
     · intro _
       conv => whnf
       refine ⟨hz0, ?_⟩
       conv => whnf
       refine ⟨by show L.length + 1 + 1 ≤ 9223372036854775807 ∧ (L.length + 1 + 1) * 1 ≤ 140737488355328; omega, ?_⟩
       conv => whnf
       refine ⟨(j, 8 * (j : Int) - 8, x :: (L ++ [UInt8.ofNat (N % 256)])), ⟨by omega, rfl, by rw [← hN, hnx (by omega)]; rfl⟩, Nat.lt_succ_self j, SLe.mk (fun _ => 27) ⟨rfl, rfl, ?_, trivial⟩ ⟨⟨_, rfl, ?_⟩, trivial⟩ rfl (fun R hR => hR)⟩
       · show some (SV.o (.v (.int .i64 (IntKind.i64.wrap (8 * (j : Int) - 8))))) = _
         rw [hw8]; rfl
       · show MEle (ME.own t_uint8 1 (L.length + 1 + 1) (app (rowV u8c (x :: L)) [Value.int .u8 (IntKind.u8.wrap (Int.fdiv (n : Int) (2 ^ min (8 * (j : Int)).toNat IntKind.i64.bits)))])) (ME.own t_uint8 1 ((L ++ [UInt8.ofNat (N % 256)]).length + 1) (rowV u8c (x :: (L ++ [UInt8.ofNat (N % 256)]))))
         rw [hf, u8_low8, app_eq, List.length_append, show x :: (L ++ [UInt8.ofNat (N % 256)]) = (x :: L) ++ [UInt8.ofNat (N % 256)] from rfl, rowV_append]
         exact .refl _
     · intro _
       conv => whnf
       refine br_true (decide_eq_true (show ((L.length + 1 : Nat) : Int) > 0 by omega)) ?_
       conv => whnf
       refine ⟨hz0, ?_⟩
       conv => whnf
       refine ⟨by show L.length + 1 + 1 ≤ 9223372036854775807 ∧ (L.length + 1 + 1) * 1 ≤ 140737488355328; omega, ?_⟩
       conv => whnf
       refine ⟨(j, 8 * (j : Int) - 8, x :: (L ++ [UInt8.ofNat (N % 256)])), ⟨by omega, rfl, by rw [← hN, hnx (by omega)]; rfl⟩, Nat.lt_succ_self j, SLe.mk (fun _ => 27) ⟨rfl, rfl, ?_, trivial⟩ ⟨⟨_, rfl, ?_⟩, trivial⟩ rfl (fun R hR => hR)⟩
       · show some (SV.o (.v (.int .i64 (IntKind.i64.wrap (8 * (j : Int) - 8))))) = _
         rw [hw8]; rfl
       · show MEle (ME.own t_uint8 1 (L.length + 1 + 1) (app (rowV u8c (x :: L)) [Value.int .u8 (IntKind.u8.wrap (Int.fdiv (n : Int) (2 ^ min (8 * (j : Int)).toNat IntKind.i64.bits)))])) (ME.own t_uint8 1 ((L ++ [UInt8.ofNat (N % 256)]).length + 1) (rowV u8c (x :: (L ++ [UInt8.ofNat (N % 256)]))))
         rw [hf, u8_low8, app_eq, List.length_append, show x :: (L ++ [UInt8.ofNat (N % 256)]) = (x :: L) ++ [UInt8.ofNat (N % 256)] from rfl, rowV_append]
         exact .refl _
 · obtain rfl : j1 = 0 := by omega
   rw [Nat.pow_zero, Nat.div_one] at hL
   rcases L with _ | ⟨x, L⟩
   · have := bytes_nil.1 hL.symm; omega
   · conv => whnf
     refine br_false (decide_eq_false (by omega)) ?_
     conv => whnf
     refine ⟨x :: L, rfl, ?_, ?_⟩
     · rw [rowV_u8]; exact List.take_of_length_le (by simp [bytV])
     conv => whnf
     rw [hL]
     exact postV_one rfl
end Go.Sx
end
section
set_option maxRecDepth 10000
set_option maxHeartbeats 2000000
namespace Go.Sx
open Go Go.Proofs
theorem r_rsmall (r : Raw) : Fn PP f_narrowsref02_small [rawV r] (mach r) := by
 refine Fn.of TBgood mixed h_narrowsref02_small rfl rfl (Nat.le_of_ble_eq_true rfl) ?_
 intro w
 conv => whnf
 refine br_split ?_ ?_
 · intro h
   have h1 : ¬ r.num.length ≤ 3 := by
     have : ((r.num.length : Nat) : Int) > 3 := of_decide_eq_true h
     omega
   conv => whnf
   refine postV_three ?_
   rw [mach, if_neg (fun h => h1 h.1)]
 intro h
 have h1 : r.num.length ≤ 3 := by
   have : ¬ ((r.num.length : Nat) : Int) > 3 := of_decide_eq_false h
   omega
 conv => whnf
 refine br_split ?_ ?_
 · intro h
   have h2 : ¬ r.den.length ≤ 3 := by
     have : ((r.den.length : Nat) : Int) > 3 := of_decide_eq_true h
     omega
   conv => whnf
   refine postV_three ?_
   rw [mach, if_neg (fun h => h2 h.2)]
 intro h
 have h2 : r.den.length ≤ 3 := by
   have : ¬ ((r.den.length : Nat) : Int) > 3 := of_decide_eq_false h
   omega
 have hnb : nat r.num < 16777216 := nat_bound h1
 have fin : mach r = .tuple #[.int .i64 r.n, .int .i64 (r.d : Int), .bool true] := by rw [mach, if_pos ⟨h1, h2⟩]
 rw [fin]
 conv => whnf
 refine DrawVC.quiet (by kernel_rfl) ?_
 conv => whnf
 refine CallVCd.fn (r_number r.num (by omega)) rfl ?_
 conv => whnf
 refine CallVCd.fn (r_number r.den (by omega)) rfl ?_
 conv => whnf
 have hneg : ∀ b : Bool, (b = true → IntKind.i64.wrap (0 - (nat r.num : Int)) = sg b (nat r.num)) := fun b hb => by
   rw [hb, wrap_i64 (by omega) (by omega), Int.zero_sub]; rfl
 refine br_split ?_ ?_ <;> intro hd0
 · have hd : r.d = 1 := by
     have h3 : (nat r.den : Int) = 0 := eq_of_beq hd0
     unfold Raw.d dnm; rw [if_pos (by omega)]
   rw [hd]
   conv => whnf
   refine br_split ?_ ?_ <;> intro hb
   · conv => whnf
     refine postV_three ?_
     rw [hneg r.neg hb]; rfl
   · conv => whnf
     refine postV_three ?_
     rw [Raw.n, hb]; rfl
 · have hd : r.d = nat r.den := by
     have h3 : ¬ (nat r.den : Int) = 0 := ne_of_beq_false hd0
     unfold Raw.d dnm; rw [if_neg (by omega)]
   rw [hd]
   conv => whnf
   refine br_split ?_ ?_ <;> intro hb
   · conv => whnf
     refine postV_three ?_
     rw [hneg r.neg hb]; rfl
   · conv => whnf
     refine postV_three ?_
     rw [Raw.n, hb]; rfl
theorem mk_natAbs {n : Int} {d : Nat} (hd : 0 < d) : (mkRat n d).num.natAbs = n.natAbs / Nat.gcd n.natAbs d := by
 rw [Rat.num_mkRat, if_neg (by omega), Nat.gcd_comm d, Int.natAbs_ediv_of_dvd (Int.ofNat_dvd_left.2 (Nat.gcd_dvd_left _ _)), Int.natAbs_natCast]
theorem mk_denN {n : Int} {d : Nat} (hd : 0 < d) : (mkRat n d).den = d / Nat.gcd n.natAbs d := by rw [Rat.den_mkRat, if_neg (by omega), Nat.gcd_comm d]
theorem qV_of {n : Int} {d : Nat} (hd : 0 < d) (D : List UInt8) (hD : D = if d / Nat.gcd n.natAbs d = 1 then [] else bytes (d / Nat.gcd n.natAbs d)) :
   Value.agg ⟨[.bool (decide (n < 0)), .string (bs (bytes (n.natAbs / Nat.gcd n.natAbs d))), .string (bs D)]⟩ = qV (mkRat n d) := by
 rw [hD]
 simp only [qV, rawV, Q, mk_natAbs hd, mk_denN hd]
 rw [decide_eq_decide.2 (mk_neg hd)]
theorem some_int {x y : Int} (h : x = y) : some (SV.o (.v (.int .i64 x))) = some (SV.o (.v (.int .i64 y))) := by rw [h]
theorem tdivN (a b : Nat) : Int.tdiv (a : Int) (b : Int) = ((a / b : Nat) : Int) := rfl
theorem r_pack (n : Int) (d : Nat) (hn : n.natAbs < 72057594037927936) (hd0 : 0 < d) (hd : d < 72057594037927936) : Fn PP f_narrowsref02_pack [.int .i64 n, .int .i64 (d : Int)] (qV (mkRat n d)) := by
 refine Fn.of TBgood mixed h_narrowsref02_pack rfl rfl (Nat.le_of_ble_eq_true rfl) ?_
 intro w
 obtain ⟨a, ha⟩ : ∃ a, a = n.natAbs := ⟨_, rfl⟩
 conv => whnf
 have hq := fun D hD => qV_of (n := n) hd0 D hD
 have hdv : Nat.gcd a d ∣ d := Nat.gcd_dvd_right _ _
 have hda : Nat.gcd a d ∣ a := Nat.gcd_dvd_left _ _
 rw [← ha] at hn hq
 refine br_split ?_ ?_ <;> intro hs
 · have hneg : n < 0 := of_decide_eq_true hs
   have hw : IntKind.i64.wrap (0 - n) = (a : Int) := by rw [wrap_i64 (by omega) (by omega)]; omega
   have ha0 : 0 < a := by omega
   conv => whnf
   refine br_false (beq_false_of_ne (by rw [hw]; omega)) ?_
   conv => whnf
   refine sexec_loop (ι := Nat × Nat) (fun ⟨c, e⟩ => ⟨[(0, .o (.v (.int .i64 a))), (1, .o (.v (.int .i64 d))), (4, .o (.p 4 0)), (5, .o (.p 5 0)), (6, .o (.v (.int .i64 c))), (7, .o (.v (.int .i64 e)))], [(4, .box [.v (.bool false), .v (.string ⟨#[]⟩), .v (.string ⟨#[]⟩)] t_api_Rat), (5, .box [.v (.bool (decide (n < 0))), .v (.string ⟨#[]⟩), .v (.string ⟨#[]⟩)] t_api_Rat)], []⟩)
     (fun ⟨c, e⟩ => Nat.gcd c e = Nat.gcd a d ∧ c < 72057594037927936 ∧ e < 72057594037927936) (fun ⟨c, e⟩ => e) (a, d) ⟨rfl, hn, hd⟩ (SLe.id ⟨(some_int hw), rfl, rfl, rfl, (some_int hw), rfl, trivial⟩ ⟨⟨_, rfl, .refl _⟩, ⟨_, rfl, .refl _⟩, trivial⟩ (fun R hR => hR)) ?_
   rintro ⟨c, e⟩ ⟨hg, hc, he⟩
   conv => whnf
   refine br_split ?_ ?_
   · intro h
     have he0 : 0 < e := by
       have : (e : Int) > 0 := of_decide_eq_true h
       omega
     have hlt2 : c % e < e := Nat.mod_lt _ he0
     conv => whnf
     refine DrawVC.quiet (by kernel_rfl) ?_
     conv => whnf
     refine ⟨by omega, ?_⟩
     conv => whnf
     exact ⟨(e, c % e), ⟨by rw [← hg, Nat.gcd_comm c e, Nat.gcd_rec e c, Nat.gcd_comm], he, by omega⟩, hlt2, SLe.id ⟨rfl, rfl, rfl, rfl, rfl, rfl, trivial⟩ ⟨⟨_, rfl, .refl _⟩, ⟨_, rfl, .refl _⟩, trivial⟩ (fun R hR => hR)⟩
   intro h
   have he0 : e = 0 := by
     have : ¬ (e : Int) > 0 := of_decide_eq_false h
     omega
   subst he0
   rw [Nat.gcd_zero_right] at hg
   rw [← hg] at hdv hda hq
   have w1 : IntKind.i64.wrap (Int.tdiv (a : Int) (c : Int)) = ((a / c : Nat) : Int) := by rw [tdivN]; exact wrapN (Nat.lt_of_le_of_lt (Nat.div_le_self _ _) (by omega))
   have w2 : IntKind.i64.wrap (Int.tdiv (d : Int) (c : Int)) = ((d / c : Nat) : Int) := by rw [tdivN]; exact wrapN (Nat.lt_of_le_of_lt (Nat.div_le_self _ _) (by omega))
   have hcp : 0 < c := Nat.pos_of_dvd_of_pos hdv hd0
   conv => whnf
   refine ⟨by omega, ?_⟩
   conv => whnf
   refine CallVC.fn (r_digits (a / c) (Nat.div_pos (Nat.le_of_dvd ha0 hda) hcp) (Nat.lt_of_le_of_lt (Nat.div_le_self _ _) hn)) (congrArg (fun z => [SV.o (.v (.int .i64 z))]) w1) ?_
   conv => whnf
   refine ⟨by omega, ?_⟩
   conv => whnf
   by_cases h1 : d / c = 1
   · refine br_false (decide_eq_false (by rw [w2, h1]; decide)) ?_
     conv => whnf
     refine postV_one ?_
     exact hq [] (by rw [if_pos h1])
   · have hdc := Nat.div_pos (Nat.le_of_dvd hd0 hdv) hcp
     refine br_true (decide_eq_true (by rw [w2]; omega)) ?_
     conv => whnf
     refine ⟨by omega, ?_⟩
     conv => whnf
     refine CallVC.fn (r_digits (d / c) hdc (Nat.lt_of_le_of_lt (Nat.div_le_self _ _) hd)) (congrArg (fun z => [SV.o (.v (.int .i64 z))]) w2) ?_
     conv => whnf
     refine postV_one ?_
     exact hq _ (by rw [if_neg h1])
 · have hpos : ¬ n < 0 := of_decide_eq_false hs
   obtain rfl : n = (a : Int) := by omega
   conv => whnf
   by_cases h0 : a = 0
   · refine br_true (beq_iff_eq.2 (show (a : Int) = 0 by omega)) ?_
     conv => whnf
     refine postV_one ?_
     rw [h0, show ((0 : Nat) : Int) = 0 from rfl, Rat.zero_mkRat, q0]
   have ha0 : 0 < a := by omega
   refine br_false (beq_false_of_ne (show ¬ (a : Int) = 0 by omega)) ?_
   conv => whnf
   refine sexec_loop (ι := Nat × Nat) (fun ⟨c, e⟩ => ⟨[(0, .o (.v (.int .i64 a))), (1, .o (.v (.int .i64 d))), (4, .o (.p 4 0)), (5, .o (.p 5 0)), (6, .o (.v (.int .i64 c))), (7, .o (.v (.int .i64 e)))], [(4, .box [.v (.bool false), .v (.string ⟨#[]⟩), .v (.string ⟨#[]⟩)] t_api_Rat), (5, .box [.v (.bool (decide ((a : Int) < 0))), .v (.string ⟨#[]⟩), .v (.string ⟨#[]⟩)] t_api_Rat)], []⟩)
     (fun ⟨c, e⟩ => Nat.gcd c e = Nat.gcd a d ∧ c < 72057594037927936 ∧ e < 72057594037927936) (fun ⟨c, e⟩ => e) (a, d) ⟨rfl, hn, hd⟩ (SLe.id ⟨rfl, rfl, rfl, rfl, rfl, rfl, trivial⟩ ⟨⟨_, rfl, .refl _⟩, ⟨_, rfl, .refl _⟩, trivial⟩ (fun R hR => hR)) ?_
   rintro ⟨c, e⟩ ⟨hg, hc, he⟩
   conv => whnf
   refine br_split ?_ ?_
   · intro h
     have he0 : 0 < e := by
       have : (e : Int) > 0 := of_decide_eq_true h
       omega
     have hlt2 : c % e < e := Nat.mod_lt _ he0
     conv => whnf
     refine DrawVC.quiet (by kernel_rfl) ?_
     conv => whnf
     refine ⟨by omega, ?_⟩
     conv => whnf
     exact ⟨(e, c % e), ⟨by rw [← hg, Nat.gcd_comm c e, Nat.gcd_rec e c, Nat.gcd_comm], he, by omega⟩, hlt2, SLe.id ⟨rfl, rfl, rfl, rfl, rfl, rfl, trivial⟩ ⟨⟨_, rfl, .refl _⟩, ⟨_, rfl, .refl _⟩, trivial⟩ (fun R hR => hR)⟩
   intro h
   have he0 : e = 0 := by
     have : ¬ (e : Int) > 0 := of_decide_eq_false h
     omega
   subst he0
   rw [Nat.gcd_zero_right] at hg
   rw [← hg] at hdv hda hq
   have w1 : IntKind.i64.wrap (Int.tdiv (a : Int) (c : Int)) = ((a / c : Nat) : Int) := by rw [tdivN]; exact wrapN (Nat.lt_of_le_of_lt (Nat.div_le_self _ _) (by omega))
   have w2 : IntKind.i64.wrap (Int.tdiv (d : Int) (c : Int)) = ((d / c : Nat) : Int) := by rw [tdivN]; exact wrapN (Nat.lt_of_le_of_lt (Nat.div_le_self _ _) (by omega))
   have hcp : 0 < c := Nat.pos_of_dvd_of_pos hdv hd0
   conv => whnf
   refine ⟨by omega, ?_⟩
   conv => whnf
   refine CallVC.fn (r_digits (a / c) (Nat.div_pos (Nat.le_of_dvd ha0 hda) hcp) (Nat.lt_of_le_of_lt (Nat.div_le_self _ _) hn)) (congrArg (fun z => [SV.o (.v (.int .i64 z))]) w1) ?_
   conv => whnf
   refine ⟨by omega, ?_⟩
   conv => whnf
   by_cases h1 : d / c = 1
   · refine br_false (decide_eq_false (by rw [w2, h1]; decide)) ?_
     conv => whnf
     refine postV_one ?_
     exact hq [] (by rw [if_pos h1])
   · have hdc := Nat.div_pos (Nat.le_of_dvd hd0 hdv) hcp
     refine br_true (decide_eq_true (by rw [w2]; omega)) ?_
     conv => whnf
     refine ⟨by omega, ?_⟩
     conv => whnf
     refine CallVC.fn (r_digits (d / c) hdc (Nat.lt_of_le_of_lt (Nat.div_le_self _ _) hd)) (congrArg (fun z => [SV.o (.v (.int .i64 z))]) w2) ?_
     conv => whnf
     refine postV_one ?_
     exact hq _ (by rw [if_neg h1])
end Go.Sx
end
section
set_option maxRecDepth 10000
set_option maxHeartbeats 2000000
namespace Go.Sx
open Go Go.Proofs
theorem r_AddR0 (b : Bool) (l : List UInt8) (hl : l.length ≤ 500000000) : Fn PP f_narrowsref01_Add [intV b (bs l), intV false ⟨#[]⟩] (zV (sg b (nat l))) := by
 have := r_Add b false l [] hl (by decide)
 rw [nat_nil, show sg false 0 = 0 from rfl, Int.add_zero] at this
 exact this
theorem r_AddZ0 (x : Int) (hl : (bytes x.natAbs).length ≤ 500000000) : Fn PP f_narrowsref01_Add [zV x, intV false ⟨#[]⟩] (zV x) := by
 have := r_AddR0 (decide (x < 0)) (bytes x.natAbs) hl
 rw [nat_bytes, sg_z] at this
 exact this
theorem r_parts (r : Raw) (hr : r.sm 500000000) : Fn PP f_narrowsref02_parts [rawV r] (.tuple #[zV r.n, zV (r.d : Int)]) := by
 refine Fn.of TBgood mixed h_narrowsref02_parts rfl rfl (Nat.le_of_ble_eq_true rfl) ?_
 intro w
 conv => whnf
 refine CallVC.fn (r_AddR0 r.neg r.num hr.1) rfl ?_
 conv => whnf
 refine CallVC.fn (r_AddR0 false r.den hr.2) rfl ?_
 rw [show sg r.neg (nat r.num) = r.n from rfl, show sg false (nat r.den) = ((nat r.den : Nat) : Int) from rfl]
 conv => whnf
 by_cases h0 : nat r.den = 0
 · have hd : r.d = 1 := by unfold Raw.d dnm; rw [if_pos h0]
   rw [hd]
   refine br_true ((emptyZ (nat r.den : Int)).trans (decide_eq_true (by omega))) ?_
   conv => whnf
   refine CallVC.fn (r_Of 1 (by decide) (by decide)) rfl ?_
   conv => whnf
   refine DrawVC.late [(2, 2, [1])] (by kernel_rfl) ?_
   conv => whnf
   exact postV_two rfl
 · have hd : r.d = nat r.den := by unfold Raw.d dnm; rw [if_neg h0]
   rw [hd]
   refine br_false ((emptyZ (nat r.den : Int)).trans (decide_eq_false (by omega))) ?_
   conv => whnf
   refine DrawVC.late [(2, 2, [1])] (by kernel_rfl) ?_
   conv => whnf
   exact postV_two rfl
theorem not_one (m : Nat) : (!((bs (bytes m)).toList == ByteArray.toList ⟨#[1]⟩)) = decide (m ≠ 1) := by
 have h1 : ByteArray.toList ⟨#[1]⟩ = bytes 1 := by decide +kernel
 rw [bs_toList, h1]
 by_cases h : m = 1
 · subst h; simp
 · have : ¬ bytes m = bytes 1 := fun h2 => h (bytes_inj h2)
   simp [h, this]
theorem r_reduce (X : Int) (D : Nat) (hX : (bytes X.natAbs).length ≤ 300000000) (hD : (bytes D).length ≤ 300000000) (h0 : 0 < D) : Fn PP f_narrowsref02_reduce [zV X, zV (D : Int)] (qV (mkRat X D)) := by
 refine Fn.of TBgood mixed h_narrowsref02_reduce rfl rfl (Nat.le_of_ble_eq_true rfl) ?_
 intro w
 conv => whnf
 refine DrawVC.quiet (by kernel_rfl) ?_
 conv => whnf
 refine CallVCd.fn (r_AddZ0 X (by omega)) rfl ?_
 conv => whnf
 refine CallVCd.fn (r_AddZ0 (D : Int) (by rw [Int.natAbs_natCast]; omega)) rfl ?_
 conv => whnf
 by_cases hx0 : X = 0
 · refine br_true ((emptyZ X).trans (decide_eq_true hx0)) ?_
   conv => whnf
   refine postV_one ?_
   rw [hx0, Rat.zero_mkRat, q0]
 refine br_false ((emptyZ X).trans (decide_eq_false hx0)) ?_
 conv => whnf
 refine CallVC.fn (r_GcdZ X (D : Int) hX (by rw [Int.natAbs_natCast]; exact hD)) rfl ?_
 rw [Int.natAbs_natCast]
 obtain ⟨G, hG⟩ : ∃ G, G = Nat.gcd X.natAbs D := ⟨_, rfl⟩
 rw [← hG]
 have hGp : 0 < G := by rw [hG]; exact Nat.gcd_pos_of_pos_right _ h0
 have hGl : (bytes ((G : Int)).natAbs).length ≤ 300000000 := by
   rw [Int.natAbs_natCast]
   exact Nat.le_trans (bytes_mono (by rw [hG]; exact Nat.gcd_le_right _ h0)) hD
 conv => whnf
 have d1 := r_DivZ X (G : Int) hX hGl
 rw [if_neg (by omega), show X.fdiv (G : Int) = (mkRat X D).num by rw [mk_num h0, ← hG]] at d1
 refine CallVC.fn d1 rfl ?_
 conv => whnf
 have d2 := r_DivZ (D : Int) (G : Int) (by rw [Int.natAbs_natCast]; exact hD) hGl
 rw [if_neg (by omega), show (D : Int).fdiv (G : Int) = ((mkRat X D).den : Int) by rw [mk_den h0, ← hG]] at d2
 refine CallVC.fn d2 rfl ?_
 conv => whnf
 have hres : ∀ d : List UInt8, d = (if (mkRat X D).den = 1 then [] else bytes (mkRat X D).den) → (Value.agg ⟨[.bool (decide ((mkRat X D).num < 0)), .string (bs (bytes (mkRat X D).num.natAbs)), .string (bs d)]⟩) = qV (mkRat X D) := by
   intro d hd
   rw [hd]
   simp only [qV, rawV, Q, num_neg_iff]
 by_cases h1 : (mkRat X D).den = 1
 · refine br_false ((not_one _).trans (decide_eq_false (by rw [Int.natAbs_natCast]; omega))) ?_
   conv => whnf
   refine postV_one ?_
   exact hres [] (by rw [if_pos h1])
 · refine br_true ((not_one _).trans (decide_eq_true (by rw [Int.natAbs_natCast]; omega))) ?_
   conv => whnf
   refine postV_one ?_
   exact hres _ (by rw [if_neg h1, Int.natAbs_natCast])
end Go.Sx
end
section
set_option maxRecDepth 10000
set_option maxHeartbeats 2000000
namespace Go.Sx
open Go Go.Proofs
theorem mach_cases (r : Raw) : (r.little ∧ mach r = .tuple #[.int .i64 r.n, .int .i64 (r.d : Int), .bool true]) ∨ mach r = .tuple #[.int .i64 0, .int .i64 0, .bool false] := by
 by_cases h : r.num.length ≤ 3 ∧ r.den.length ≤ 3
 · exact .inl ⟨h, by rw [mach, if_pos h]⟩
 · exact .inr (by rw [mach, if_neg h])
theorem Raw.big5 {r : Raw} (hr : r.sm KK) : r.sm 500000000 := ⟨Nat.le_trans hr.1 (by decide), Nat.le_trans hr.2 (by decide)⟩
theorem little_n {r : Raw} (h : r.little) : r.n.natAbs < 16777216 := Raw.n_bound (k := 3) h.1
theorem little_d {r : Raw} (h : r.little) : r.d < 16777216 := Raw.d_bound (k := 3) (by decide) h.2
theorem mulN {a b : Int} (ha : a.natAbs < 16777216) (hb : b.natAbs < 16777216) : (a * b).natAbs < 281474976710656 := by
 have := pow_add_lt (k := 3) (m := 3) (by simpa using ha) (by simpa using hb)
 rw [Int.natAbs_mul]; simpa using this
theorem mulDD {a b : Nat} (ha : a < 16777216) (hb : b < 16777216) : a * b < 281474976710656 := by
 have := pow_add_lt (k := 3) (m := 3) (a := a) (b := b) (by simpa using ha) (by simpa using hb)
 simpa using this
theorem r_Normal (r : Raw) (hr : r.sm KK) : Fn PP f_narrowsref02_Normal [rawV r] (qV r.v) := by
 refine Fn.of TBgood mixed h_narrowsref02_Normal rfl rfl (Nat.le_of_ble_eq_true rfl) ?_
 intro w
 conv => whnf
 refine CallVC.fn (r_rsmall r) rfl ?_
 rcases mach_cases r with ⟨hl, hm⟩ | hm
 · have h1 := little_n hl
   have h2 := little_d hl
   rw [hm]
   conv => whnf
   refine CallVC.fn (r_pack r.n r.d (by omega) r.d_pos (by omega)) rfl ?_
   conv => whnf
   exact postV_one rfl
 · rw [hm]
   conv => whnf
   refine CallVC.fn (r_parts r (Raw.big5 hr)) rfl ?_
   conv => whnf
   refine CallVC.fn (r_reduce r.n r.d (Nat.le_trans (zl_le (rn_lt hr)) (by decide)) (by have := zl_le (rd_lt hr); rw [zl, Int.natAbs_natCast] at this; exact Nat.le_trans this (by decide)) r.d_pos) rfl ?_
   conv => whnf
   exact postV_one rfl
theorem r_rOf (n : Int) (h1 : -9223372036854775808 ≤ n) (h2 : n ≤ 9223372036854775807) : Fn PP f_narrowsref02_Of [.int .i64 n] (qV (n : Rat)) := by
 refine Fn.of TBgood mixed h_narrowsref02_Of rfl rfl (Nat.le_of_ble_eq_true rfl) ?_
 intro w
 conv => whnf
 refine CallVC.fn (r_Of n h1 h2) rfl ?_
 conv => whnf
 refine CallVC.fn (r_Of 1 (by decide) (by decide)) rfl ?_
 conv => whnf
 refine CallVC.fn (r_reduce n 1 (Nat.le_trans (bytes_len (k := 8) (by omega)) (by decide)) (by decide +kernel) (by decide)) rfl ?_
 conv => whnf
 refine postV_one ?_
 rw [mk_one]
theorem r_rNeg (r : Raw) (hr : r.sm KK) : Fn PP f_narrowsref02_Neg [rawV r] (qV (-r.v)) := by
 refine Fn.of TBgood mixed h_narrowsref02_Neg rfl rfl (Nat.le_of_ble_eq_true rfl) ?_
 intro w
 conv => whnf
 refine CallVC.fn (r_Normal r.opp (Raw.opp_sm hr)) rfl ?_
 conv => whnf
 refine postV_one ?_
 rw [Raw.opp_v]
theorem r_rAbs (r : Raw) (hr : r.sm KK) : Fn PP f_narrowsref02_Abs [rawV r] (qV (Raw.v ⟨false, r.num, r.den⟩)) := by
 refine Fn.of TBgood mixed h_narrowsref02_Abs rfl rfl (Nat.le_of_ble_eq_true rfl) ?_
 intro w
 conv => whnf
 refine CallVC.fn (r_Normal ⟨false, r.num, r.den⟩ hr) rfl ?_
 conv => whnf
 exact postV_one rfl
theorem dl_le {r s : Raw} (hr : r.sm KK) (hs : s.sm KK) : (bytes (r.d * s.d)).length ≤ 300000000 := by
 have := zl_le (zl_mul (rd_lt hr) (rd_lt hs))
 rw [zl, dnat] at this
 exact Nat.le_trans this (by decide)
theorem z1 {x : Int} {k : Nat} (h : x.natAbs < 256 ^ k) (m : Nat) (hk : k ≤ m) : (bytes x.natAbs).length ≤ m := Nat.le_trans (zl_le h) hk
theorem r_rAdd (r s : Raw) (hr : r.sm KK) (hs : s.sm KK) : Fn PP f_narrowsref02_Add [rawV r, rawV s] (qV (r.v + s.v)) := by
 refine Fn.of TBgood mixed h_narrowsref02_Add rfl rfl (Nat.le_of_ble_eq_true rfl) ?_
 intro w
 have b1 := zl_mul (rn_lt hr) (rd_lt hs)
 have b2 := zl_mul (rn_lt hs) (rd_lt hr)
 have b3 := zl_add b1 b2
 have b5 := zl_mul (rn_lt hr) (rn_lt hs)
 have q1 := rn_lt hr
 have q2 := rd_lt hr
 have q3 := rn_lt hs
 have q4 := rd_lt hs
 conv => whnf
 refine CallVC.fn (r_rsmall r) rfl ?_
 have hc : (r.little ∧ s.little ∧ mach r = .tuple #[.int .i64 r.n, .int .i64 (r.d : Int), .bool true] ∧ mach s = .tuple #[.int .i64 s.n, .int .i64 (s.d : Int), .bool true]) ∨ (∃ x y, mach r = .tuple #[.int .i64 x, .int .i64 y, .bool true] ∧ mach s = .tuple #[.int .i64 0, .int .i64 0, .bool false]) ∨ (∃ x y b, mach r = .tuple #[.int .i64 0, .int .i64 0, .bool false] ∧ mach s = .tuple #[.int .i64 x, .int .i64 y, .bool b]) := by
   rcases mach_cases r with ⟨h1, h2⟩ | h2 <;> rcases mach_cases s with ⟨h3, h4⟩ | h4
   · exact .inl ⟨h1, h3, h2, h4⟩
   · exact .inr (.inl ⟨_, _, h2, h4⟩)
   · exact .inr (.inr ⟨_, _, _, h2, h4⟩)
   · exact .inr (.inr ⟨_, _, _, h2, h4⟩)
 rcases hc with ⟨l1, l2, m1, m2⟩ | hc
 · have e1 := little_n l1
   have e2 := little_d l1
   have e3 := little_n l2
   have e4 := little_d l2
   have g1 := mulN e1 (b := (s.d : Int)) (by omega)
   have g2 := mulN e3 (b := (r.d : Int)) (by omega)
   have g3 := mulDD e2 e4
   have g4 := mulN e1 e3
   have w1 : IntKind.i64.wrap (r.n * (s.d : Int)) = r.n * (s.d : Int) := wrap_i64 (by omega) (by omega)
   have w2 : IntKind.i64.wrap (s.n * (r.d : Int)) = s.n * (r.d : Int) := wrap_i64 (by omega) (by omega)
   have w3 : IntKind.i64.wrap ((r.d : Int) * (s.d : Int)) = ((r.d * s.d : Nat) : Int) := by rw [Int.natCast_mul]; rw [← Int.natCast_mul]; exact wrapN (by omega)
   have w4 : IntKind.i64.wrap (r.n * s.n) = r.n * s.n := wrap_i64 (by omega) (by omega)
   have w5 : IntKind.i64.wrap (r.n * (s.d : Int) + s.n * (r.d : Int)) = r.n * (s.d : Int) + s.n * (r.d : Int) := wrap_i64 (by omega) (by omega)
   rw [m1]
   conv => whnf
   refine CallVC.fn (r_rsmall s) rfl ?_
   rw [m2]
   conv => whnf
   refine CallVC.fn (r_pack (r.n * (s.d : Int) + s.n * (r.d : Int)) (r.d * s.d) (by omega) (Nat.mul_pos r.d_pos s.d_pos) (by omega)) (by
     show [SV.o (.v (.int .i64 (IntKind.i64.wrap (IntKind.i64.wrap (r.n * (s.d : Int)) + IntKind.i64.wrap (s.n * (r.d : Int)))))), SV.o (.v (.int .i64 (IntKind.i64.wrap ((r.d : Int) * (s.d : Int)))))] = _
     rw [w1, w2, w3, w5]; rfl) ?_
   conv => whnf
   refine postV_one ?_
   rw [Raw.v, Raw.v, Rat.mkRat_add_mkRat _ _ r.d_ne s.d_ne]
 rcases hc with ⟨x, y, m1, m2⟩ | ⟨x, y, b, m1, m2⟩
 all_goals
   rw [m1]
   conv => whnf
   refine CallVC.fn (r_rsmall s) rfl ?_
   rw [m2]
   conv => whnf
   refine CallVC.fn (r_parts r (Raw.big5 hr)) rfl ?_
   conv => whnf
   refine CallVC.fn (r_parts s (Raw.big5 hs)) rfl ?_
   conv => whnf
   refine DrawVC.quiet (by kernel_rfl) ?_
   conv => whnf
   refine CallVCd.fn (r_MulZ r.n s.d (z1 q1 _ (by decide)) (z1 q4 _ (by decide))) rfl ?_
   conv => whnf
   refine CallVCd.fn (r_MulZ s.n r.d (z1 q3 _ (by decide)) (z1 q2 _ (by decide))) rfl ?_
   conv => whnf
   refine CallVCd.fn (r_AddZ (r.n * s.d) (s.n * r.d) (z1 b1 _ (by decide)) (z1 b2 _ (by decide))) rfl ?_
   conv => whnf
   refine CallVCd.fn (r_MulZ r.d s.d (z1 q2 _ (by decide)) (z1 q4 _ (by decide))) rfl ?_
   rw [← Int.natCast_mul]
   conv => whnf
   refine CallVCd.fn (r_reduce (r.n * s.d + s.n * r.d) (r.d * s.d) (z1 b3 _ (by decide)) (dl_le hr hs) (Nat.mul_pos r.d_pos s.d_pos)) rfl ?_
   conv => whnf
   refine postV_one ?_
   rw [Raw.v, Raw.v, Rat.mkRat_add_mkRat _ _ r.d_ne s.d_ne]
theorem r_rMul (r s : Raw) (hr : r.sm KK) (hs : s.sm KK) : Fn PP f_narrowsref02_Mul [rawV r, rawV s] (qV (r.v * s.v)) := by
 refine Fn.of TBgood mixed h_narrowsref02_Mul rfl rfl (Nat.le_of_ble_eq_true rfl) ?_
 intro w
 have b1 := zl_mul (rn_lt hr) (rd_lt hs)
 have b2 := zl_mul (rn_lt hs) (rd_lt hr)
 have b3 := zl_add b1 b2
 have b5 := zl_mul (rn_lt hr) (rn_lt hs)
 have q1 := rn_lt hr
 have q2 := rd_lt hr
 have q3 := rn_lt hs
 have q4 := rd_lt hs
 conv => whnf
 refine CallVC.fn (r_rsmall r) rfl ?_
 have hc : (r.little ∧ s.little ∧ mach r = .tuple #[.int .i64 r.n, .int .i64 (r.d : Int), .bool true] ∧ mach s = .tuple #[.int .i64 s.n, .int .i64 (s.d : Int), .bool true]) ∨ (∃ x y, mach r = .tuple #[.int .i64 x, .int .i64 y, .bool true] ∧ mach s = .tuple #[.int .i64 0, .int .i64 0, .bool false]) ∨ (∃ x y b, mach r = .tuple #[.int .i64 0, .int .i64 0, .bool false] ∧ mach s = .tuple #[.int .i64 x, .int .i64 y, .bool b]) := by
   rcases mach_cases r with ⟨h1, h2⟩ | h2 <;> rcases mach_cases s with ⟨h3, h4⟩ | h4
   · exact .inl ⟨h1, h3, h2, h4⟩
   · exact .inr (.inl ⟨_, _, h2, h4⟩)
   · exact .inr (.inr ⟨_, _, _, h2, h4⟩)
   · exact .inr (.inr ⟨_, _, _, h2, h4⟩)
 rcases hc with ⟨l1, l2, m1, m2⟩ | hc
 · have e1 := little_n l1
   have e2 := little_d l1
   have e3 := little_n l2
   have e4 := little_d l2
   have g1 := mulN e1 (b := (s.d : Int)) (by omega)
   have g2 := mulN e3 (b := (r.d : Int)) (by omega)
   have g3 := mulDD e2 e4
   have g4 := mulN e1 e3
   have w1 : IntKind.i64.wrap (r.n * (s.d : Int)) = r.n * (s.d : Int) := wrap_i64 (by omega) (by omega)
   have w2 : IntKind.i64.wrap (s.n * (r.d : Int)) = s.n * (r.d : Int) := wrap_i64 (by omega) (by omega)
   have w3 : IntKind.i64.wrap ((r.d : Int) * (s.d : Int)) = ((r.d * s.d : Nat) : Int) := by rw [Int.natCast_mul]; rw [← Int.natCast_mul]; exact wrapN (by omega)
   have w4 : IntKind.i64.wrap (r.n * s.n) = r.n * s.n := wrap_i64 (by omega) (by omega)
   have w5 : IntKind.i64.wrap (r.n * (s.d : Int) + s.n * (r.d : Int)) = r.n * (s.d : Int) + s.n * (r.d : Int) := wrap_i64 (by omega) (by omega)
   rw [m1]
   conv => whnf
   refine CallVC.fn (r_rsmall s) rfl ?_
   rw [m2]
   conv => whnf
   refine CallVC.fn (r_pack (r.n * s.n) (r.d * s.d) (by omega) (Nat.mul_pos r.d_pos s.d_pos) (by omega)) (by
     show [SV.o (.v (.int .i64 (IntKind.i64.wrap (r.n * s.n)))), SV.o (.v (.int .i64 (IntKind.i64.wrap ((r.d : Int) * (s.d : Int)))))] = _
     rw [w4, w3]; rfl) ?_
   conv => whnf
   refine postV_one ?_
   rw [Raw.v, Raw.v, Rat.mkRat_mul_mkRat]
 rcases hc with ⟨x, y, m1, m2⟩ | ⟨x, y, b, m1, m2⟩
 all_goals
   rw [m1]
   conv => whnf
   refine CallVC.fn (r_rsmall s) rfl ?_
   rw [m2]
   conv => whnf
   refine CallVC.fn (r_parts r (Raw.big5 hr)) rfl ?_
   conv => whnf
   refine CallVC.fn (r_parts s (Raw.big5 hs)) rfl ?_
   conv => whnf
   refine DrawVC.quiet (by kernel_rfl) ?_
   conv => whnf
   refine CallVCd.fn (r_MulZ r.n s.n (z1 q1 _ (by decide)) (z1 q3 _ (by decide))) rfl ?_
   conv => whnf
   refine CallVCd.fn (r_MulZ r.d s.d (z1 q2 _ (by decide)) (z1 q4 _ (by decide))) rfl ?_
   rw [← Int.natCast_mul]
   conv => whnf
   refine CallVCd.fn (r_reduce (r.n * s.n) (r.d * s.d) (z1 b5 _ (by decide)) (dl_le hr hs) (Nat.mul_pos r.d_pos s.d_pos)) rfl ?_
   conv => whnf
   refine postV_one ?_
   rw [Raw.v, Raw.v, Rat.mkRat_mul_mkRat]
theorem r_rCompare (r s : Raw) (hr : r.sm KK) (hs : s.sm KK) : Fn PP f_narrowsref02_Compare [rawV r, rawV s] (.int .i64 (cmpQ r.v s.v)) := by
 refine Fn.of TBgood mixed h_narrowsref02_Compare rfl rfl (Nat.le_of_ble_eq_true rfl) ?_
 intro w
 have b1 := zl_mul (rn_lt hr) (rd_lt hs)
 have b2 := zl_mul (rn_lt hs) (rd_lt hr)
 have b3 := zl_add b1 b2
 have b5 := zl_mul (rn_lt hr) (rn_lt hs)
 have q1 := rn_lt hr
 have q2 := rd_lt hr
 have q3 := rn_lt hs
 have q4 := rd_lt hs
 conv => whnf
 refine CallVC.fn (r_rsmall r) rfl ?_
 have hc : (r.little ∧ s.little ∧ mach r = .tuple #[.int .i64 r.n, .int .i64 (r.d : Int), .bool true] ∧ mach s = .tuple #[.int .i64 s.n, .int .i64 (s.d : Int), .bool true]) ∨ (∃ x y, mach r = .tuple #[.int .i64 x, .int .i64 y, .bool true] ∧ mach s = .tuple #[.int .i64 0, .int .i64 0, .bool false]) ∨ (∃ x y b, mach r = .tuple #[.int .i64 0, .int .i64 0, .bool false] ∧ mach s = .tuple #[.int .i64 x, .int .i64 y, .bool b]) := by
   rcases mach_cases r with ⟨h1, h2⟩ | h2 <;> rcases mach_cases s with ⟨h3, h4⟩ | h4
   · exact .inl ⟨h1, h3, h2, h4⟩
   · exact .inr (.inl ⟨_, _, h2, h4⟩)
   · exact .inr (.inr ⟨_, _, _, h2, h4⟩)
   · exact .inr (.inr ⟨_, _, _, h2, h4⟩)
 rcases hc with ⟨l1, l2, m1, m2⟩ | hc
 · have e1 := little_n l1
   have e2 := little_d l1
   have e3 := little_n l2
   have e4 := little_d l2
   have g1 := mulN e1 (b := (s.d : Int)) (by omega)
   have g2 := mulN e3 (b := (r.d : Int)) (by omega)
   have g3 := mulDD e2 e4
   have g4 := mulN e1 e3
   have w1 : IntKind.i64.wrap (r.n * (s.d : Int)) = r.n * (s.d : Int) := wrap_i64 (by omega) (by omega)
   have w2 : IntKind.i64.wrap (s.n * (r.d : Int)) = s.n * (r.d : Int) := wrap_i64 (by omega) (by omega)
   have w3 : IntKind.i64.wrap ((r.d : Int) * (s.d : Int)) = ((r.d * s.d : Nat) : Int) := by rw [Int.natCast_mul]; rw [← Int.natCast_mul]; exact wrapN (by omega)
   have w4 : IntKind.i64.wrap (r.n * s.n) = r.n * s.n := wrap_i64 (by omega) (by omega)
   have w5 : IntKind.i64.wrap (r.n * (s.d : Int) + s.n * (r.d : Int)) = r.n * (s.d : Int) + s.n * (r.d : Int) := wrap_i64 (by omega) (by omega)
   rw [m1]
   conv => whnf
   refine CallVC.fn (r_rsmall s) rfl ?_
   rw [m2]
   conv => whnf
   rw [cmpQ_raw]
   rcases Int.lt_trichotomy (r.n * (s.d : Int)) (s.n * (r.d : Int)) with h | h | h
   · refine br_true (decide_eq_true (by rw [w1, w2]; exact h)) ?_
     conv => whnf
     refine postV_one ?_
     rw [cmpZ_lt h]
   · refine br_false (decide_eq_false (by rw [w1, w2]; omega)) ?_
     conv => whnf
     refine br_false (decide_eq_false (by rw [w1, w2]; omega)) ?_
     conv => whnf
     refine postV_one ?_
     rw [cmpZ_zero.2 h]
   · refine br_false (decide_eq_false (by rw [w1, w2]; omega)) ?_
     conv => whnf
     refine br_true (decide_eq_true (by rw [w1, w2]; omega)) ?_
     conv => whnf
     refine postV_one ?_
     rw [cmpZ_gt h]
 rcases hc with ⟨x, y, m1, m2⟩ | ⟨x, y, b, m1, m2⟩
 all_goals
   rw [m1]
   conv => whnf
   refine CallVC.fn (r_rsmall s) rfl ?_
   rw [m2]
   conv => whnf
   refine CallVC.fn (r_parts r (Raw.big5 hr)) rfl ?_
   conv => whnf
   refine CallVC.fn (r_parts s (Raw.big5 hs)) rfl ?_
   conv => whnf
   refine DrawVC.quiet (by kernel_rfl) ?_
   conv => whnf
   refine CallVCd.fn (r_MulZ r.n s.d (z1 q1 _ (by decide)) (z1 q4 _ (by decide))) rfl ?_
   conv => whnf
   refine CallVCd.fn (r_MulZ s.n r.d (z1 q3 _ (by decide)) (z1 q2 _ (by decide))) rfl ?_
   conv => whnf
   refine CallVCd.fn (r_CompareZ (r.n * s.d) (s.n * r.d)) rfl ?_
   conv => whnf
   refine postV_one ?_
   rw [cmpQ_raw]
theorem r_rSub (r s : Raw) (hr : r.sm KK) (hs : s.sm KK) : Fn PP f_narrowsref02_Sub [rawV r, rawV s] (qV (r.v - s.v)) := by
 refine Fn.of TBgood mixed h_narrowsref02_Sub rfl rfl (Nat.le_of_ble_eq_true rfl) ?_
 intro w
 conv => whnf
 refine CallVC.fn (r_rAdd r s.opp hr (Raw.opp_sm hs)) rfl ?_
 conv => whnf
 refine postV_one ?_
 rw [Raw.opp_v, Rat.sub_eq_add_neg]
theorem r_rSign (r : Raw) (hr : r.sm KK) : Fn PP f_narrowsref02_Sign [rawV r] (.int .i64 (cmpQ r.v 0)) := by
 refine Fn.of TBgood mixed h_narrowsref02_Sign rfl rfl (Nat.le_of_ble_eq_true rfl) ?_
 intro w
 conv => whnf
 refine CallVC.fn (r_rCompare r ⟨false, [], []⟩ hr ⟨by decide, by decide⟩) rfl ?_
 rw [Raw.zero_v]
 conv => whnf
 exact postV_one rfl
end Go.Sx
end
section
set_option maxRecDepth 10000
set_option maxHeartbeats 2000000
namespace Go.Sx
open Go Go.Proofs
theorem sg_inv {n : Int} (h : n ≠ 0) (d : Nat) (hd : 0 < d) : mkRat (sg (decide (n < 0)) d) n.natAbs = (mkRat n d)⁻¹ := by
 rw [← Rat.divInt_ofNat, ← Rat.divInt_ofNat, Rat.inv_divInt]
 rcases Int.lt_or_le n 0 with h1 | h1
 · rw [decide_eq_true h1, show ((n.natAbs : Nat) : Int) = -n by omega]
   show Rat.divInt (-(d : Int)) (-n) = _
   exact Rat.neg_divInt_neg _ _
 · rw [decide_eq_false (by omega), show ((n.natAbs : Nat) : Int) = n by omega]; rfl
theorem r_rQuo (r s : Raw) (hr : r.sm KK) (hs : s.sm KK) : Fn PP f_narrowsref02_Quo [rawV r, rawV s] (quoV r.v s.v) := by
 refine Fn.of TBgood mixed h_narrowsref02_Quo rfl rfl (Nat.le_of_ble_eq_true rfl) ?_
 intro w
 have q3 := rn_lt hs
 have q4 := rd_lt hs
 conv => whnf
 refine CallVC.fn (r_parts s (Raw.big5 hs)) rfl ?_
 conv => whnf
 by_cases h : s.n = 0
 · refine br_true ((emptyZ s.n).trans (decide_eq_true h)) ?_
   conv => whnf
   refine postV_two ?_
   rw [quoV, if_pos ((raw_zero s).2 h), q0]
 · refine br_false ((emptyZ s.n).trans (decide_eq_false h)) ?_
   conv => whnf
   have hin : (⟨decide (s.n < 0), bytes (s.d : Int).natAbs, bytes s.n.natAbs⟩ : Raw).v = s.v⁻¹ := by
     have e1 : (⟨decide (s.n < 0), bytes (s.d : Int).natAbs, bytes s.n.natAbs⟩ : Raw).n = sg (decide (s.n < 0)) s.d := by
       show sg _ (nat (bytes (s.d : Int).natAbs)) = _
       rw [nat_bytes, Int.natAbs_natCast]
     have e2 : (⟨decide (s.n < 0), bytes (s.d : Int).natAbs, bytes s.n.natAbs⟩ : Raw).d = s.n.natAbs := by
       show dnm (nat (bytes s.n.natAbs)) = _
       rw [nat_bytes, dnm, if_neg (by omega)]
     rw [Raw.v, e1, e2, sg_inv h s.d s.d_pos]; rfl
   refine CallVC.fn (r_rMul r ⟨decide (s.n < 0), bytes (s.d : Int).natAbs, bytes s.n.natAbs⟩ hr ⟨zl_le q4, zl_le q3⟩) rfl ?_
   rw [hin, ← Rat.div_def]
   conv => whnf
   refine postV_two ?_
   rw [quoV, if_neg (fun h2 => h ((raw_zero s).1 h2))]
def mnR (r s : Raw) : Raw := if cmpQ s.v r.v < 0 then s else r
def mxR (r s : Raw) : Raw := if cmpQ s.v r.v > 0 then s else r
theorem r_rMin (r s : Raw) (hr : r.sm KK) (hs : s.sm KK) : Fn PP f_narrowsref02_Min [rawV r, rawV s] (rawV (mnR r s)) := by
 refine Fn.of TBgood mixed h_narrowsref02_Min rfl rfl (Nat.le_of_ble_eq_true rfl) ?_
 intro w
 conv => whnf
 refine CallVC.fn (r_rCompare s r hs hr) rfl ?_
 conv => whnf
 refine br_split ?_ ?_ <;> intro h
 · have h1 : cmpQ s.v r.v < 0 := of_decide_eq_true h
   conv => whnf
   exact postV_one (by rw [mnR, if_pos h1])
 · have h1 : ¬ cmpQ s.v r.v < 0 := of_decide_eq_false h
   conv => whnf
   exact postV_one (by rw [mnR, if_neg h1])
theorem r_rMax (r s : Raw) (hr : r.sm KK) (hs : s.sm KK) : Fn PP f_narrowsref02_Max [rawV r, rawV s] (rawV (mxR r s)) := by
 refine Fn.of TBgood mixed h_narrowsref02_Max rfl rfl (Nat.le_of_ble_eq_true rfl) ?_
 intro w
 conv => whnf
 refine CallVC.fn (r_rCompare s r hs hr) rfl ?_
 conv => whnf
 refine br_split ?_ ?_ <;> intro h
 · have h1 : cmpQ s.v r.v > 0 := of_decide_eq_true h
   conv => whnf
   exact postV_one (by rw [mxR, if_pos h1])
 · have h1 : ¬ cmpQ s.v r.v > 0 := of_decide_eq_false h
   conv => whnf
   exact postV_one (by rw [mxR, if_neg h1])
theorem neqR (r s : Raw) : (!(r.neg == s.neg && ((bs r.num).toList == (bs s.num).toList && ((bs r.den).toList == (bs s.den).toList && true)))) = decide (r ≠ s) := by
 rw [eqR]; by_cases h : r = s <;> simp [h]
theorem r_rCheck (r : Raw) (hr : r.sm KK) : Fn PP f_narrowsref02_Check [rawV r] (checkV r) := by
 refine Fn.of TBgood mixed h_narrowsref02_Check rfl rfl (Nat.le_of_ble_eq_true rfl) ?_
 intro w
 conv => whnf
 refine DrawVC.quiet (by kernel_rfl) ?_
 conv => whnf
 refine CallVCd.fn (r_Normal r hr) rfl ?_
 conv => whnf
 by_cases h : r.ok
 · refine br_false ((neqR (Q r.v) r).trans (decide_eq_false (fun h2 => h2 h.symm))) ?_
   conv => whnf
   exact postV_one (by rw [checkV, if_pos h])
 · refine br_true ((neqR (Q r.v) r).trans (decide_eq_true (fun h2 => h h2.symm))) ?_
   conv => whnf
   exact postV_one (by rw [checkV, if_neg h])
theorem r_vCheck (p : Pt) (hp : p.sm KK) : Fn PP f_narrowsref06_Check [pV p] (.int .i64 (if p.ok then 0 else 1)) := by
 refine Fn.of TBgood mixed h_narrowsref06_Check rfl rfl (Nat.le_of_ble_eq_true rfl) ?_
 intro w
 conv => whnf
 refine CallVC.fn (r_rCheck p.x hp.1) rfl ?_
 by_cases h1 : p.x.ok
 · rw [checkV, if_pos h1]
   conv => whnf
   refine CallVC.fn (r_rCheck p.y hp.2) rfl ?_
   by_cases h2 : p.y.ok
   · rw [checkV, if_pos h2]
     conv => whnf
     exact postV_one (by rw [if_pos (show p.ok from ⟨h1, h2⟩)])
   · rw [checkV, if_neg h2]
     conv => whnf
     exact postV_one (by rw [if_neg (show ¬ p.ok from fun h => h2 h.2)])
 · rw [checkV, if_neg h1]
   conv => whnf
   exact postV_one (by rw [if_neg (show ¬ p.ok from fun h => h1 h.1)])
theorem r_vCompare (p q : Pt) (hp : p.sm KK) (hq : q.sm KK) : Fn PP f_narrowsref06_Compare [pV p, pV q] (.int .i64 (cmpV p.v q.v)) := by
 refine Fn.of TBgood mixed h_narrowsref06_Compare rfl rfl (Nat.le_of_ble_eq_true rfl) ?_
 intro w
 conv => whnf
 refine CallVC.fn (r_rCompare p.x q.x hp.1 hq.1) rfl ?_
 conv => whnf
 refine br_split ?_ ?_
 · intro h
   have h1 : cmpQ p.x.v q.x.v ≠ 0 := by intro h2; rw [h2] at h; exact absurd h (by decide)
   conv => whnf
   refine postV_one ?_
   rw [cmpV, if_pos (show cmpQ p.v.x q.v.x ≠ 0 from h1)]; rfl
 · intro h
   have h1 : cmpQ p.x.v q.x.v = 0 := by simpa using h
   conv => whnf
   refine CallVC.fn (r_rCompare p.y q.y hp.2 hq.2) rfl ?_
   conv => whnf
   refine postV_one ?_
   rw [cmpV, if_neg (show ¬ cmpQ p.v.x q.v.x ≠ 0 from fun h => h h1)]; rfl
theorem r_vAdd (p q : Pt) (hp : p.sm KK) (hq : q.sm KK) : Fn PP f_narrowsref06_Add [pV p, pV q] (pV (PQ (p.v + q.v))) := by
 refine Fn.of TBgood mixed h_narrowsref06_Add rfl rfl (Nat.le_of_ble_eq_true rfl) ?_
 intro w
 conv => whnf
 refine DrawVC.quiet (by kernel_rfl) ?_
 conv => whnf
 refine CallVCd.fn (r_rAdd p.x q.x hp.1 hq.1) rfl ?_
 conv => whnf
 refine CallVCd.fn (r_rAdd p.y q.y hp.2 hq.2) rfl ?_
 conv => whnf
 exact postV_one rfl
theorem r_vSub (p q : Pt) (hp : p.sm KK) (hq : q.sm KK) : Fn PP f_narrowsref06_Sub [pV p, pV q] (pV (PQ (p.v - q.v))) := by
 refine Fn.of TBgood mixed h_narrowsref06_Sub rfl rfl (Nat.le_of_ble_eq_true rfl) ?_
 intro w
 conv => whnf
 refine DrawVC.quiet (by kernel_rfl) ?_
 conv => whnf
 refine CallVCd.fn (r_rSub p.x q.x hp.1 hq.1) rfl ?_
 conv => whnf
 refine CallVCd.fn (r_rSub p.y q.y hp.2 hq.2) rfl ?_
 conv => whnf
 exact postV_one rfl
theorem r_vScale (p : Pt) (t : Raw) (hp : p.sm KK) (ht : t.sm KK) : Fn PP f_narrowsref06_Scale [pV p, rawV t] (pV (PQ (p.v.scale t.v))) := by
 refine Fn.of TBgood mixed h_narrowsref06_Scale rfl rfl (Nat.le_of_ble_eq_true rfl) ?_
 intro w
 conv => whnf
 refine DrawVC.quiet (by kernel_rfl) ?_
 conv => whnf
 refine CallVCd.fn (r_rMul p.x t hp.1 ht) rfl ?_
 conv => whnf
 refine CallVCd.fn (r_rMul p.y t hp.2 ht) rfl ?_
 conv => whnf
 exact postV_one rfl
theorem r_vCross (p q : Pt) (hp : p.sm (10 * KV)) (hq : q.sm (10 * KV)) : Fn PP f_narrowsref06_Cross [pV p, pV q] (qV (p.v.cross q.v)) := by
 have zp := hp.sz (by decide)
 have zq := hq.sz (by decide)
 refine Fn.of TBgood mixed h_narrowsref06_Cross rfl rfl (Nat.le_of_ble_eq_true rfl) ?_
 intro w
 conv => whnf
 refine DrawVC.quiet (by kernel_rfl) ?_
 conv => whnf
 refine CallVCd.fn (r_rMul p.x q.y (hp.1.le (by decide)) (hq.2.le (by decide))) rfl ?_
 conv => whnf
 refine CallVCd.fn (r_rMul p.y q.x (hp.2.le (by decide)) (hq.1.le (by decide))) rfl ?_
 conv => whnf
 refine CallVCd.fn (r_rSub (Q (p.x.v * q.y.v)) (Q (p.y.v * q.x.v)) ((zp.1.mul zq.2).q.le (by decide)) ((zp.2.mul zq.1).q.le (by decide))) rfl ?_
 conv => whnf
 refine postV_one ?_
 rw [Q_v, Q_v]; rfl
theorem r_vAt (p q : Pt) (t : Raw) (hp : p.sm (10 * KV)) (hq : q.sm (10 * KV)) (ht : t.sm (30 * KV)) : Fn PP f_narrowsref06_At [pV p, pV q, rawV t] (pV (PQ (p.v.at q.v t.v))) := by
 have zp := hp.sz (by decide)
 have zq := hq.sz (by decide)
 have zt := Raw.sz (r := t) (k := 30 * KV) (by decide) ht.1 ht.2
 refine Fn.of TBgood mixed h_narrowsref06_At rfl rfl (Nat.le_of_ble_eq_true rfl) ?_
 intro w
 conv => whnf
 refine DrawVC.quiet (by kernel_rfl) ?_
 conv => whnf
 refine CallVCd.fn (r_vSub q p (hq.le (by decide)) (hp.le (by decide))) rfl ?_
 conv => whnf
 refine CallVCd.fn (r_vScale (PQ (q.v - p.v)) t ((zq.sub zp).q.le (by decide)) (ht.le (by decide))) rfl ?_
 rw [PQ_v]
 conv => whnf
 refine CallVCd.fn (r_vAdd p (PQ ((q.v - p.v).scale t.v)) (hp.le (by decide)) (((zq.sub zp).scale zt).q.le (by decide))) rfl ?_
 rw [PQ_v]
 conv => whnf
 exact postV_one rfl
theorem r_Orient (a b c : Pt) (ha : a.sm (4 * KV)) (hb : b.sm (4 * KV)) (hc : c.sm (4 * KV)) : Fn PP f_narrowsref07_Orient [pV a, pV b, pV c] (.int .i64 (cmpQ ((b.v - a.v).cross (c.v - a.v)) 0)) := by
 have za := ha.sz (by decide)
 have zb := hb.sz (by decide)
 have zc := hc.sz (by decide)
 refine Fn.of TBgood mixed h_narrowsref07_Orient rfl rfl (Nat.le_of_ble_eq_true rfl) ?_
 intro w
 conv => whnf
 refine DrawVC.quiet (by kernel_rfl) ?_
 conv => whnf
 refine CallVCd.fn (r_vSub b a (hb.le (by decide)) (ha.le (by decide))) rfl ?_
 conv => whnf
 refine CallVCd.fn (r_vSub c a (hc.le (by decide)) (ha.le (by decide))) rfl ?_
 conv => whnf
 refine CallVCd.fn (r_vCross (PQ (b.v - a.v)) (PQ (c.v - a.v)) ((zb.sub za).q.le (by decide)) ((zc.sub za).q.le (by decide))) rfl ?_
 rw [PQ_v, PQ_v]
 conv => whnf
 refine CallVCd.fn (r_rSign (Q ((b.v - a.v).cross (c.v - a.v))) (((zb.sub za).cross (zc.sub za)).q.le (by decide))) rfl ?_
 rw [Q_v]
 conv => whnf
 exact postV_one rfl
end Go.Sx
end
section
namespace Go.Sx
end Go.Sx
end
section
set_option maxRecDepth 10000
set_option maxHeartbeats 2000000
namespace Go.Sx
open Go Go.Proofs
theorem degen_iff {s : Sg} : degen s ↔ s.A.v = s.B.v := cmpV_zero
end Go.Sx
end
section
set_option maxRecDepth 10000
set_option maxHeartbeats 2000000
namespace Go.Sx
open Go Go.Proofs
end Go.Sx
end
section
set_option maxRecDepth 10000
set_option maxHeartbeats 2000000
namespace Go.Sx
open Go Go.Proofs
theorem eqP (p q : Pt) : (p.x.neg == q.x.neg && ((bs p.x.num).toList == (bs q.x.num).toList && ((bs p.x.den).toList == (bs q.x.den).toList && (p.y.neg == q.y.neg && ((bs p.y.num).toList == (bs q.y.num).toList && ((bs p.y.den).toList == (bs q.y.den).toList && true)))))) = decide (p = q) := by
 have h2 := eqR p.y q.y
 have h1 := eqR p.x q.x
 rw [h2]
 rw [Bool.eq_iff_iff] at h1 ⊢
 simp only [Bool.and_eq_true, decide_eq_true_eq] at h1 ⊢
 constructor
 · rintro ⟨a, b, c, d⟩
   have := h1.1 ⟨a, b, c, trivial⟩
   cases p; cases q; simp_all
 · rintro rfl
   obtain ⟨a, b, c, _⟩ := h1.2 rfl
   exact ⟨a, b, c, rfl⟩
end Go.Sx
end
section
namespace Go.Sx
def absQ (x : Rat) : Rat := if x < 0 then -x else x
def mxQ (a b : Rat) : Rat := if cmpQ b a > 0 then b else a
def mnQ (a b : Rat) : Rat := if cmpQ b a < 0 then b else a
theorem mnQ_le {a b m : Rat} : m ≤ mnQ a b ↔ m ≤ a ∧ m ≤ b := by
 unfold mnQ
 by_cases h : cmpQ b a < 0
 · rw [if_pos h]; have := cmpQ_lt.1 h; grind
 · rw [if_neg h]; have : ¬ b < a := fun k => h (cmpQ_lt.2 k); grind
theorem sqR_eq (p q : V) : mxQ (absQ (p - q).x) (absQ (p - q).y) = p.sq q := by
 obtain ⟨⟨h1, h2⟩, h3, h4⟩ := sq_ge p q
 refine Rat.le_antisymm ?_ (sq_le.2 ?_)
 · simp only [V.sub_x, V.sub_y]
   unfold mxQ absQ
   split <;> split <;> grind
 · simp only [V.sub_x, V.sub_y]
   unfold mxQ
   by_cases h : cmpQ (absQ (p.y - q.y)) (absQ (p.x - q.x)) > 0
   · rw [if_pos h]
     have := cmpQ_gt.1 h
     unfold absQ at this ⊢
     grind
   · rw [if_neg h]
     have : ¬ absQ (p.x - q.x) < absQ (p.y - q.y) := fun k => h (cmpQ_gt.2 k)
     unfold absQ at this ⊢
     grind
def stepM (g : Rat → Rat) (m t : Rat) : Rat := mnQ m (g t)
theorem fold_min (g : Rat → Rat) : ∀ (l : List Rat) (m : Rat), (l.foldl (stepM g) m ≤ m ∧ ∀ t ∈ l, l.foldl (stepM g) m ≤ g t) ∧ (l.foldl (stepM g) m = m ∨ ∃ t ∈ l, l.foldl (stepM g) m = g t)
 | [], m => ⟨⟨Rat.le_refl, fun t h => absurd h List.not_mem_nil⟩, .inl rfl⟩
 | x :: l, m => by
   obtain ⟨⟨h1, h2⟩, h3⟩ := fold_min g l (stepM g m x)
   rw [List.foldl_cons]
   have h4 := mnQ_le.1 (show mnQ m (g x) ≤ mnQ m (g x) from Rat.le_refl)
   refine ⟨⟨Rat.le_trans h1 h4.1, fun t ht => ?_⟩, ?_⟩
   · rcases List.mem_cons.1 ht with rfl | ht
     · exact Rat.le_trans h1 h4.2
     · exact h2 t ht
   · rcases h3 with h | ⟨t, ht, h⟩
     · rw [h]
       unfold stepM mnQ
       split
       · exact .inr ⟨x, List.mem_cons_self .., rfl⟩
       · exact .inl rfl
     · exact .inr ⟨t, List.mem_cons_of_mem _ ht, h⟩
def sqRef (A B p : V) : Rat := ((partPs A B p).filterMap partOf).foldl (stepM fun t => (A.at B t).sq p) (mnQ (A.sq p) (B.sq p))
theorem sqRef_eq (A B p : V) : sqRef A B p = sqPt A B p := by
 obtain ⟨⟨h1, h2⟩, h3⟩ := fold_min (fun t => (A.at B t).sq p) ((partPs A B p).filterMap partOf) (mnQ (A.sq p) (B.sq p))
 have h4 := mnQ_le.1 h1
 refine Rat.le_antisymm ?_ ?_
 · obtain ⟨t, ⟨t0, t1⟩, e⟩ := sqPt_at A B p
   obtain ⟨c, hc, hle⟩ := parts_min (A := A) (B := B) (p := p) t0 t1
   rw [e]
   refine Rat.le_trans ?_ hle
   unfold partsL at hc
   rcases List.mem_cons.1 hc with rfl | hc
   · rw [V.at_zero]; exact h4.1
   rcases List.mem_cons.1 hc with rfl | hc
   · rw [V.at_one]; exact h4.2
   · exact h2 c hc
 · have hA : sqPt A B p ≤ A.sq p := by have := sqPt_le (A := A) (B := B) (p := p) (t := 0) (by grind) (by grind); rwa [V.at_zero] at this
   have hB : sqPt A B p ≤ B.sq p := by have := sqPt_le (A := A) (B := B) (p := p) (t := 1) (by grind) (by grind); rwa [V.at_one] at this
   rcases h3 with h | ⟨t, ht, h⟩
   · show _ ≤ List.foldl _ _ _
     rw [h]; exact mnQ_le.2 ⟨hA, hB⟩
   · show _ ≤ List.foldl _ _ _
     rw [h]
     have hu := parts_unit (A := A) (B := B) (p := p) (c := t) (by unfold partsL; exact List.mem_cons_of_mem _ (List.mem_cons_of_mem _ ht))
     exact sqPt_le hu.1 hu.2
end Go.Sx
end
section
namespace Go.Sx
def ori (a b c : V) : Rat := (b - a).cross (c - a)
theorem mpos {a b : Rat} (ha : 0 < a) (hb : 0 < b) : 0 < a * b := Rat.mul_pos ha hb
theorem pos_of_mul {a b : Rat} (ha : 0 < a) (h : 0 < a * b) : 0 < b := by
 by_cases h1 : 0 < b
 · exact h1
 · have h1 := Rat.not_lt.1 h1
   have := Rat.mul_nonneg (Rat.le_of_lt ha) (show 0 ≤ -b by grind)
   grind
def half (u : V) : Prop := 0 < u.x ∨ (u.x = 0 ∧ 0 < u.y)
theorem half_of {a b : V} (h : ltP2 a b) : half (b - a) := by
 unfold ltP2 at h
 unfold half
 simp only [V.sub_x, V.sub_y]
 grind
theorem half_trans {u v w : V} (hu : half u) (hv : half v) (hw : half w) (h1 : 0 < u.cross v) (h2 : 0 < v.cross w) : 0 < u.cross w := by
 have e : v.x * u.cross w = u.x * v.cross w + w.x * u.cross v := by simp only [V.cross]; grind
 rcases hv with hv | ⟨hv, hv2⟩
 · refine pos_of_mul hv ?_
   rw [e]
   have hu0 : 0 < u.x := by
     rcases hu with h | ⟨h, h3⟩
     · exact h
     · simp only [V.cross] at h1
       have := mpos h3 hv
       rw [h] at h1
       grind
   have hw0 : 0 ≤ w.x := by rcases hw with h | ⟨h, _⟩ <;> grind
   have k1 := mpos hu0 h2
   have k2 := Rat.mul_nonneg hw0 (Rat.le_of_lt h1)
   grind
 · exfalso
   have hw0 : 0 ≤ w.x := by rcases hw with h | ⟨h, _⟩ <;> grind
   have k := Rat.mul_nonneg (Rat.le_of_lt hv2) hw0
   simp only [V.cross] at h2
   rw [hv] at h2
   grind
theorem quad1 {cij cjk ckl cik cjl cil : Rat} (p : cij * ckl - cik * cjl + cil * cjk = 0) (h1 : 0 < cij) (h2 : 0 < cjk) (h3 : 0 < cjl) (d1 : 0 < cij + cjk - cik) (d2 : 0 < cjk + ckl - cjl) : 0 < cij + cjl - cil := by
 have e : cjk * (cij + cjl - cil) = cij * (cjk + ckl - cjl) + cjl * (cij + cjk - cik) := by grind
 have k1 := mpos h1 d2
 have k2 := mpos h3 d1
 exact pos_of_mul h2 (by rw [e]; grind)
theorem quad2 {cij cjk ckl cik cjl cil : Rat} (p : cij * ckl - cik * cjl + cil * cjk = 0) (h1 : 0 < cik) (h2 : 0 < cjk) (h3 : 0 < ckl) (d1 : 0 < cij + cjk - cik) (d2 : 0 < cjk + ckl - cjl) : 0 < cik + ckl - cil := by
 have e : cjk * (cik + ckl - cil) = cik * (cjk + ckl - cjl) + ckl * (cij + cjk - cik) := by grind
 have k1 := mpos h1 d2
 have k2 := mpos h3 d1
 exact pos_of_mul h2 (by rw [e]; grind)
theorem pluck (a b c d o : V) : (a - o).cross (b - o) * (c - o).cross (d - o) - (a - o).cross (c - o) * (b - o).cross (d - o) + (a - o).cross (d - o) * (b - o).cross (c - o) = 0 := by
 simp only [V.cross, V.sub_x, V.sub_y]; grind
theorem ori_split (a b c o : V) : ori a b c = (a - o).cross (b - o) + (b - o).cross (c - o) - (a - o).cross (c - o) := by
 simp only [ori, V.cross, V.sub_x, V.sub_y]; grind
theorem ori_rot (a b c : V) : ori a b c = ori b c a := by simp only [ori, V.cross, V.sub_x, V.sub_y]; grind
section
variable {f : Nat → V} {n : Nat} (h0 : ∀ k, 0 < k → k < n → ltP2 (f 0) (f k)) (R2 : ∀ i, 0 < i → i + 1 < n → 0 < ori (f 0) (f i) (f (i + 1)))
include h0 R2
theorem fan_pos : ∀ d i, 0 < i → i + d + 1 < n → 0 < ori (f 0) (f i) (f (i + d + 1))
 | 0, i, hi, hn => R2 i hi hn
 | d + 1, i, hi, hn => by
   have h1 := fan_pos d i hi (by omega)
   have h2 := R2 (i + d + 1) (by omega) (by omega)
   exact half_trans (half_of (h0 i hi (by omega))) (half_of (h0 (i + d + 1) (by omega) (by omega))) (half_of (h0 (i + d + 2) (by omega) hn)) h1 h2
theorem fan_lt {i j : Nat} (hi : 0 < i) (hij : i < j) (hn : j < n) : 0 < ori (f 0) (f i) (f j) := by
 have := fan_pos h0 R2 (j - i - 1) i hi (by omega)
 rwa [show i + (j - i - 1) + 1 = j by omega] at this
variable (R1 : ∀ i, 0 < i → i + 2 < n → 0 < ori (f i) (f (i + 1)) (f (i + 2)))
include R1
theorem turn_pos : ∀ d i, 0 < i → i + d + 2 < n → 0 < ori (f i) (f (i + 1)) (f (i + d + 2)) ∧ 0 < ori (f i) (f (i + d + 1)) (f (i + d + 2))
 | 0, i, hi, hn => ⟨R1 i hi hn, R1 i hi hn⟩
 | d + 1, i, hi, hn => by
   have h1 := (turn_pos d i hi (by omega)).1
   have h2 := (turn_pos d (i + 1) (by omega) (by omega)).2
   rw [show i + 1 + d + 1 = i + d + 2 by omega, show i + 1 + d + 2 = i + d + 3 by omega] at h2
   rw [ori_split _ _ _ (f 0)] at h1 h2
   have p := pluck (f i) (f (i + 1)) (f (i + d + 2)) (f (i + d + 3)) (f 0)
   have g := fun {a b : Nat} (h1 : 0 < a) (h2 : a < b) (h3 : b < n) => fan_lt h0 R2 h1 h2 h3
   constructor
   · show 0 < ori (f i) (f (i + 1)) (f (i + d + 3))
     rw [ori_split _ _ _ (f 0)]
     exact quad1 p (g hi (Nat.lt_succ_self _) (by omega)) (g (by omega) (by omega) (by omega)) (g (by omega) (by omega) (by omega)) h1 h2
   · show 0 < ori (f i) (f (i + d + 2)) (f (i + d + 3))
     rw [ori_split _ _ _ (f 0)]
     exact quad2 p (g hi (by omega) (by omega)) (g (by omega) (by omega) (by omega)) (g (by omega) (by omega) (by omega)) h1 h2
theorem convex_all {i k : Nat} (hi : i < n) (hk : k < n) (h1 : k ≠ i) (h2 : k ≠ (i + 1) % n) : 0 < ori (f i) (f ((i + 1) % n)) (f k) := by
 by_cases hl : i + 1 = n
 · have e : (i + 1) % n = 0 := by rw [hl, Nat.mod_self]
   rw [e] at h2 ⊢
   rw [ori_rot]
   exact fan_lt h0 R2 (by omega) (by omega) hi
 · rw [Nat.mod_eq_of_lt (show i + 1 < n by omega)] at h2 ⊢
   by_cases hi0 : i = 0
   · subst hi0
     exact fan_lt h0 R2 (by decide) (by omega) hk
   · by_cases hk0 : k = 0
     · subst hk0
       rw [ori_rot, ori_rot]
       exact fan_lt h0 R2 (by omega) (by omega) (by omega)
     · by_cases hki : k < i
       · have := (turn_pos h0 R2 R1 (i - k - 1) k (by omega) (by omega)).2
         rw [show k + (i - k - 1) + 1 = i by omega, show k + (i - k - 1) + 2 = i + 1 by omega] at this
         rw [ori_rot, ori_rot]; exact this
       · have := (turn_pos h0 R2 R1 (k - i - 2) i (by omega) (by omega)).1
         rw [show i + (k - i - 2) + 2 = k by omega] at this
         exact this
end
section
variable {f : Nat → V} {n : Nat} (hn : 3 ≤ n) (h0 : ∀ k, 0 < k → k < n → ltP2 (f 0) (f k)) (P : ∀ i k, i < n → k < n → f k ≠ f i → f k ≠ f ((i + 1) % n) → 0 < ori (f i) (f ((i + 1) % n)) (f k))
include hn h0 P
theorem ne_zero {k : Nat} (h : 0 < k) (hk : k < n) : f k ≠ f 0 := fun e => by
 have := h0 k h hk
 rw [e] at this
 exact ltP2_irr this
theorem ne_next {i : Nat} (hi : i < n) : f i ≠ f ((i + 1) % n) := fun e => by
 have z : ∀ k, k < n → f k = f i := fun k hk => by
   by_cases h : f k = f i
   · exact h
   · have := P i k hi hk h (by rw [← e]; exact h)
     rw [← e] at this
     have hz : ori (f i) (f i) (f k) = 0 := by simp only [ori, V.cross, V.sub_x, V.sub_y]; grind
     rw [hz] at this
     exact absurd this Rat.lt_irrefl
 exact ne_zero hn h0 P (k := 1) (by decide) (by omega) ((z 1 (by omega)).trans (z 0 (by omega)).symm)
theorem ne_two {i : Nat} (hi : i < n) : f i ≠ f ((i + 2) % n) := fun e => by
 have hm : (i + 1) % n < n := Nat.mod_lt _ (by omega)
 have hmm : ((i + 1) % n + 1) % n = (i + 2) % n := by rw [Nat.mod_add_mod]
 have hq := ne_next hn h0 P hi
 have z : ∀ k, k < n → f k = f i ∨ f k = f ((i + 1) % n) := fun k hk => by
   by_cases h : f k = f i
   · exact .inl h
   by_cases h' : f k = f ((i + 1) % n)
   · exact .inr h'
   have a := P i k hi hk h h'
   have b := P ((i + 1) % n) k hm hk h' (by rw [hmm, ← e]; exact h)
   rw [hmm, ← e] at b
   have hz : ori (f ((i + 1) % n)) (f i) (f k) = -ori (f i) (f ((i + 1) % n)) (f k) := by simp only [ori, V.cross, V.sub_x, V.sub_y]; grind
   rw [hz] at b
   grind
 rcases z 0 (by omega) with h | h
 · have hi0 : i = 0 := by
     rcases Nat.eq_zero_or_pos i with h1 | h1
     · exact h1
     · exact absurd h.symm (ne_zero hn h0 P h1 hi)
   subst hi0
   exact ne_zero hn h0 P (k := 2) (by decide) (by omega) (by rw [e, Nat.mod_eq_of_lt (show 0 + 2 < n by omega)])
 · have hi1 : (i + 1) % n = 0 := by
     rcases Nat.eq_zero_or_pos ((i + 1) % n) with h1 | h1
     · exact h1
     · exact absurd h.symm (ne_zero hn h0 P h1 hm)
   have w : ∀ k, 0 < k → k < n → f k = f i := fun k hk0 hk => by
     rcases z k hk with h2 | h2
     · exact h2
     · rw [hi1] at h2; exact absurd h2 (ne_zero hn h0 P hk0 hk)
   have := ne_next hn h0 P (i := 1) (by omega)
   rw [Nat.mod_eq_of_lt (show 1 + 1 < n by omega)] at this
   exact this ((w 1 (by decide) (by omega)).trans (w 2 (by decide) (by omega)).symm)
theorem convex_turn {i : Nat} (hi : i < n) : 0 < ori (f i) (f ((i + 1) % n)) (f ((i + 2) % n)) := by
 have hm : (i + 1) % n < n := Nat.mod_lt _ (by omega)
 have hmm : ((i + 1) % n + 1) % n = (i + 2) % n := by rw [Nat.mod_add_mod]
 refine P i _ hi (Nat.mod_lt _ (by omega)) (fun e => ne_two hn h0 P hi e.symm) (fun e => ?_)
 have := ne_next hn h0 P hm
 rw [hmm] at this
 exact this e.symm
theorem convex_fan {i : Nat} (h1 : 0 < i) (h2 : i + 1 < n) : 0 < ori (f 0) (f i) (f (i + 1)) := by
 have := P i 0 (by omega) (by omega) (fun e => ne_zero hn h0 P h1 (by omega) e.symm) (by rw [Nat.mod_eq_of_lt h2]; exact fun e => ne_zero hn h0 P (by omega) h2 e.symm)
 rw [Nat.mod_eq_of_lt h2] at this
 rw [ori_rot]; exact this
end
end Go.Sx
end
section
set_option maxRecDepth 10000
set_option maxHeartbeats 2000000
namespace Go.Sx
open Go Go.Proofs
theorem neqP (p q : Pt) : (!(p.x.neg == q.x.neg && ((bs p.x.num).toList == (bs q.x.num).toList && ((bs p.x.den).toList == (bs q.x.den).toList && (p.y.neg == q.y.neg && ((bs p.y.num).toList == (bs q.y.num).toList && ((bs p.y.den).toList == (bs q.y.den).toList && true))))))) = decide (p ≠ q) := by
 rw [eqP]; by_cases h : p = q <;> simp [h]
def belowB (o p : Pt) : Bool := decide (cmpV p.v o.v ≤ 0)
def sideB (p q r : Pt) : Bool := decide (r ≠ p) && (decide (r ≠ q) && decide (cmpQ (ori p.v q.v r.v) 0 ≤ 0))
def chkC (l : List Pt) : Int := if l.length < 3 then 4 else if 64 < l.length then 4 else if canonL l = false then 1 else if (l.drop 1).any (belowB (l.getD 0 P0)) = true then 8 else if (edgesL l).any (fun e => l.any (sideB e.1 e.2)) = true then 15 else 0
theorem c_cvCheck1 (A : Option Addr) (c : Nat) (a : Addr) (l : List Pt) (hl : 0 < l.length) (hs : Lsm KK l) (p : Pt) (hp : p.sm KK) :
   FnM PP f_convex_Check_1 [pV p, ptrV a] (facts [SlRes (some a) [.slice A l.length c], SlRes A (rowV ptC l)]) (retsV (.bool (belowB (l.getD 0 P0) p))) := by
 refine FnS.of TBgood mixed h_convex_Check_1 rfl rfl (Nat.le_of_ble_eq_true rfl) (by simp [SlRes.ok]) ?_
 intro w hw
 have hA : A.isSome = true := slres_some (facts_two hw).2 (by rw [rowV_length ptC_len]; omega)
 obtain ⟨o, ho⟩ : ∃ o, o = l.getD 0 P0 := ⟨_, rfl⟩
 have hol : l[0]? = some o := by rw [ho, getD_of (List.getElem?_eq_getElem hl)]; exact List.getElem?_eq_getElem _
 rw [← ho]
 obtain ⟨n, hn⟩ : ∃ n, n = l.length := ⟨_, rfl⟩
 rw [← hn]
 conv => whnf
 refine DrawVC.quiet (by kernel_rfl) ?_
 conv => whnf
 refine LoadVC.row (off := 0) (List.mem_cons_self ..) rfl (Nat.le_refl _) (by decide) (fun _ => rfl) ?_
 conv => whnf
 refine ⟨⟨by decide, by omega, hA⟩, ?_⟩
 conv => whnf
 refine LoadVC.elem (A := A) (xs := l) (j := ((0 : Nat) : Int)) ptC ptC_len (List.mem_cons_of_mem _ (List.mem_singleton.2 rfl)) rfl hl (by decide) (fun h => by cases h) ?_
 intro o' ho'
 obtain rfl : o' = o := elem_eq ho' hol
 conv => whnf
 refine CallVCd.fn (c_vCompare p o' hp (hs o' (List.mem_of_getElem? hol))) rfl ?_
 conv => whnf
 exact postV_one rfl
theorem c_cvCheck2 (a b : Addr) (p q r : Pt) (hp : p.sm (4 * KV)) (hq : q.sm (4 * KV)) (hr : r.sm (4 * KV)) :
   FnM PP f_convex_Check_2 [pV r, ptrV a, ptrV b] (facts [SlRes (some a) (ptC p), SlRes (some b) (ptC q)]) (retsV (.bool (sideB p q r))) := by
 refine FnS.of TBgood mixed h_convex_Check_2 rfl rfl (Nat.le_of_ble_eq_true rfl) (by simp [SlRes.ok]) ?_
 intro w hw
 obtain ⟨b1, o1, rfl⟩ := slf_addr (facts_two hw).1 (by simp [ptC])
 obtain ⟨b2, o2, rfl⟩ := slf_addr (facts_two hw).2 (by simp [ptC])
 have m1 : ∀ R : Res, R ∈ [SlRes (some ⟨b1, o1, none⟩) (ptC p), SlRes (some ⟨b2, o2, none⟩) (ptC q)] → True := fun _ _ => trivial
 conv => whnf
 refine LoadVC.row (off := 0) (List.mem_cons_self ..) (Addr_add0 _ _) (Nat.le_refl _) (by decide) (fun h => by cases h) ?_
 conv => whnf
 by_cases h1 : r = p
 · refine br_false ((neqP r p).trans (decide_eq_false (fun h => h h1))) ?_
   conv => whnf
   refine postV_one ?_
   rw [sideB, decide_eq_false (fun h => h h1)]; rfl
 refine br_true ((neqP r p).trans (decide_eq_true h1)) ?_
 conv => whnf
 refine LoadVC.row (off := 0) (List.mem_cons_of_mem _ (List.mem_singleton.2 rfl)) (Addr_add0 _ _) (Nat.le_refl _) (by decide) (fun h => by cases h) ?_
 conv => whnf
 by_cases h2 : r = q
 · refine br_false ((neqP r q).trans (decide_eq_false (fun h => h h2))) ?_
   conv => whnf
   refine postV_one ?_
   rw [sideB, decide_eq_true h1, decide_eq_false (fun h => h h2)]; rfl
 refine br_true ((neqP r q).trans (decide_eq_true h2)) ?_
 conv => whnf
 refine LoadVC.row (off := 0) (List.mem_cons_self ..) (Addr_add0 _ _) (Nat.le_refl _) (by decide) (fun h => by cases h) ?_
 conv => whnf
 refine LoadVC.row (off := 0) (List.mem_cons_of_mem _ (List.mem_singleton.2 rfl)) (Addr_add0 _ _) (Nat.le_refl _) (by decide) (fun h => by cases h) ?_
 conv => whnf
 refine CallVC.fn (c_Orient p q r hp hq hr) rfl ?_
 conv => whnf
 refine postV_one ?_
 rw [sideB, decide_eq_true h1, decide_eq_true h2]; rfl
theorem slf_drop1 {A : Option Addr} {c : Nat} {l : List Pt} {w : World} (h : SlF A (rowV ptC l) w) (hc : c ≠ 1) : SlF (if c = (1 : Int).toNat then A else A.map (·.add ((1 : Int).toNat * ty25.size))) (rowV ptC (l.drop 1)) w := by
 rw [if_neg (show ¬ c = (1 : Int).toNat from hc)]
 rcases h with h | ⟨b, o, rfl, h⟩
 · left
   have : l = [] := by
     rcases l with _ | ⟨x, l⟩
     · rfl
     · exact absurd h (by simp [rowV, ptC])
   rw [this]; rfl
 · right
   refine ⟨b, o + 6, rfl, fun j v hj => ?_⟩
   have h2 := h (6 + j) v (by
     rw [← rowV_drop ptC_len] at hj
     rw [List.getElem?_drop] at hj
     simpa using hj)
   rw [Nat.add_assoc]; exact h2
end Go.Sx
end
section
set_option maxRecDepth 10000
set_option maxHeartbeats 2000000
namespace Go.Sx
open Go Go.Proofs
theorem c_cvCheck (A : Option Addr) (c : Nat) (l : List Pt) (hcl : l.length ≤ c) (hs : Lsm KS l) :
   FnM PP f_convex_Check [.slice A l.length c] (facts [SlRes A (rowV ptC l)]) (retsV (.int .i64 (chkC l))) := by
 refine FnM.ofS TBgood mixed h_convex_Check rfl rfl (Nat.le_of_ble_eq_true rfl) (by simp [SlRes.ok]) (fun w l st E w' hp hm => postV_ok hp hm) ?_
 intro w hw
 have hK : Lsm KK l := fun p hp => (hs p hp).le (by decide)
 obtain ⟨n, hn⟩ : ∃ n, n = l.length := ⟨_, rfl⟩
 refine WPS.peel TBgood mixed ?_
 conv => whnf
 refine WPS.peel TBgood mixed ?_
 conv => whnf
 refine br_split ?_ ?_
 · intro h
   have hlt : l.length < 3 := by have : (l.length : Int) < 3 := of_decide_eq_true h; omega
   conv => whnf
   refine postV_one ?_
   rw [chkC, if_pos hlt]
 intro h
 have hlt : ¬ l.length < 3 := by have : ¬ (l.length : Int) < 3 := of_decide_eq_false h; omega
 conv => whnf
 refine br_split ?_ ?_
 · intro h
   have hgt : 64 < l.length := by have : (l.length : Int) > 64 := of_decide_eq_true h; omega
   conv => whnf
   refine postV_one ?_
   rw [chkC, if_neg hlt, if_pos hgt]
 intro h
 have hgt : ¬ 64 < l.length := by have : ¬ (l.length : Int) > 64 := of_decide_eq_false h; omega
 conv => whnf
 refine WPS.peel TBgood mixed ?_
 conv => whnf
 refine CallVC.v (c_cvCanonical A c l (by omega) hK).enters (CallV.facts (c_cvCanonical A c l (by omega) hK) rfl (fun R hR => hR)) ?_
 cases hcan : canonL l with
 | false =>
   conv => whnf
   refine postV_one ?_
   rw [chkC, if_neg hlt, if_neg hgt, if_pos hcan]
 | true =>
 conv => whnf
 refine WPS.peel TBgood mixed ?_
 conv => whnf
 refine ⟨⟨by decide, by omega, by omega⟩, ?_⟩
 conv => whnf
 obtain ⟨A1, hA1⟩ : ∃ A1, A1 = (if c = (1 : Int).toNat then A else A.map (·.add ((1 : Int).toNat * ty25.size))) := ⟨_, rfl⟩
 have hslice : Value.slice (if c = (1 : Int).toNat then A else A.map (·.add ((1 : Int).toNat * ty25.size))) (((l.length : Nat) : Int).toNat - (1 : Int).toNat) (c - (1 : Int).toNat) = Value.slice A1 (l.drop 1).length (c - 1) := by
   rw [← hA1, List.length_drop]; rfl
 have hcf := fun a => c_ContainsFuncQ A1 (c - 1) (l.drop 1) f_convex_Check_1 [ptrV a] (belowB (l.getD 0 P0)) [SlRes (some a) [.slice A l.length c], SlRes A (rowV ptC l)] (by rw [List.length_drop]; omega) (by simp [SlRes.ok]) (fun x hx => c_cvCheck1 A c a l (by omega) hK x (hK x (List.mem_of_mem_drop hx)))
 have hRE : ∀ w, facts [SlRes A (rowV ptC l)] w → facts [SlRes A1 (rowV ptC (l.drop 1)), SlRes A (rowV ptC l)] w := fun w hw R hR => by
   rcases List.mem_cons.1 hR with rfl | hR
   · rw [hA1]; exact slf_drop1 (hw _ (List.mem_cons_self ..)) (by omega)
   · exact hw R hR
 have hsw : ∀ a, FnM PP f_slices_ContainsFunc_sl_api_Point_api_Point [.slice A1 (l.drop 1).length (c - 1), cloV f_convex_Check_1 [ptrV a]] (facts [SlRes (some a) [.slice A l.length c], SlRes A1 (rowV ptC (l.drop 1)), SlRes A (rowV ptC l)]) (retsV (.bool ((l.drop 1).any (belowB (l.getD 0 P0))))) := fun a => (hcf a).weak (facts_sub fun R hR => by
   simp only [List.mem_cons, List.not_mem_nil, or_false] at hR ⊢
   rcases hR with h | h | h
   · exact .inr (.inl h)
   · exact .inl h
   · exact .inr (.inr h))
 refine CallVC.v (hsw ⟨0, 0, none⟩).enters (CallV.c1 (k := 1) (fun z => [.slice A1 (l.drop 1).length (c - 1), z]) rfl (List.mem_cons_of_mem _ (List.mem_cons_self ..)) (fun E => congrArg (fun z => [z, (SV.o (.clo f_convex_Check_1 [.l 1])).real E]) hslice) hRE hsw) ?_
 cases hbel : (l.drop 1).any (belowB (l.getD 0 P0)) with
 | true =>
   conv => whnf
   refine postV_one ?_
   rw [chkC, if_neg hlt, if_neg hgt, if_neg (by rw [hcan]; decide), if_pos hbel]
 | false =>
 conv => whnf
 refine WPS.seq ?_
 refine WPS.seq ?_
 refine WPS.of TBgood mixed ?_
 conv => whnf
 refine CallVC.f1 (c_cvEdges A c l.length).enters (CallV.facts (c_cvEdges A c l.length) rfl (by simp)) (fun a => ?_)
 conv => whnf
 refine WPS.block ?_
 refine WPS.range TBgood mixed rfl rfl (c_cvEdges1 A c a l (by omega)) (fun S hS => hS) 2 [(1, .o (.p 27 0)), (2, .o (.p 28 0))]
   (fun i (_ : Bool) => [(27, .box [.v (.slice A l.length c)] t_sl_api_Point), (28, .box [.v (.int .i64 0)] t_api_Errno)])
   (fun i _ => ((edgesL l).take i).any (fun e => l.any (sideB e.1 e.2)) = false) false rfl (SLe.mk (fun k => bif Nat.beq k 27 then 1 else bif Nat.beq k 28 then 2 else k) ⟨rfl, rfl, trivial⟩ ⟨⟨_, rfl, .refl _⟩, ⟨_, rfl, .refl _⟩, trivial⟩ rfl (fun R hR => hR)) rfl
   (fun i j _ => ⟨rfl, rfl⟩) rfl (fun x hx => by obtain ⟨e, _, rfl⟩ := List.mem_map.1 hx; rfl) rfl ?_ ?_
 · rintro W1 X i o Rx hi hv
   rw [edgeXs_len] at hi
   obtain ⟨e, he⟩ : ∃ e, (edgesL l)[i]? = some e := ⟨_, List.getElem?_eq_getElem (by rw [edgesL_len]; exact hi)⟩
   have hx : (edgeXs l).getD i [] = [pV e.1, pV e.2] := getD_of (by rw [List.getElem?_map, he]; rfl)
   rw [hx]
   have htake : (edgesL l).take (i + 1) = (edgesL l).take i ++ [e] := by rw [List.take_add_one, he]; rfl
   obtain ⟨he1, he2⟩ := edgesL_sm hs (List.mem_of_getElem? he)
   conv => whnf
   refine ⟨rfl, fun Ry => ?_⟩
   conv => whnf
   have hcq : ∀ a b, FnM PP f_slices_ContainsFunc_sl_api_Point_api_Point [.slice A l.length c, cloV f_convex_Check_2 [ptrV a, ptrV b]] (facts [SlRes (some a) (ptC e.1), SlRes (some b) (ptC e.2), SlRes A (rowV ptC l)]) (retsV (.bool (l.any (sideB e.1 e.2)))) := fun a b =>
     (c_ContainsFuncQ A c l f_convex_Check_2 [ptrV a, ptrV b] (sideB e.1 e.2) [SlRes (some a) (ptC e.1), SlRes (some b) (ptC e.2)] (by omega) (by simp [SlRes.ok]) (fun x hx => c_cvCheck2 a b e.1 e.2 x (he1.le (by decide)) (he2.le (by decide)) ((hs x hx).le (by decide)))).weak (facts_sub fun R hR => by
       simp only [List.mem_cons, List.not_mem_nil, or_false] at hR ⊢
       rcases hR with h | h | h
       · exact .inr (.inr h)
       · exact .inl h
       · exact .inr (.inl h))
   refine CallVC.v (hcq ⟨0, 0, none⟩ ⟨0, 0, none⟩).enters (CallV.c2 (k1 := 3) (k2 := 4) (fun z => [.slice A l.length c, z]) rfl rfl (List.mem_cons_of_mem _ (List.mem_cons_self ..)) (fun _ => rfl) (facts_sub (re := [SlRes A (rowV ptC l)]) (re' := [Ry, SlRes (some a) [.slice A l.length c], SlRes A (rowV ptC l)]) fun R hR => by rw [List.mem_singleton.1 hR]; simp) hcq) ?_
   cases hb : l.any (sideB e.1 e.2) with
   | true =>
     conv => whnf
     refine ⟨[(27, .box [.v (.slice A l.length c)] t_sl_api_Point), (28, .box [.v (.int .i64 15)] t_api_Errno)], rfl, rfl, SLe.id trivial ⟨⟨_, rfl, .refl _⟩, ⟨_, rfl, .refl _⟩, trivial⟩ (fun R hR => hR), ?_⟩
     conv => whnf
     refine postV_one ?_
     rw [chkC, if_neg hlt, if_neg hgt, if_neg (by rw [hcan]; decide), if_neg (by rw [hbel]; decide), if_pos (List.any_eq_true.2 ⟨e, List.mem_of_getElem? he, hb⟩)]
   | false =>
     conv => whnf
     exact ⟨false, by rw [htake, List.any_append, hv]; simp [hb], SLe.id trivial ⟨⟨_, rfl, .refl _⟩, ⟨_, rfl, .refl _⟩, trivial⟩ (fun R hR => hR)⟩
 · rintro o hv
   rw [edgeXs_len, List.take_of_length_le (by rw [edgesL_len]; exact Nat.le_refl _)] at hv
   refine WPS.of TBgood mixed ?_
   conv => whnf
   refine postV_one ?_
   rw [chkC, if_neg hlt, if_neg hgt, if_neg (by rw [hcan]; decide), if_neg (by rw [hbel]; decide), if_neg (by rw [hv]; decide)]
end Go.Sx
end
section
set_option maxRecDepth 10000
set_option maxHeartbeats 2000000
namespace Go.Sx
open Go Go.Proofs
def rightB (p q r : Pt) : Bool := decide (cmpQ (ori p.v q.v r.v) 0 < 0)
theorem c_cvTouch1 (z : Int) : Fn PP f_convex_Touch_1 [.int .i64 z] (.bool (decide (z < 0))) := by
 refine Fn.of TBgood mixed h_convex_Touch_1 rfl rfl (Nat.le_of_ble_eq_true rfl) ?_
 intro w
 conv => whnf
 exact postV_one rfl
theorem c_cvBeside1 (f a b : Addr) (p q r : Pt) (hp : p.sm (4 * KV)) (hq : q.sm (4 * KV)) (hr : r.sm (4 * KV)) :
   FnM PP f_convex_beside_1 [pV r, ptrV f, ptrV a, ptrV b] (facts [SlRes (some f) [fnV f_convex_Touch_1], SlRes (some a) (ptC p), SlRes (some b) (ptC q)]) (retsV (.bool (!rightB p q r))) := by
 refine FnS.of TBgood mixed h_convex_beside_1 rfl rfl (Nat.le_of_ble_eq_true rfl) (by simp [SlRes.ok]) ?_
 intro w hw
 obtain ⟨b1, o1, rfl⟩ := slf_addr (hw (SlRes (some a) (ptC p)) (by simp)) (by simp [ptC])
 obtain ⟨b2, o2, rfl⟩ := slf_addr (hw (SlRes (some b) (ptC q)) (by simp)) (by simp [ptC])
 conv => whnf
 refine DrawVC.quiet (by kernel_rfl) ?_
 conv => whnf
 refine LoadVC.row (off := 0) (List.mem_cons_self ..) rfl (Nat.le_refl _) (by decide) (fun _ => rfl) ?_
 conv => whnf
 refine LoadVC.row (off := 0) (List.mem_cons_of_mem _ (List.mem_cons_self ..)) (Addr_add0 _ _) (Nat.le_refl _) (by decide) (fun h => by cases h) ?_
 conv => whnf
 refine LoadVC.row (off := 0) (List.mem_cons_of_mem _ (List.mem_cons_of_mem _ (List.mem_cons_self ..))) (Addr_add0 _ _) (Nat.le_refl _) (by decide) (fun h => by cases h) ?_
 conv => whnf
 refine CallVCd.fn (c_Orient p q r hp hq hr) rfl ?_
 conv => whnf
 refine CallVCd.fn (c_cvTouch1 (cmpQ (ori p.v q.v r.v) 0)) rfl ?_
 conv => whnf
 exact postV_one rfl
def bsdP (b : List Pt) (e : Pt × Pt) : Bool := !(b.any fun r => !rightB e.1 e.2 r)
def bsdL (a b : List Pt) : Option (Pt × Pt) := (edgesL a).find? (bsdP b)
def bsdV (o : Option (Pt × Pt)) : Value := match o with
 | some e => .tuple #[sV (sgE e), .bool true]
 | none => .tuple #[sV S0, .bool false]
theorem find_take {α : Type} {L : List α} {i : Nat} {e : α} {P : α → Bool} (he : L[i]? = some e) (hn : (L.take i).find? P = none) (hp : P e = true) : L.find? P = some e := by
 have h : L = L.take i ++ e :: L.drop (i + 1) := by
   obtain ⟨h1, h2⟩ := List.getElem?_eq_some_iff.1 he
   rw [← h2, ← List.drop_eq_getElem_cons h1, List.take_append_drop]
 rw [h, List.find?_append, hn, List.find?_cons, hp]; rfl
theorem c_cvBeside (A B : Option Addr) (c d : Nat) (a b : List Pt) (ha : a.length ≤ 1000) (hb : b.length ≤ 1000) (hsa : Lsm KS a) (hsb : Lsm KS b) :
   FnM PP f_convex_beside [.slice A a.length c, .slice B b.length d, fnV f_convex_Touch_1] (facts [SlRes A (rowV ptC a), SlRes B (rowV ptC b)]) (retsV (bsdV (bsdL a b))) := by
 refine FnM.ofS TBgood mixed h_convex_beside rfl rfl (Nat.le_of_ble_eq_true rfl) (by simp [SlRes.ok]) (fun w l st E w' hp hm => postV_ok hp hm) ?_
 intro w hw
 refine WPS.peel TBgood mixed ?_
 conv => whnf
 refine WPS.seq ?_
 refine WPS.seq ?_
 refine WPS.of TBgood mixed ?_
 conv => whnf
 refine CallVC.f1 (c_cvEdges A c a.length).enters (CallV.facts (c_cvEdges A c a.length) rfl (by simp)) (fun ad => ?_)
 conv => whnf
 refine WPS.block ?_
 refine WPS.range TBgood mixed rfl rfl (c_cvEdges1 A c ad a (by omega)) (fun S hS => by
     rcases List.mem_cons.1 hS with rfl | hS
     · exact List.mem_cons_self ..
     · rw [List.mem_singleton.1 hS]; exact List.mem_cons_of_mem _ (List.mem_cons_self ..)) 4 [(4, .o (.p 22 0)), (5, .o (.p 23 0)), (6, .o (.p 24 0)), (7, .o (.p 25 0))]
   (fun i (_ : Bool) => [(22, .box [.v (.slice B b.length d)] t_sl_api_Point), (23, .box [.v (fnV f_convex_Touch_1)] t_fn_int_to_bool), (24, sgB S0), (25, .box [.v (.bool false)] t_bool)])
   (fun i _ => ((edgesL a).take i).find? (bsdP b) = none) false rfl (SLe.mk (fun k => bif Nat.beq k 22 then 4 else bif Nat.beq k 23 then 5 else bif Nat.beq k 24 then 6 else bif Nat.beq k 25 then 7 else k) ⟨rfl, rfl, rfl, rfl, trivial⟩ ⟨⟨_, rfl, .refl _⟩, ⟨_, rfl, .refl _⟩, ⟨_, rfl, .refl _⟩, ⟨_, rfl, .refl _⟩, trivial⟩ rfl (fun R hR => hR)) rfl
   (fun i j _ => ⟨rfl, rfl⟩) rfl (fun x hx => by obtain ⟨e, _, rfl⟩ := List.mem_map.1 hx; rfl) rfl ?_ ?_
 · rintro W1 X i o Rx hi hv
   rw [edgeXs_len] at hi
   obtain ⟨e, he⟩ : ∃ e, (edgesL a)[i]? = some e := ⟨_, List.getElem?_eq_getElem (by rw [edgesL_len]; exact hi)⟩
   have hx : (edgeXs a).getD i [] = [pV e.1, pV e.2] := getD_of (by rw [List.getElem?_map, he]; rfl)
   rw [hx]
   have htake : (edgesL a).take (i + 1) = (edgesL a).take i ++ [e] := by rw [List.take_add_one, he]; rfl
   obtain ⟨he1, he2⟩ := edgesL_sm hsa (List.mem_of_getElem? he)
   conv => whnf
   refine ⟨rfl, fun Ry => ?_⟩
   conv => whnf
   have hcq : ∀ f p q, FnM PP f_slices_ContainsFunc_sl_api_Point_api_Point [.slice B b.length d, cloV f_convex_beside_1 [ptrV f, ptrV p, ptrV q]] (facts [SlRes (some f) [fnV f_convex_Touch_1], SlRes (some p) (ptC e.1), SlRes (some q) (ptC e.2), SlRes B (rowV ptC b)]) (retsV (.bool (b.any fun r => !rightB e.1 e.2 r))) := fun f p q =>
     (c_ContainsFuncQ B d b f_convex_beside_1 [ptrV f, ptrV p, ptrV q] (fun r => !rightB e.1 e.2 r) [SlRes (some f) [fnV f_convex_Touch_1], SlRes (some p) (ptC e.1), SlRes (some q) (ptC e.2)] (by omega) (by simp [SlRes.ok]) (fun x hx => c_cvBeside1 f p q e.1 e.2 x (he1.le (by decide)) (he2.le (by decide)) ((hsb x hx).le (by decide)))).weak (facts_sub fun R hR => by
       simp only [List.mem_cons, List.not_mem_nil, or_false] at hR ⊢
       rcases hR with h | h | h | h
       · exact .inr (.inr (.inr h))
       · exact .inl h
       · exact .inr (.inl h)
       · exact .inr (.inr (.inl h)))
   refine CallVC.v (hcq ⟨0, 0, none⟩ ⟨0, 0, none⟩ ⟨0, 0, none⟩).enters (CallV.c3 (k1 := 23) (k2 := 8) (k3 := 9) (fun z => [.slice B b.length d, z]) rfl rfl rfl (List.mem_cons_of_mem _ (List.mem_cons_self ..)) (fun _ => rfl) (facts_sub (re := [SlRes B (rowV ptC b)]) (re' := [Ry, SlRes (some ad) [.slice A a.length c], SlRes A (rowV ptC a), SlRes B (rowV ptC b)]) fun R hR => by rw [List.mem_singleton.1 hR]; simp) hcq) ?_
   have hP : bsdP b e = !(b.any fun r => !rightB e.1 e.2 r) := rfl
   cases hb : b.any fun r => !rightB e.1 e.2 r with
   | false =>
     rw [hb] at hP
     conv => whnf
     refine ⟨[(22, .box [.v (.slice B b.length d)] t_sl_api_Point), (23, .box [.v (fnV f_convex_Touch_1)] t_fn_int_to_bool), (24, sgB (sgE e)), (25, .box [.v (.bool true)] t_bool)], rfl, rfl, SLe.id trivial ⟨⟨_, rfl, .refl _⟩, ⟨_, rfl, .refl _⟩, ⟨_, rfl, .refl _⟩, ⟨_, rfl, .refl _⟩, trivial⟩ (fun R hR => hR), ?_⟩
     conv => whnf
     refine postV_two ?_
     rw [bsdL, find_take he hv hP]; rfl
   | true =>
     rw [hb] at hP
     conv => whnf
     exact ⟨false, by rw [htake, List.find?_append, hv, List.find?_cons, hP]; rfl, SLe.id trivial ⟨⟨_, rfl, .refl _⟩, ⟨_, rfl, .refl _⟩, ⟨_, rfl, .refl _⟩, ⟨_, rfl, .refl _⟩, trivial⟩ (fun R hR => hR)⟩
 · rintro o hv
   rw [edgeXs_len, List.take_of_length_le (by rw [edgesL_len]; exact Nat.le_refl _)] at hv
   refine WPS.of TBgood mixed ?_
   conv => whnf
   refine postV_two ?_
   rw [bsdL, hv]; rfl
end Go.Sx
end
section
set_option maxRecDepth 10000
set_option maxHeartbeats 2000000
namespace Go.Sx
open Go Go.Proofs
def sepL (a b : List Pt) : Option (Pt × Pt) := match bsdL a b with
 | some e => some e
 | none => bsdL b a
theorem c_cvSep (A B : Option Addr) (c d : Nat) (a b : List Pt) (ha : a.length ≤ 1000) (hb : b.length ≤ 1000) (hsa : Lsm KS a) (hsb : Lsm KS b) :
   FnM PP f_convex_separator [.slice A a.length c, .slice B b.length d, fnV f_convex_Touch_1] (facts [SlRes A (rowV ptC a), SlRes B (rowV ptC b)]) (retsV (bsdV (sepL a b))) := by
 refine FnS.of TBgood mixed h_convex_separator rfl rfl (Nat.le_of_ble_eq_true rfl) (by simp [SlRes.ok]) ?_
 intro w hw
 conv => whnf
 refine CallVC.v (c_cvBeside A B c d a b ha hb hsa hsb).enters (CallV.facts (c_cvBeside A B c d a b ha hb hsa hsb) rfl (fun R hR => hR)) ?_
 unfold sepL
 cases h1 : bsdL a b with
 | some e =>
   conv => whnf
   exact postV_two rfl
 | none =>
   conv => whnf
   refine CallVC.v (c_cvBeside B A d c b a hb ha hsb hsa).enters (CallV.facts (c_cvBeside B A d c b a hb ha hsb hsa) rfl (fun R hR => by
     simp only [List.mem_cons, List.not_mem_nil, or_false] at hR
     rcases hR with rfl | rfl
     · exact List.mem_cons_of_mem _ (List.mem_cons_self ..)
     · exact List.mem_cons_self ..)) ?_
   cases h2 : bsdL b a with
   | some e =>
     conv => whnf
     exact postV_two rfl
   | none =>
     conv => whnf
     exact postV_two rfl
def tchL (a b : List Pt) : Bool × Int := if chkC a ≠ 0 ∨ chkC b ≠ 0 then (false, 1) else (!(sepL a b).isSome, 0)
theorem chkC_len {l : List Pt} (h : chkC l = 0) : 3 ≤ l.length ∧ l.length ≤ 64 := by
 unfold chkC at h
 split at h
 · cases h
 split at h
 · cases h
 exact ⟨by omega, by omega⟩
theorem c_cvTouch (A B : Option Addr) (c d : Nat) (a b : List Pt) (hca : a.length ≤ c) (hcb : b.length ≤ d) (hsa : Lsm KS a) (hsb : Lsm KS b) :
   FnM PP f_convex_Touch [.slice A a.length c, .slice B b.length d] (facts [SlRes A (rowV ptC a), SlRes B (rowV ptC b)]) (retsV (.tuple #[.bool (tchL a b).1, .int .i64 (tchL a b).2])) := by
 refine FnS.of TBgood mixed h_convex_Touch rfl rfl (Nat.le_of_ble_eq_true rfl) (by simp [SlRes.ok]) ?_
 intro w hw
 conv => whnf
 refine CallVC.v (c_cvCheck A c a hca hsa).enters (CallV.facts (c_cvCheck A c a hca hsa) rfl (fun R hR => by rw [List.mem_singleton.1 hR]; exact List.mem_cons_self ..)) ?_
 by_cases h1 : chkC a = 0
 rotate_left
 · rw [tchL, if_pos (.inl h1)]
   conv => whnf
   refine br_true (bne_iff_ne.2 h1) ?_
   conv => whnf
   exact postV_two rfl
 conv => whnf
 refine br_false (bne_eq_false_iff_eq.2 h1) ?_
 conv => whnf
 refine CallVC.v (c_cvCheck B d b hcb hsb).enters (CallV.facts (c_cvCheck B d b hcb hsb) rfl (fun R hR => by rw [List.mem_singleton.1 hR]; exact List.mem_cons_of_mem _ (List.mem_cons_self ..))) ?_
 by_cases h2 : chkC b = 0
 rotate_left
 · rw [tchL, if_pos (.inr h2)]
   conv => whnf
   refine br_true (bne_iff_ne.2 h2) ?_
   conv => whnf
   exact postV_two rfl
 rw [tchL, if_neg (fun h => h.elim (fun k => k h1) (fun k => k h2))]
 have l1 := chkC_len h1
 have l2 := chkC_len h2
 conv => whnf
 refine br_false (bne_eq_false_iff_eq.2 h2) ?_
 conv => whnf
 refine CallVC.v (c_cvSep A B c d a b (by omega) (by omega) hsa hsb).enters (CallV.facts (c_cvSep A B c d a b (by omega) (by omega) hsa hsb) rfl (fun R hR => hR)) ?_
 cases h3 : sepL a b with
 | some e =>
   conv => whnf
   exact postV_two rfl
 | none =>
   conv => whnf
   exact postV_two rfl
def at_ (l : List Pt) (i : Nat) : V := (l.getD i P0).v
structure Cvx (l : List Pt) : Prop where
 n3 : 3 ≤ l.length
 n64 : l.length ≤ 64
 ok : canonL l = true
 least : ∀ k, 0 < k → k < l.length → ltP2 (at_ l 0) (at_ l k)
 left : ∀ i k, i < l.length → k < l.length → at_ l k ≠ at_ l i → at_ l k ≠ at_ l ((i + 1) % l.length) → 0 < ori (at_ l i) (at_ l ((i + 1) % l.length)) (at_ l k)
theorem getD_mem' {l : List Pt} {i : Nat} (h : i < l.length) : l.getD i P0 ∈ l := by
 rw [getD_of (List.getElem?_eq_getElem h)]; exact List.getElem_mem h
theorem least_iff {l : List Pt} : (l.drop 1).any (belowB (l.getD 0 P0)) = false ↔ ∀ k, 0 < k → k < l.length → ltP2 (at_ l 0) (at_ l k) := by
 rw [List.any_eq_false]
 constructor
 · intro h k hk hkl
   have hm : l.getD k P0 ∈ l.drop 1 := by
     rw [getD_of (List.getElem?_eq_getElem hkl)]
     refine List.mem_of_getElem? (i := k - 1) ?_
     rw [List.getElem?_drop, show 1 + (k - 1) = k by omega]; exact List.getElem?_eq_getElem hkl
   have h2 := h _ hm
   have h3 : ¬ cmpV (l.getD k P0).v (l.getD 0 P0).v ≤ 0 := by simpa [belowB] using h2
   exact cmpV_gt.1 (by show cmpV (l.getD k P0).v (l.getD 0 P0).v > 0; omega)
 · intro h x hx
   obtain ⟨i, hi⟩ := List.getElem?_of_mem hx
   rw [List.getElem?_drop] at hi
   have hil : 1 + i < l.length := (List.getElem?_eq_some_iff.1 hi).1
   have h2 := cmpV_gt.2 (h (1 + i) (by omega) hil)
   have h3 : at_ l (1 + i) = x.v := by unfold at_; rw [getD_of hi]
   rw [h3] at h2
   have h4 : ¬ cmpV x.v (l.getD 0 P0).v ≤ 0 := by
     have : cmpV x.v (at_ l 0) > 0 := h2
     show ¬ cmpV x.v (at_ l 0) ≤ 0
     omega
   simpa [belowB] using h4
theorem sideB_pos {p q r : Pt} (h1 : r ≠ p) (h2 : r ≠ q) (h : ¬ sideB p q r = true) : 0 < ori p.v q.v r.v := by
 rw [sideB, decide_eq_true h1, decide_eq_true h2, Bool.true_and, Bool.true_and, decide_eq_true_eq] at h
 exact cmpQ_gt.1 (by show cmpQ (ori p.v q.v r.v) 0 > 0; omega)
theorem left_of {l : List Pt} (h : (edgesL l).any (fun e => l.any (sideB e.1 e.2)) = false) : ∀ i k, i < l.length → k < l.length → at_ l k ≠ at_ l i → at_ l k ≠ at_ l ((i + 1) % l.length) → 0 < ori (at_ l i) (at_ l ((i + 1) % l.length)) (at_ l k) := by
 intro i k hi hk h1 h2
 have he := List.any_eq_false.1 h _ (List.mem_of_getElem? (edgesL_get hi))
 have hr := List.any_eq_false.1 (Bool.eq_false_iff.2 he) _ (getD_mem' hk)
 exact sideB_pos (fun e => h1 (congrArg Pt.v e)) (fun e => h2 (congrArg Pt.v e)) hr
theorem cvx_of {l : List Pt} (h : chkC l = 0) : Cvx l := by
 obtain ⟨h3, h64⟩ := chkC_len h
 rw [chkC, if_neg (by omega), if_neg (by omega)] at h
 split at h
 · cases h
 rename_i hc
 split at h
 · cases h
 rename_i hb
 split at h
 · cases h
 rename_i he
 exact ⟨h3, h64, by simpa using hc, least_iff.1 (by simpa using hb), left_of (Bool.eq_false_iff.2 he)⟩
theorem Cvx.ne {l : List Pt} (h : Cvx l) {i : Nat} (hi : i < l.length) : at_ l i ≠ at_ l ((i + 1) % l.length) := ne_next h.n3 h.least h.left hi
theorem Cvx.okp {l : List Pt} (h : Cvx l) {p : Pt} (hp : p ∈ l) : p.ok := by
 have := List.all_eq_true.1 h.ok p hp
 simpa using this
theorem Cvx.edge {l : List Pt} (h : Cvx l) {e : Pt × Pt} (he : e ∈ edgesL l) : e.1.ok ∧ e.2.ok ∧ ¬ degen (sgE e) := by
 obtain ⟨i, hi⟩ := List.getElem?_of_mem he
 have hil : i < l.length := by rw [← edgesL_len l]; exact (List.getElem?_eq_some_iff.1 hi).1
 rw [edgesL_get hil] at hi
 cases hi
 have hm : (i + 1) % l.length < l.length := Nat.mod_lt _ (by omega)
 exact ⟨h.okp (getD_mem' hil), h.okp (getD_mem' hm), fun hd => h.ne hil (degen_iff.1 hd)⟩
end Go.Sx
end
section
set_option maxRecDepth 10000
set_option maxHeartbeats 2000000
namespace Go.Sx
open Go Go.Proofs
theorem mnR_Q (a b : Rat) : mnR (Q a) (Q b) = Q (mnQ a b) := by unfold mnR mnQ; rw [Q_v, Q_v]; split <;> rfl
theorem mxR_Q (a b : Rat) : mxR (Q a) (Q b) = Q (mxQ a b) := by unfold mxR mxQ; rw [Q_v, Q_v]; split <;> rfl
theorem absR_Q (x : Rat) : Raw.v ⟨false, (Q x).num, (Q x).den⟩ = absQ x := by
 unfold absQ
 by_cases h : x < 0
 · have h2 := Raw.opp_v (Q x)
   have h3 : (Q x).opp = ⟨false, (Q x).num, (Q x).den⟩ := by
     show (⟨!(Q x).neg, _, _⟩ : Raw) = _
     rw [show (Q x).neg = true from decide_eq_true h]; rfl
   rw [h3] at h2
   rw [if_pos h, h2, Q_v]
 · have h3 : (⟨false, (Q x).num, (Q x).den⟩ : Raw) = Q x := by
     have : (Q x).neg = false := decide_eq_false h
     rw [← this]
   rw [if_neg h, h3, Q_v]
theorem absQ_sz {k : Nat} {x : Rat} (h : Sz k x) : Sz k (absQ x) := by
 unfold absQ; split
 · exact h.neg
 · exact h
theorem r_vSquare (p q : Pt) (hp : p.sm KV) (hq : q.sm KV) : Fn PP f_narrowsref06_Square [pV p, pV q] (qV (p.v.sq q.v)) := by
 have zp := hp.sz (by decide)
 have zq := hq.sz (by decide)
 have zd := zp.sub zq
 refine Fn.of TBgood mixed h_narrowsref06_Square rfl rfl (Nat.le_of_ble_eq_true rfl) ?_
 intro w
 conv => whnf
 refine CallVC.fn (r_vSub p q (hp.le (by decide)) (hq.le (by decide))) rfl ?_
 conv => whnf
 refine DrawVC.quiet (by kernel_rfl) ?_
 conv => whnf
 refine CallVCd.fn (r_rAbs (Q (p.v - q.v).x) (zd.1.q.le (by decide))) rfl ?_
 rw [absR_Q]
 conv => whnf
 refine CallVCd.fn (r_rAbs (Q (p.v - q.v).y) (zd.2.q.le (by decide))) rfl ?_
 rw [absR_Q]
 conv => whnf
 refine CallVCd.fn (r_rMax (Q (absQ (p.v - q.v).x)) (Q (absQ (p.v - q.v).y)) ((absQ_sz zd.1).q.le (by decide)) ((absQ_sz zd.2).q.le (by decide))) rfl ?_
 rw [mxR_Q, sqR_eq]
 conv => whnf
 exact postV_one rfl
theorem r_square (s : Sg) (p : Pt) (hs : s.sm KS) (hp : p.sm KS) : Fn PP f_narrowsref26_square [sV s, pV p] (qV (sqPt s.A.v s.B.v p.v)) := by
 have za := hs.1.sz (by decide)
 have zb := hs.2.sz (by decide)
 have zp := hp.sz (by decide)
 obtain ⟨U, hU⟩ : ∃ U, U = s.A.v - p.v := ⟨_, rfl⟩
 obtain ⟨W, hW⟩ : ∃ W, W = s.B.v - s.A.v := ⟨_, rfl⟩
 have zU := za.sub zp
 have zW := zb.sub za
 rw [← hU] at zU
 rw [← hW] at zW
 have hmin : ∀ {a b : Rat} {k : Nat}, Sz k a → Sz k b → Sz k (mnQ a b) := fun ha hb => by unfold mnQ; split; exact hb; exact ha
 refine Fn.of TBgood mixed h_narrowsref26_square rfl rfl (Nat.le_of_ble_eq_true rfl) ?_
 intro w
 conv => whnf
 refine DrawVC.quiet (by kernel_rfl) ?_
 conv => whnf
 refine CallVCd.fn (r_vSquare s.A p (hs.1.le (by decide)) (hp.le (by decide))) rfl ?_
 conv => whnf
 refine CallVCd.fn (r_vSquare s.B p (hs.2.le (by decide)) (hp.le (by decide))) rfl ?_
 conv => whnf
 refine CallVCd.fn (r_rMin (Q (s.A.v.sq p.v)) (Q (s.B.v.sq p.v)) ((V.sq_sz za zp).q.le (by decide)) ((V.sq_sz zb zp).q.le (by decide))) rfl ?_
 rw [mnR_Q]
 conv => whnf
 refine DrawVC.quiet (by kernel_rfl) ?_
 conv => whnf
 refine CallVCd.fn (r_vSub s.A p (hs.1.le (by decide)) (hp.le (by decide))) rfl ?_
 rw [← hU]
 conv => whnf
 refine CallVCd.fn (r_vSub s.B s.A (hs.2.le (by decide)) (hs.1.le (by decide))) rfl ?_
 rw [← hW]
 conv => whnf
 refine DrawVC.quiet (by kernel_rfl) ?_
 conv => whnf
 refine CallVCd.fn (r_rSub (Q U.x) (Q U.y) (zU.1.q.le (by decide)) (zU.2.q.le (by decide))) rfl ?_
 rw [Q_v, Q_v]
 conv => whnf
 refine CallVCd.fn (r_rAdd (Q U.x) (Q U.y) (zU.1.q.le (by decide)) (zU.2.q.le (by decide))) rfl ?_
 rw [Q_v, Q_v]
 conv => whnf
 refine DrawVC.quiet (by kernel_rfl) ?_
 conv => whnf
 refine CallVCd.fn (r_rSub (Q W.x) (Q W.y) (zW.1.q.le (by decide)) (zW.2.q.le (by decide))) rfl ?_
 rw [Q_v, Q_v]
 conv => whnf
 refine CallVCd.fn (r_rAdd (Q W.x) (Q W.y) (zW.1.q.le (by decide)) (zW.2.q.le (by decide))) rfl ?_
 rw [Q_v, Q_v]
 conv => whnf
 have hps : ∀ x ∈ partPs s.A.v s.B.v p.v, Sz (10 * KS) x.1 ∧ Sz (10 * KS) x.2 := by
   intro x hx
   unfold partPs at hx
   rw [← hU, ← hW] at hx
   simp only [List.mem_cons, List.not_mem_nil, or_false] at hx
   rcases hx with rfl | rfl | rfl | rfl
   · exact ⟨zU.1.le (by decide), zW.1.le (by decide)⟩
   · exact ⟨zU.2.le (by decide), zW.2.le (by decide)⟩
   · exact ⟨(zU.1.sub zU.2).le (by decide), (zW.1.sub zW.2).le (by decide)⟩
   · exact ⟨(zU.1.add zU.2).le (by decide), (zW.1.add zW.2).le (by decide)⟩
 have hpl : (partPs s.A.v s.B.v p.v).length = 4 := rfl
 have hp1 : [U.x, U.y, U.x - U.y, U.x + U.y] = (partPs s.A.v s.B.v p.v).map (·.1) := by unfold partPs; rw [← hU, ← hW]; rfl
 have hp2 : [W.x, W.y, W.x - W.y, W.x + W.y] = (partPs s.A.v s.B.v p.v).map (·.2) := by unfold partPs; rw [← hU, ← hW]; rfl
 obtain ⟨g, hg⟩ : ∃ g : Rat → Rat, g = fun t => (s.A.v.at s.B.v t).sq p.v := ⟨_, rfl⟩
 have hgoal : sqPt s.A.v s.B.v p.v = ((partPs s.A.v s.B.v p.v).filterMap partOf).foldl (stepM g) (mnQ (s.A.v.sq p.v) (s.B.v.sq p.v)) := by rw [← sqRef_eq, hg]; rfl
 rw [hgoal]
 obtain ⟨PS, hPS⟩ : ∃ PS, PS = partPs s.A.v s.B.v p.v := ⟨_, rfl⟩
 rw [← hPS] at hps hpl hp1 hp2 ⊢
 refine sexec_loop (ι := Nat × Rat) (fun ⟨i, m⟩ => ⟨[(2, .o (.p 2 0)), (3, .o (.p 3 0)), (4, .o (.p 4 0)), (5, .o (.p 5 0)), (8, .o (.s 45 0 4 4)), (9, .o (.s 60 0 4 4)), (10, .o (.v (.int .i64 i)))],
     [(2, sgB s), (3, ptB p), (4, ratM ⟨false, [], []⟩), (5, ratM (Q m)), (45, .sym (rowV ratC ([U.x, U.y, U.x - U.y, U.x + U.y].map Q)) t_api_Rat), (60, .sym (rowV ratC ([W.x, W.y, W.x - W.y, W.x + W.y].map Q)) t_api_Rat)], []⟩)
   (fun ⟨i, m⟩ => i ≤ 4 ∧ (PS.filterMap partOf).foldl (stepM g) (mnQ (s.A.v.sq p.v) (s.B.v.sq p.v)) = ((PS.drop i).filterMap partOf).foldl (stepM g) m ∧ Sz 1000000 m) (fun ⟨i, m⟩ => 4 - i) (0, mnQ (s.A.v.sq p.v) (s.B.v.sq p.v)) ⟨Nat.zero_le _, by rw [List.drop_zero], hmin ((V.sq_sz za zp).le (by decide)) ((V.sq_sz zb zp).le (by decide))⟩
   (SLe.id ⟨rfl, rfl, rfl, rfl, rfl, rfl, rfl, trivial⟩ ⟨⟨_, rfl, .refl _⟩, ⟨_, rfl, .refl _⟩, ⟨_, rfl, .refl _⟩, ⟨_, rfl, .refl _⟩, ⟨_, rfl, .sym _ rfl⟩, ⟨_, rfl, .sym _ rfl⟩, trivial⟩ (fun R hR => hR)) ?_
 rintro ⟨i, m⟩ ⟨hi, hfold, hm⟩
 conv => whnf
 refine br_split ?_ ?_
 · intro h
   have hi2 : i < 4 := by
     have : (i : Int) < (4 : Int) := of_decide_eq_true h
     omega
   obtain ⟨x, hx⟩ : ∃ x, PS[i]? = some x := ⟨_, List.getElem?_eq_getElem (by omega)⟩
   have hxs := hps x (List.mem_of_getElem? hx)
   rw [drop_cons hx, List.filterMap_cons] at hfold
   conv => whnf
   refine DrawVC.late [(14, 11, [12])] (by kernel_rfl) ?_
   conv => whnf
   refine ⟨by show 0 ≤ (i : Int) ∧ (i : Int) < ((4 : Nat) : Int); omega, ?_⟩
   conv => whnf
   refine RowVC.elem ratC ratC_len (k := i) (by show 0 + (i : Int).toNat * 3 = i * 3; rw [Int.toNat_natCast]; omega) (by simp; omega) (by decide) (fun h => by cases h) ?_
   intro r hr
   obtain rfl : r = Q x.1 := by rw [hp1, List.getElem?_map, List.getElem?_map, hx] at hr; exact (Option.some.inj hr).symm
   conv => whnf
   refine CallVCd.fn (r_rNeg (Q x.1) (hxs.1.q.le (by decide))) rfl ?_
   rw [Q_v]
   conv => whnf
   refine ⟨by show 0 ≤ (i : Int) ∧ (i : Int) < ((4 : Nat) : Int); omega, ?_⟩
   conv => whnf
   refine RowVC.elem ratC ratC_len (k := i) (by show 0 + (i : Int).toNat * 3 = i * 3; rw [Int.toNat_natCast]; omega) (by simp; omega) (by decide) (fun h => by cases h) ?_
   intro r hr
   obtain rfl : r = Q x.2 := by rw [hp2, List.getElem?_map, List.getElem?_map, hx] at hr; exact (Option.some.inj hr).symm
   conv => whnf
   refine CallVCd.fn (r_rQuo (Q (-x.1)) (Q x.2) (hxs.1.neg.q.le (by decide)) (hxs.2.q.le (by decide))) rfl ?_
   rw [Q_v, Q_v]
   by_cases h0 : x.2 = 0
   · rw [quoV, if_pos h0]
     rw [show partOf x = none by unfold partOf; rw [if_pos h0]] at hfold
     conv => whnf
     refine DrawVC.quiet (by kernel_rfl) ?_
     conv => whnf
     exact ⟨(i + 1, m), ⟨by omega, hfold, hm⟩, by show 4 - (i + 1) < 4 - i; omega, SLe.id ⟨rfl, rfl, rfl, rfl, rfl, rfl, some_wrap hi2 (by omega), trivial⟩ ⟨⟨_, rfl, .refl _⟩, ⟨_, rfl, .refl _⟩, ⟨_, rfl, .refl _⟩, ⟨_, rfl, .refl _⟩, ⟨_, rfl, .refl _⟩, ⟨_, rfl, .refl _⟩, trivial⟩ (fun R hR => hR)⟩
   · rw [quoV, if_neg h0]
     obtain ⟨t, ht⟩ : ∃ t, t = -x.1 / x.2 := ⟨_, rfl⟩
     have zt := hxs.1.neg.div hxs.2
     rw [← ht] at zt ⊢
     have hpo : partOf x = if cmpQ 0 t ≤ 0 ∧ cmpQ t 1 ≤ 0 then some t else none := by unfold partOf; rw [if_neg h0, ← ht]
     conv => whnf
     refine DrawVC.quiet (by kernel_rfl) ?_
     conv => whnf
     refine CallVCd.fn (r_rSign (Q t) (zt.q.le (by decide))) rfl ?_
     rw [Q_v]
     conv => whnf
     by_cases h1 : 0 ≤ t
     · refine br_true (decide_eq_true (cmpQ_ge.2 h1)) ?_
       conv => whnf
       refine CallVCd.fn (r_rOf 1 (by decide) (by decide)) rfl ?_
       rw [one_eq]
       conv => whnf
       refine CallVCd.fn (r_rCompare (Q t) (Q 1) (zt.q.le (by decide)) Q1_sm) rfl ?_
       rw [Q_v, Q_v]
       conv => whnf
       by_cases h2 : t ≤ 1
       · refine br_true (decide_eq_true (cmpQ_le.2 h2)) ?_
         rw [hpo, if_pos ⟨cmpQ_le.2 h1, cmpQ_le.2 h2⟩] at hfold
         have zm := za.at zb zt
         conv => whnf
         refine DrawVC.quiet (by kernel_rfl) ?_
         conv => whnf
         refine CallVCd.fn (r_vAt s.A s.B (Q t) (hs.1.le (by decide)) (hs.2.le (by decide)) (zt.q.le (by decide))) rfl ?_
         rw [Q_v]
         conv => whnf
         refine CallVCd.fn (r_vSquare (PQ (s.A.v.at s.B.v t)) p (zm.q.le (by decide)) (hp.le (by decide))) rfl ?_
         rw [PQ_v]
         conv => whnf
         refine CallVCd.fn (r_rMin (Q m) (Q ((s.A.v.at s.B.v t).sq p.v)) (hm.q.le (by decide)) ((V.sq_sz zm zp).q.le (by decide))) rfl ?_
         rw [mnR_Q]
         conv => whnf
         exact ⟨(i + 1, mnQ m ((s.A.v.at s.B.v t).sq p.v)), ⟨by omega, by rw [hfold, List.foldl_cons, hg]; rfl, hmin hm ((V.sq_sz zm zp).le (by decide))⟩, by show 4 - (i + 1) < 4 - i; omega, SLe.id ⟨rfl, rfl, rfl, rfl, rfl, rfl, some_wrap hi2 (by omega), trivial⟩ ⟨⟨_, rfl, .refl _⟩, ⟨_, rfl, .refl _⟩, ⟨_, rfl, .refl _⟩, ⟨_, rfl, .refl _⟩, ⟨_, rfl, .refl _⟩, ⟨_, rfl, .refl _⟩, trivial⟩ (fun R hR => hR)⟩
       · refine br_false (decide_eq_false (fun h => h2 (cmpQ_le.1 h))) ?_
         rw [hpo, if_neg (fun h => h2 (cmpQ_le.1 h.2))] at hfold
         conv => whnf
         exact ⟨(i + 1, m), ⟨by omega, hfold, hm⟩, by show 4 - (i + 1) < 4 - i; omega, SLe.id ⟨rfl, rfl, rfl, rfl, rfl, rfl, some_wrap hi2 (by omega), trivial⟩ ⟨⟨_, rfl, .refl _⟩, ⟨_, rfl, .refl _⟩, ⟨_, rfl, .refl _⟩, ⟨_, rfl, .refl _⟩, ⟨_, rfl, .refl _⟩, ⟨_, rfl, .refl _⟩, trivial⟩ (fun R hR => hR)⟩
     · refine br_false (decide_eq_false (fun h => h1 (cmpQ_ge.1 h))) ?_
       rw [hpo, if_neg (fun h => h1 (cmpQ_le.1 h.1))] at hfold
       conv => whnf
       exact ⟨(i + 1, m), ⟨by omega, hfold, hm⟩, by show 4 - (i + 1) < 4 - i; omega, SLe.id ⟨rfl, rfl, rfl, rfl, rfl, rfl, some_wrap hi2 (by omega), trivial⟩ ⟨⟨_, rfl, .refl _⟩, ⟨_, rfl, .refl _⟩, ⟨_, rfl, .refl _⟩, ⟨_, rfl, .refl _⟩, ⟨_, rfl, .refl _⟩, ⟨_, rfl, .refl _⟩, trivial⟩ (fun R hR => hR)⟩
 · intro h
   have hi2 : i = 4 := by
     have : ¬ (i : Int) < (4 : Int) := of_decide_eq_false h
     omega
   rw [hi2, List.drop_of_length_le (by omega)] at hfold
   rw [hfold]
   conv => whnf
   exact postV_one rfl
end Go.Sx
end
section
set_option maxRecDepth 10000
set_option maxHeartbeats 2000000
namespace Go.Sx
open Go Go.Proofs
end Go.Sx
end
section
set_option maxRecDepth 10000
set_option maxHeartbeats 2000000
namespace Go.Sx
open Go Go.Proofs
theorem r_cvPoints (A : Option Addr) (c : Nat) (l : List Pt) (hl : l.length ≤ 1000000) (hs : Lsm KK l) :
   FnM PP f_narrowsref13_Points [.slice A l.length c] (facts [SlRes A (rowV ptC l)]) (retsV (.bool (canonL l))) := by
 refine FnS.of TBgood mixed h_narrowsref13_Points rfl rfl (Nat.le_of_ble_eq_true rfl) (by simp [SlRes.ok]) ?_
 intro w hw
 obtain ⟨n, hn⟩ : ∃ n, n = l.length := ⟨_, rfl⟩
 have hA : 0 < n → A.isSome = true := fun h => slres_some (facts_one hw) (by rw [rowV_length ptC_len]; omega)
 rw [← hn] at hl ⊢
 conv => whnf
 refine sexec_loop (ι := Nat) (fun j => ⟨[(0, .o (.v (.slice A n c))), (2, .o (.v (.bool false))), (3, .o (.v (.int .i64 j)))], [], [SlRes A (rowV ptC l)]⟩)
   (fun j => j ≤ n ∧ canonL l = (l.drop j).all (fun p => decide p.ok)) (fun j => n - j) 0 ⟨Nat.zero_le _, by rw [List.drop_zero]; rfl⟩
   (SLe.id ⟨rfl, rfl, rfl, trivial⟩ trivial (fun R hR => hR)) ?_
 rintro j ⟨hj, hall⟩
 conv => whnf
 refine br_split ?_ ?_
 · intro h
   have hj2 : j < n := by
     have : (j : Int) < (n : Int) := of_decide_eq_true h
     omega
   conv => whnf
   refine ⟨⟨by omega, by omega, hA (by omega)⟩, ?_⟩
   conv => whnf
   obtain ⟨p, hp⟩ : ∃ p, l[j]? = some p := ⟨_, List.getElem?_eq_getElem (by omega)⟩
   refine LoadVC.elem (A := A) (xs := l) (j := (j : Int)) ptC ptC_len (List.mem_singleton.2 rfl) rfl (by rw [Int.toNat_natCast]; omega) (by decide) (fun h => by cases h) ?_
   intro p' hp'
   obtain rfl := elem_eq hp' hp
   conv => whnf
   refine CallVC.fn (r_vCheck p' (hs p' (List.mem_of_getElem? hp))) rfl ?_
   rw [drop_cons hp, List.all_cons] at hall
   by_cases hok : p'.ok
   · rw [if_pos hok]
     rw [decide_eq_true hok, Bool.true_and] at hall
     conv => whnf
     exact ⟨j + 1, ⟨by omega, hall⟩, by omega, SLe.id ⟨rfl, rfl, some_wrap hj2 (by omega), trivial⟩ trivial (fun R hR => hR)⟩
   · rw [if_neg hok]
     rw [decide_eq_false hok, Bool.false_and] at hall
     conv => whnf
     refine postV_one ?_
     rw [hall]
 · intro h
   have hj2 : j = n := by
     have : ¬ (j : Int) < (n : Int) := of_decide_eq_false h
     omega
   rw [hj2, List.drop_of_length_le (by omega), List.all_nil] at hall
   conv => whnf
   refine postV_one ?_
   rw [hall]
def turnB (l : List Pt) (i : Nat) : Bool := decide (cmpQ (ori (at_ l i) (at_ l ((i + 1) % l.length)) (at_ l ((i + 2) % l.length))) 0 ≤ 0) || (decide (0 < i) && (decide (i + 1 < l.length) && decide (cmpQ (ori (at_ l 0) (at_ l i) (at_ l (i + 1))) 0 ≤ 0)))
def lowB (l : List Pt) (k : Nat) : Bool := decide (cmpV (at_ l 0) (at_ l k) ≥ 0)
def chkR (l : List Pt) : Int := if l.length < 3 then 4 else if 64 < l.length then 4 else if canonL l = false then 1 else if (List.range l.length).any (fun k => decide (0 < k) && lowB l k) = true then 8 else if (List.range l.length).any (turnB l) = true then 15 else 0
theorem at_get {l : List Pt} {i : Nat} {p : Pt} (h : l[i]? = some p) : at_ l i = p.v := by unfold at_; rw [getD_of h]
theorem rem_mod {i k n : Nat} (hn : 0 < n) (hn2 : n ≤ 1000000) (hi : i + k ≤ 10000000) : (IntKind.i64.wrap ((i : Int) + (k : Int))).tmod (n : Int) = (((i + k) % n : Nat) : Int) := by
 rw [wrap_i64 (by omega) (by omega), Int.tmod_eq_emod_of_nonneg (by omega)]; rfl
theorem r_cvCheck (A : Option Addr) (c : Nat) (l : List Pt) (hs : Lsm KS l) :
   FnM PP f_narrowsref13_Check [.slice A l.length c] (facts [SlRes A (rowV ptC l)]) (retsV (.int .i64 (chkR l))) := by
 refine FnS.of TBgood mixed h_narrowsref13_Check rfl rfl (Nat.le_of_ble_eq_true rfl) (by simp [SlRes.ok]) ?_
 intro w hw
 have hK : Lsm KK l := fun p hp => (hs p hp).le (by decide)
 have hA0 : 0 < l.length → A.isSome = true := fun h => slres_some (facts_one hw) (by rw [rowV_length ptC_len]; omega)
 conv => whnf
 refine br_split ?_ ?_
 · intro h
   have hlt : l.length < 3 := by have : (l.length : Int) < 3 := of_decide_eq_true h; omega
   conv => whnf
   refine postV_one ?_
   rw [chkR, if_pos hlt]
 intro h
 have hlt : ¬ l.length < 3 := by have : ¬ (l.length : Int) < 3 := of_decide_eq_false h; omega
 conv => whnf
 refine br_split ?_ ?_
 · intro h
   have hgt : 64 < l.length := by have : (l.length : Int) > 64 := of_decide_eq_true h; omega
   conv => whnf
   refine postV_one ?_
   rw [chkR, if_neg hlt, if_pos hgt]
 intro h
 have hgt : ¬ 64 < l.length := by have : ¬ (l.length : Int) > 64 := of_decide_eq_false h; omega
 have hA := hA0 (by omega)
 conv => whnf
 refine CallVC.v (r_cvPoints A c l (by omega) hK).enters (CallV.facts (r_cvPoints A c l (by omega) hK) rfl (fun R hR => hR)) ?_
 rw [chkR, if_neg hlt, if_neg hgt]
 cases hcan : canonL l with
 | false =>
   rw [if_pos rfl]
   conv => whnf
   exact postV_one rfl
 | true =>
 rw [if_neg (by decide)]
 obtain ⟨n, hn⟩ : ∃ n, n = l.length := ⟨_, rfl⟩
 have hget : ∀ k, k < n → ∃ p, l[k]? = some p := fun k hk => ⟨_, List.getElem?_eq_getElem (by omega)⟩
 have hsm : ∀ {k : Nat} {p : Pt}, l[k]? = some p → p.sm KS := fun h => hs _ (List.mem_of_getElem? h)
 conv => whnf
 rw [← hn]
 refine sexec_loop (ι := Nat) (fun j => ⟨[(0, .o (.v (.slice A n c))), (2, .o (.v (.int .i64 0))), (3, .o (.v (.int .i64 n))), (4, .o (.v (.int .i64 j)))], [], [SlRes A (rowV ptC l)]⟩)
   (fun j => (1 ≤ j ∧ j ≤ n) ∧ ∀ k, k < j → (decide (0 < k) && lowB l k) = false) (fun j => n - j) 1 ⟨⟨Nat.le_refl _, by omega⟩, fun k hk => by rw [decide_eq_false (by omega)]; rfl⟩
   (SLe.id ⟨rfl, rfl, rfl, rfl, trivial⟩ trivial (fun R hR => hR)) ?_
 rintro j ⟨⟨hj1, hj⟩, hall⟩
 conv => whnf
 refine br_split ?_ ?_
 · intro h
   have hj2 : j < n := by
     have : (j : Int) < (n : Int) := of_decide_eq_true h
     omega
   obtain ⟨o, ho⟩ := hget 0 (by omega)
   obtain ⟨p, hp⟩ := hget j hj2
   conv => whnf
   refine DrawVC.quiet (by kernel_rfl) ?_
   conv => whnf
   refine ⟨⟨by decide, by omega, hA⟩, ?_⟩
   conv => whnf
   refine LoadVC.elem (A := A) (xs := l) (j := ((0 : Nat) : Int)) ptC ptC_len (List.mem_singleton.2 rfl) rfl (by show 0 < l.length; omega) (by decide) (fun h => by cases h) ?_
   intro o' ho'
   obtain rfl : o' = o := elem_eq ho' ho
   conv => whnf
   refine ⟨⟨by omega, by omega, hA⟩, ?_⟩
   conv => whnf
   refine LoadVC.elem (A := A) (xs := l) (j := (j : Int)) ptC ptC_len (List.mem_singleton.2 rfl) rfl (by rw [Int.toNat_natCast]; omega) (by decide) (fun h => by cases h) ?_
   intro p' hp'
   obtain rfl := elem_eq hp' hp
   conv => whnf
   refine CallVCd.fn (r_vCompare o' p' ((hsm ho).le (by decide)) ((hsm hp).le (by decide))) rfl ?_
   have hlow : lowB l j = decide (cmpV o'.v p'.v ≥ 0) := by rw [lowB, at_get ho, at_get hp]
   conv => whnf
   refine br_split ?_ ?_ <;> intro h
   · conv => whnf
     refine postV_one ?_
     rw [if_pos (List.any_eq_true.2 ⟨j, List.mem_range.2 (by omega), by rw [decide_eq_true (by omega), hlow, Bool.true_and]; exact h⟩)]
   · conv => whnf
     exact ⟨j + 1, ⟨⟨by omega, by omega⟩, fun k hk => by
       by_cases hkj : k < j
       · exact hall k hkj
       · rw [show k = j by omega, hlow, decide_eq_true (show 0 < j by omega), Bool.true_and]; exact h⟩, by omega, SLe.id ⟨rfl, rfl, rfl, some_wrap hj2 (by omega), trivial⟩ trivial (fun R hR => hR)⟩
 intro h
 have hj2 : j = n := by
   have : ¬ (j : Int) < (n : Int) := of_decide_eq_false h
   omega
 rw [if_neg (by
   intro h
   obtain ⟨k, hk, h2⟩ := List.any_eq_true.1 h
   rw [hall k (by have := List.mem_range.1 hk; omega)] at h2
   cases h2)]
 conv => whnf
 refine sexec_loop (ι := Nat) (fun j => ⟨[(0, .o (.v (.slice A n c))), (2, .o (.v (.int .i64 0))), (3, .o (.v (.int .i64 n))), (5, .o (.v (.int .i64 j)))], [], [SlRes A (rowV ptC l)]⟩)
   (fun j => j ≤ n ∧ ∀ k, k < j → turnB l k = false) (fun j => n - j) 0 ⟨Nat.zero_le _, fun k hk => by omega⟩
   (SLe.id ⟨rfl, rfl, rfl, rfl, trivial⟩ trivial (fun R hR => hR)) ?_
 rintro j ⟨hj, hall⟩
 conv => whnf
 refine br_split ?_ ?_
 · intro h
   have hj2 : j < n := by
     have : (j : Int) < (n : Int) := of_decide_eq_true h
     omega
   obtain ⟨o, ho⟩ := hget 0 (by omega)
   obtain ⟨p, hp⟩ := hget j hj2
   have hm1 : (j + 1) % n < n := Nat.mod_lt _ (by omega)
   have hm2 : (j + 2) % n < n := Nat.mod_lt _ (by omega)
   obtain ⟨q, hq⟩ := hget ((j + 1) % n) hm1
   obtain ⟨r, hr⟩ := hget ((j + 2) % n) hm2
   have r1 := rem_mod (i := j) (k := 1) (n := n) (by omega) (by omega) (by omega)
   have r2 := rem_mod (i := j) (k := 2) (n := n) (by omega) (by omega) (by omega)
   have hend : turnB l j = true → (List.range n).any (turnB l) = true := fun h => List.any_eq_true.2 ⟨j, List.mem_range.2 hj2, h⟩
   have hcont : turnB l j = false → ∀ k, k < j + 1 → turnB l k = false := fun h k hk => by
     by_cases hkj : k < j
     · exact hall k hkj
     · rw [show k = j by omega]; exact h
   have hT : turnB l j = (decide (cmpQ (ori p.v q.v r.v) 0 ≤ 0) || (decide (0 < j) && (decide (j + 1 < n) && decide (cmpQ (ori o.v p.v (at_ l (j + 1))) 0 ≤ 0)))) := by
     rw [turnB, ← hn, at_get hp, at_get hq, at_get hr, at_get ho]
   conv => whnf
   refine DrawVC.quiet (by kernel_rfl) ?_
   conv => whnf
   refine ⟨⟨by omega, by omega, hA⟩, ?_⟩
   conv => whnf
   refine LoadVC.elem (A := A) (xs := l) (j := (j : Int)) ptC ptC_len (List.mem_singleton.2 rfl) rfl (by rw [Int.toNat_natCast]; omega) (by decide) (fun h => by cases h) ?_
   intro p' hp'
   obtain rfl := elem_eq hp' hp
   conv => whnf
   refine ⟨by omega, ?_⟩
   conv => whnf
   refine ⟨⟨by show 0 ≤ (IntKind.i64.wrap ((j : Int) + 1)).tmod (n : Int); rw [show ((j : Int) + 1) = (j : Int) + ((1 : Nat) : Int) from rfl, r1]; omega, by show (IntKind.i64.wrap ((j : Int) + 1)).tmod (n : Int) < (n : Int); rw [show ((j : Int) + 1) = (j : Int) + ((1 : Nat) : Int) from rfl, r1]; omega, hA⟩, ?_⟩
   conv => whnf
   refine LoadVC.elem (A := A) (xs := l) (j := (((j + 1) % n : Nat) : Int)) ptC ptC_len (List.mem_singleton.2 rfl) (by show A.map (fun x => x.add (((IntKind.i64.wrap ((j : Int) + ((1 : Nat) : Int))).tmod (n : Int)).toNat * 6)) = _; rw [r1]; rfl) (by rw [Int.toNat_natCast]; omega) (by decide) (fun h => by cases h) ?_
   intro q' hq'
   obtain rfl := elem_eq hq' hq
   conv => whnf
   refine ⟨by omega, ?_⟩
   conv => whnf
   refine ⟨⟨by show 0 ≤ (IntKind.i64.wrap ((j : Int) + 2)).tmod (n : Int); rw [show ((j : Int) + 2) = (j : Int) + ((2 : Nat) : Int) from rfl, r2]; omega, by show (IntKind.i64.wrap ((j : Int) + 2)).tmod (n : Int) < (n : Int); rw [show ((j : Int) + 2) = (j : Int) + ((2 : Nat) : Int) from rfl, r2]; omega, hA⟩, ?_⟩
   conv => whnf
   refine LoadVC.elem (A := A) (xs := l) (j := (((j + 2) % n : Nat) : Int)) ptC ptC_len (List.mem_singleton.2 rfl) (by show A.map (fun x => x.add (((IntKind.i64.wrap ((j : Int) + ((2 : Nat) : Int))).tmod (n : Int)).toNat * 6)) = _; rw [r2]; rfl) (by rw [Int.toNat_natCast]; omega) (by decide) (fun h => by cases h) ?_
   intro r' hr'
   obtain rfl := elem_eq hr' hr
   conv => whnf
   refine CallVCd.fn (r_Orient p' q' r' ((hsm hp).le (by decide)) ((hsm hq).le (by decide)) ((hsm hr).le (by decide))) rfl ?_
   rw [show (q'.v - p'.v).cross (r'.v - p'.v) = ori p'.v q'.v r'.v from rfl]
   conv => whnf
   have hw1 : IntKind.i64.wrap ((j : Int) + 1) = ((j + 1 : Nat) : Int) := wrap_succ hj2 (by omega)
   by_cases c1 : cmpQ (ori p'.v q'.v r'.v) 0 ≤ 0
   · refine br_true (decide_eq_true c1) ?_
     conv => whnf
     refine postV_one ?_
     rw [if_pos (hend (by rw [hT, decide_eq_true c1]; rfl))]
   refine br_false (decide_eq_false c1) ?_
   conv => whnf
   by_cases c2 : 0 < j
   rotate_left
   · refine br_false (decide_eq_false (show ¬ (j : Int) > 0 by omega)) ?_
     conv => whnf
     exact ⟨j + 1, ⟨by omega, hcont (by rw [hT]; rw [decide_eq_false c1, decide_eq_false c2]; rfl)⟩, by omega, SLe.id ⟨rfl, rfl, rfl, some_wrap hj2 (by omega), trivial⟩ trivial (fun R hR => hR)⟩
   refine br_true (decide_eq_true (show (j : Int) > 0 by omega)) ?_
   conv => whnf
   by_cases c3 : j + 1 < n
   rotate_left
   · refine br_false (decide_eq_false (by rw [hw1]; omega)) ?_
     conv => whnf
     exact ⟨j + 1, ⟨by omega, hcont (by rw [hT]; rw [decide_eq_false c1, decide_eq_false c3, Bool.false_and, Bool.and_false]; rfl)⟩, by omega, SLe.id ⟨rfl, rfl, rfl, some_wrap hj2 (by omega), trivial⟩ trivial (fun R hR => hR)⟩
   refine br_true (decide_eq_true (by rw [hw1]; omega)) ?_
   obtain ⟨z, hz⟩ := hget (j + 1) c3
   rw [at_get hz] at hT
   conv => whnf
   refine ⟨⟨by decide, by omega, hA⟩, ?_⟩
   conv => whnf
   refine LoadVC.elem (A := A) (xs := l) (j := ((0 : Nat) : Int)) ptC ptC_len (List.mem_singleton.2 rfl) rfl (by show 0 < l.length; omega) (by decide) (fun h => by cases h) ?_
   intro o' ho'
   obtain rfl : o' = o := elem_eq ho' ho
   conv => whnf
   refine ⟨⟨by omega, by omega, hA⟩, ?_⟩
   conv => whnf
   refine LoadVC.elem (A := A) (xs := l) (j := (j : Int)) ptC ptC_len (List.mem_singleton.2 rfl) rfl (by rw [Int.toNat_natCast]; omega) (by decide) (fun h => by cases h) ?_
   intro p2 hp2
   obtain rfl : p2 = p' := elem_eq hp2 hp
   conv => whnf
   refine ⟨⟨by rw [hw1]; omega, by rw [hw1]; omega, hA⟩, ?_⟩
   conv => whnf
   refine LoadVC.elem (A := A) (xs := l) (j := ((j + 1 : Nat) : Int)) ptC ptC_len (List.mem_singleton.2 rfl) (by show A.map (fun x => x.add ((IntKind.i64.wrap ((j : Int) + 1)).toNat * 6)) = _; rw [hw1]; rfl) (by rw [Int.toNat_natCast]; omega) (by decide) (fun h => by cases h) ?_
   intro z' hz'
   obtain rfl := elem_eq hz' hz
   conv => whnf
   refine CallVCd.fn (r_Orient o' p2 z' ((hsm ho).le (by decide)) ((hsm hp).le (by decide)) ((hsm hz).le (by decide))) rfl ?_
   rw [show (p2.v - o'.v).cross (z'.v - o'.v) = ori o'.v p2.v z'.v from rfl]
   by_cases c4 : cmpQ (ori o'.v p2.v z'.v) 0 ≤ 0
   · conv => whnf
     refine br_true (decide_eq_true c4) ?_
     conv => whnf
     refine postV_one ?_
     rw [if_pos (hend (by rw [hT, decide_eq_true c2, decide_eq_true c3, decide_eq_true c4]; simp))]
   · conv => whnf
     refine br_false (decide_eq_false c4) ?_
     conv => whnf
     exact ⟨j + 1, ⟨by omega, hcont (by rw [hT]; rw [decide_eq_false c1, decide_eq_false c4, Bool.and_false, Bool.and_false]; rfl)⟩, by omega, SLe.id ⟨rfl, rfl, rfl, some_wrap hj2 (by omega), trivial⟩ trivial (fun R hR => hR)⟩
 · intro h
   have hj2 : j = n := by
     have : ¬ (j : Int) < (n : Int) := of_decide_eq_false h
     omega
   rw [if_neg (by
     intro h
     obtain ⟨k, hk, h2⟩ := List.any_eq_true.1 h
     rw [hall k (by have := List.mem_range.1 hk; omega)] at h2
     cases h2)]
   conv => whnf
   exact postV_one rfl
end Go.Sx
end
