/- The law SlabAreas of the program answers true for every input, and its arguments read as before. No conditions. -/
import Derived.Test.YtjhgjniipoemgaaGreatM5
import Derived.Test.YtjhgjniipoemgaaGreatM4
import Derived.Test.YtjhgjniipoemgaaGreatRows
import Derived.WalkKit
import Derived.ProofKit
import Derived.OpenShut
import Derived.ShutString
import Derived.ChangeOld
import Derived.Below
import Derived.Carry
import Derived.Handed
set_option linter.unusedVariables false
set_option linter.unusedSimpArgs false
set_option linter.unusedSectionVars false
section
/- A symbolic executor over loaded Go code: a region whose order is drawn, with one call in it that is not quiet. -/
namespace Go.Sx
open Go Go.RowKit
section
variable {P : Program} {T : TT} {C : Cx} {ro : Option Nat} {n : Nat}
def setAll : List Nat → Array Bool → Array Bool
 | [], l => l
 | k :: r, l => setAll r (l.setIfInBounds k true)
def preFrom (ops : Array Oper) (late : Late) (m : Nat) : List Nat → Array Bool → Bool
 | [], _ => true
 | k :: r, listed => isQ late m k && ((Region.ready .any ops listed).contains k && Region.free .any ops listed k && waits ops late m k listed) && preFrom ops late m r (listed.setIfInBounds k true)
theorem ready_pre {ops : Array Oper} {listed : Array Bool} {k : Nat} {o : Oper} (h0 : ops[k]? = some o) (hrd : k ∈ Region.ready .any ops listed) : ∀ e ∈ o.after, Region.binds .any e = true → listed[e.on]? = some true := by
 obtain ⟨_, o', ho', hall⟩ := mem_ready.1 hrd
 rw [h0] at ho'; cases ho'
 intro e he hbe
 have := hall e he hbe
 rcases Nat.lt_or_ge e.on listed.size with h' | h'
 · simp [h'] at this ⊢; exact this
 · simp [Array.getElem?_eq_none h'] at this
theorem body_pre {ops : Array Oper} {late : Late} {m : Nat} {K Kp : SS → Prop} {fuel : Nat} : ∀ (r : List (Nat × Oper)) (listed : Array Bool) (st : SS), (∀ p ∈ r, ops[p.1]? = some p.2) → preFrom ops late m (r.map (·.1)) listed = true → Closed ops listed →
   dops P T C ops.toList late m r st Kp → (∀ s, Kp s → Closed ops (setAll (r.map (·.1)) listed) → SAny P T C ops late m K fuel (setAll (r.map (·.1)) listed) s) → SAny P T C ops late m K (r.length + fuel) listed st
 | [], listed, st, _, _, hcl, hs, hK => by rw [List.length_nil, Nat.zero_add]; exact hK st hs hcl
 | (k, o) :: r, listed, st, hr, hb, hcl, hs, hK => by
   have h0 : ops[k]? = some o := hr (k, o) (List.mem_cons_self ..)
   have hr' : ∀ p ∈ r, ops[p.1]? = some p.2 := fun p hp => hr p (List.mem_cons_of_mem _ hp)
   simp only [List.map_cons, preFrom, Bool.and_eq_true] at hb
   obtain ⟨⟨hkm, ⟨hready, hfree⟩, hwait⟩, hb⟩ := hb
   simp only [dops] at hs
   rw [hkm] at hs
   simp only [cond_true] at hs
   cases hlo : lateOk late k st o with
   | false => rw [hlo] at hs; exact hs.elim
   | true =>
   rw [hlo] at hs
   simp only [cond_true] at hs
   obtain ⟨hd, x, q, st1, he, hg, hK'⟩ := dsopG_inv hs
   have hspec := Region.free_spec h0 hfree
   have hrd : k ∈ Region.ready .any ops listed := by simpa using hready
   rw [show ((k, o) :: r).length + fuel = (r.length + fuel) + 1 by simp; omega]
   refine SAny.first (q := q) h0 hkm hd (r.length + fuel) listed st ?_ hcl hrd hg ?_
   · intro j oj hoj hne hun hno
     refine ⟨hspec j oj hoj hne hun hno, ?_⟩
     unfold waits at hwait
     rw [List.all_eq_true] at hwait
     have hj := hwait j (List.mem_range.2 (Array.getElem?_eq_some_iff.1 hoj).1)
     rw [hun] at hj
     simp only [Bool.or_eq_true, Bool.false_eq_true, false_or] at hj
     rcases hj with (hj | hj) | hj
     · exact .inl hj
     · exact .inr (.inl ⟨_, hj⟩)
     · obtain ⟨κ, fr, hκ, hm, hfr⟩ := lateFree_mem hj
       unfold lateOk at hlo
       rw [List.all_eq_true] at hlo
       have := hlo _ hm
       simp only [hfr, Bool.not_true, Bool.false_or] at this
       exact .inr (.inr ⟨κ, hκ, this⟩)
   · have := body_pre (K := K) (Kp := Kp) (fuel := fuel) r (listed.setIfInBounds k true) _ hr' hb (hcl.set h0 (ready_pre h0 hrd)) hK' (fun s hs hc => hK s hs hc)
     exact this.eqv (he.symm.upd o x q)
def pick (ops : List Oper) : List Nat → List (Nat × Oper)
 | [] => []
 | i :: r => match nth i ops with
   | some o => (i, o) :: pick ops r
   | none => pick ops r
theorem pick_mem {ops : Array Oper} : ∀ {l : List Nat}, ∀ p ∈ pick ops.toList l, ops[p.1]? = some p.2
 | [], p, hp => by cases hp
 | i :: r, p, hp => by
   unfold pick at hp
   split at hp
   · rename_i o ho
     rcases List.mem_cons.1 hp with rfl | hp
     · rw [nth_eq, Array.getElem?_toList] at ho; exact ho
     · exact pick_mem p hp
   · exact pick_mem p hp
def splitB (ops : Array Oper) (late : Late) (m : Nat) (pre : List Nat) (p q : Nat) (r1 r2 : List Nat) : Bool :=
 let l0 := Array.replicate ops.size false
 let L := setAll pre l0
 preFrom ops late m pre l0 && (((Region.ready .any ops L).contains p && (Region.ready .any ops L).contains q) && ((Region.ready .any ops L).all (fun i => Nat.beq i p || Nat.beq i q))) && (!(isQ late m p) && (isQ late m q && (lateOf late p).isNone)) && (bodyFrom ops late m r1 (L.setIfInBounds p true) && bodyFrom ops late m (p :: r2) (L.setIfInBounds q true))
 && (Nat.beq ((pick ops.toList pre).map (·.1)).length pre.length && Nat.beq (pick ops.toList r1).length r1.length && Nat.beq (pick ops.toList (p :: r2)).length (r2.length + 1) && Nat.beq r1.length (r2.length + 1) && Nat.beq (pre.length + 1 + r1.length) ops.size)
def atOp (ops : List Oper) (i : Nat) (f : Oper → Prop) : Prop := match nth i ops with
 | some o => f o
 | none => False
theorem pick_map {ops : List Oper} : ∀ {l : List Nat}, (pick ops l).length = l.length → (pick ops l).map (·.1) = l
 | [], _ => rfl
 | i :: r, h => by
   have hle : ∀ l : List Nat, (pick ops l).length ≤ l.length := fun l => by
     induction l with
     | nil => exact Nat.le_refl _
     | cons j t ih => unfold pick; split <;> simp <;> omega
   unfold pick at h ⊢
   split
   · rename_i o ho
     rw [ho] at h
     simp only [List.length_cons, Nat.add_right_cancel_iff] at h
     rw [List.map_cons, pick_map h]
   · rename_i ho
     rw [ho] at h
     have := hle r
     simp only [List.length_cons] at h
     omega
theorem WPS.drawS (hT : TTgood P T) (hmix : P.follows .mixedOrders = true) {id : Nat} {ops : Array Oper} {st : SS} {K : SS → Prop} {Q : Exit → SS → Prop} (late : Late) (m : Nat) (pre : List Nat) (p q : Nat) (r1 r2 : List Nat) (hb : splitB ops late m pre p q r1 r2 = true)
   (hs : dops P T C ops.toList late m (pick ops.toList pre) st (fun s => atOp ops.toList p (fun o => sopG P T C ops.toList o s (fun s' => dops P T C ops.toList late m (pick ops.toList r1) s' K)) ∧
     atOp ops.toList q (fun o => dsopG P T C ops.toList o s (fun s' => dops P T C ops.toList late m (pick ops.toList (p :: r2)) s' K)))) (hQ : ∀ s, K s → Q .normal s) : WPS P C (.region id ops true) st Q := ⟨fun a w h => by
 refine wpIn_region_any hmix ?_
 have h' : SR C st a { w with drawn := w.drawn + 1 } := by
   obtain ⟨E, hE⟩ := h
   exact ⟨E, hE.world ⟨rfl, rfl, rfl, Nat.le_refl _, fun _ _ => rfl, Nat.le_succ _⟩⟩
 unfold splitB at hb
 simp only [Bool.and_eq_true] at hb
 obtain ⟨⟨⟨⟨hpre, ⟨hcp, hcq⟩, hall⟩, hp, hq, hlp⟩, hb1, hb2⟩, ⟨⟨⟨hn0, hn1⟩, hn2⟩, hn3⟩, hn4⟩ := hb
 have hn0 := Nat.eq_of_beq_eq_true hn0
 have hn1 := Nat.eq_of_beq_eq_true hn1
 have hn2 := Nat.eq_of_beq_eq_true hn2
 have hn3 := Nat.eq_of_beq_eq_true hn3
 have hn4 := Nat.eq_of_beq_eq_true hn4
 rw [List.length_map] at hn0
 have hp : isQ late m p = false := by simpa using hp
 have hlp : lateOf late p = none := by simpa using hlp
 have hcl0 : Closed ops (Array.replicate ops.size false) := fun k ok hk => by simp [Array.getElem?_replicate] at hk
 have key : SAny P T C ops late m K ((pick ops.toList pre).length + (r1.length + 1)) (Array.replicate ops.size false) st := by
   refine body_pre (pick ops.toList pre) _ st (fun x hx => pick_mem x hx) (by rw [pick_map hn0]; exact hpre) hcl0 hs ?_
   rintro s ⟨hA, hB⟩ hcl
   rw [pick_map hn0] at hcl ⊢
   have hpm : p ∈ Region.ready .any ops (setAll pre (Array.replicate ops.size false)) := by simpa using hcp
   have hqm : q ∈ Region.ready .any ops (setAll pre (Array.replicate ops.size false)) := by simpa using hcq
   unfold atOp at hA hB
   cases hop : nth p ops.toList with
   | none => rw [hop] at hA; exact hA.elim
   | some op =>
   cases hoq : nth q ops.toList with
   | none => rw [hoq] at hB; exact hB.elim
   | some oq =>
   rw [hop] at hA
   rw [hoq] at hB
   simp only at hA hB
   have hop' : ops[p]? = some op := by rw [nth_eq, Array.getElem?_toList] at hop; exact hop
   have hoq' : ops[q]? = some oq := by rw [nth_eq, Array.getElem?_toList] at hoq; exact hoq
   have next1 : ∀ s', dops P T C ops.toList late m (pick ops.toList r1) s' K → SAny P T C ops late m K r1.length ((setAll pre (Array.replicate ops.size false)).setIfInBounds p true) s' := fun s' hs' => by
     have := body_any (P := P) (T := T) (C := C) (K := K) (late := late) (m := m) (pick ops.toList r1) _ s' (fun x hx => pick_mem x hx) (by rw [pick_map hn1]; exact hb1) (hcl.set hop' (ready_pre hop' hpm)) hs'
     rwa [hn1] at this
   have next2 : ∀ s', dops P T C ops.toList late m (pick ops.toList (p :: r2)) s' K → SAny P T C ops late m K r1.length ((setAll pre (Array.replicate ops.size false)).setIfInBounds q true) s' := fun s' hs' => by
     have := body_any (P := P) (T := T) (C := C) (K := K) (late := late) (m := m) (pick ops.toList (p :: r2)) _ s' (fun x hx => pick_mem x hx) (by rw [pick_map (by rw [hn2]; rfl)]; exact hb2) (hcl.set hoq' (ready_pre hoq' hqm)) hs'
     rwa [hn2, ← hn3] at this
   refine ⟨fun h => (by rw [h] at hpm; cases hpm), fun i hi => ?_⟩
   have hi2 : i = p ∨ i = q := by
     rw [List.all_eq_true] at hall
     have := hall i hi
     simp only [Bool.or_eq_true] at this
     exact this.imp Nat.eq_of_beq_eq_true Nat.eq_of_beq_eq_true
   rcases hi2 with rfl | rfl
   · unfold SOp
     simp only [hop']
     rw [if_neg (by rw [hp]; simp)]
     simp only [hlp]
     exact ⟨s, fun _ _ h => h, sopG_mono next1 hA⟩
   · unfold SOp
     simp only [hoq']
     rw [if_pos hq]
     obtain ⟨hd, x, mq, st1, he, hg, hK⟩ := dsopG_inv hB
     exact ⟨hd, x, mq, hg, (next2 _ hK).eqv (he.symm.upd oq x mq)⟩
 have h2 := key.sound (ro := none) (n := 0) hT (Q := lift C Q) (fun st' a' w' hk hr => ⟨st', hr, hQ st' hk⟩) h'
 rw [show (pick ops.toList pre).length + (r1.length + 1) = ops.size by omega] at h2
 simpa using h2⟩
theorem CallVC.fzB {st : SS} {g : FuncId} {args : List SV} {K : SV → SS → Prop} (k : Nat) {xs : List Value} (hx : boxV st k = some xs) (h : ∀ b, CallVC P C g (args.map (SV.mp (AV.fz k b))) (st.fz k (AV.fz k b) (SlRes (some ⟨b, 0, none⟩) xs)) K) : CallVC P C g args st K := by
 refine ⟨(h 0).enters, fun E w hm => ?_⟩
 have hb : ∃ b t m0, lk k st.me = some m0 ∧ E.β k = some b ∧ w.heap[b]? = some (.cells xs.toArray t (0, 0)) := by
   unfold boxV at hx
   split at hx
   · rename_i cs ty hl
     obtain ⟨b, hb, hc⟩ := hm.ent _ _ hl
     rw [allV_real E hx] at hc
     exact ⟨b, ty, _, hl, hb, hc⟩
   · rename_i cs ty hl
     cases hx
     obtain ⟨b, hb, hc⟩ := hm.ent _ _ hl
     exact ⟨b, ty, _, hl, hb, hc⟩
   · cases hx
 obtain ⟨b, t, m0, hl, hb, hc⟩ := hb
 have hm2 := ((MemOk.act (st := st) hm).fz hl (fz_real hb) (SlRes.ok (some ⟨b, 0, none⟩) xs) (.inr ⟨b, 0, rfl, fun j v hj => by rw [cell_of hc, Nat.zero_add]; simpa using hj⟩) (fun b' hb' => by
   obtain ⟨a', h1, h2⟩ := SlB_sub hb'
   cases h1; rw [h2]; exact hb)).mem
 have hargs : args.map (SV.real E) = (args.map (SV.mp (AV.fz k b))).map (SV.real E) := by
   rw [List.map_map]; exact List.map_congr_left fun y _ => (SV.mp_real (fz_real hb) y).symm
 rw [hargs]
 refine ((h b).out E w hm2).mono ?_
 rintro e w' ⟨E', st', x, h1, h2, h3, h4, h5⟩
 refine ⟨E', st', x, h1, h2, h3, fun i sv hi => ?_, h5⟩
 obtain ⟨sv0, h6, h7⟩ := h4 i sv hi
 obtain ⟨y, h8, rfl⟩ := lk_mpT h6
 exact ⟨y, h8, by rw [h7, SV.mp_real (fz_real hb)]⟩
end
end Go.Sx
end
section
set_option maxRecDepth 10000
set_option maxHeartbeats 2000000
namespace Go.Sx
open Go Go.Proofs
theorem c_EqInt (A B : Option Addr) (c d : Nat) (xs ys : List Nat) (hx : xs.length ≤ 1000000) :
   FnM PP f_slices_Equal_sl_int_int [.slice A xs.length c, .slice B ys.length d] (facts [SlRes A (rowV intC xs), SlRes B (rowV intC ys)]) (retsV (.bool (decide (xs = ys)))) := by
 refine FnS.of TBgood mixed h_slices_Equal_sl_int_int rfl rfl (Nat.le_of_ble_eq_true rfl) (fun R hR => by simp only [List.mem_cons, List.not_mem_nil, or_false] at hR; rcases hR with rfl | rfl <;> exact SlRes.ok _ _) ?_
 intro w hw
 have hA : 0 < xs.length → A.isSome = true := fun h => slres_some (facts_two hw).1 (by rw [rowV_length intC_len]; omega)
 have hB : 0 < ys.length → B.isSome = true := fun h => slres_some (facts_two hw).2 (by rw [rowV_length intC_len]; omega)
 conv => whnf
 by_cases hl : xs.length = ys.length
 rotate_left
 · refine br_true (show (!((xs.length : Int) == (ys.length : Int))) = true by rw [Bool.not_eq_true', beq_eq_false_iff_ne]; omega) ?_
   conv => whnf
   refine postV_one (congrArg Value.bool ?_)
   rw [decide_eq_false (fun h => hl (by rw [h]))]
 refine br_false (show (!((xs.length : Int) == (ys.length : Int))) = false by rw [Bool.not_eq_false', beq_iff_eq]; omega) ?_
 conv => whnf
 refine sexec_loop (ι := Nat) (fun i => ⟨[(0, .o (.v (.slice A xs.length c))), (1, .o (.v (.slice B ys.length d))), (12, .o (.v (.int .i64 xs.length))), (13, .o (.v (.int .i64 i)))], [], [SlRes A (rowV intC xs), SlRes B (rowV intC ys)]⟩)
   (fun i => i ≤ xs.length ∧ xs.take i = ys.take i) (fun i => xs.length - i) 0 ⟨Nat.zero_le _, rfl⟩
   (SLe.id ⟨rfl, rfl, rfl, rfl, trivial⟩ trivial (fun R hR => hR)) ?_
 rintro i ⟨hi0, hi1⟩
 conv => whnf
 by_cases hi : i < xs.length
 rotate_left
 · refine br_false (decide_eq_false (show ¬ (i : Int) < (xs.length : Int) by omega)) ?_
   rw [List.take_of_length_le (by omega), List.take_of_length_le (by omega)] at hi1
   conv => whnf
   exact postV_one (congrArg Value.bool (decide_eq_true hi1).symm)
 refine br_true (decide_eq_true (show (i : Int) < (xs.length : Int) by omega)) ?_
 obtain ⟨x, hx1⟩ : ∃ x, xs[i]? = some x := ⟨_, List.getElem?_eq_getElem hi⟩
 obtain ⟨y, hy1⟩ : ∃ y, ys[i]? = some y := ⟨_, List.getElem?_eq_getElem (by omega)⟩
 conv => whnf
 refine DrawVC.quiet (by kernel_rfl) ?_
 conv => whnf
 refine ⟨⟨by omega, by omega, hA (by omega)⟩, ?_⟩
 conv => whnf
 refine LoadVC.elem (A := A) (xs := xs) (j := (i : Int)) intC intC_len (List.mem_cons_self ..) rfl (by rw [Int.toNat_natCast]; omega) (by decide) (fun _ => rfl) ?_
 intro x' hx'
 obtain rfl : x' = x := by rw [Int.toNat_natCast, hx1] at hx'; exact (Option.some.inj hx').symm
 conv => whnf
 refine ⟨⟨by omega, by omega, hB (by omega)⟩, ?_⟩
 conv => whnf
 refine LoadVC.elem (A := B) (xs := ys) (j := (i : Int)) intC intC_len (List.mem_cons_of_mem _ (List.mem_cons_self ..)) rfl (by rw [Int.toNat_natCast]; omega) (by decide) (fun _ => rfl) ?_
 intro y' hy'
 obtain rfl : y' = y := by rw [Int.toNat_natCast, hy1] at hy'; exact (Option.some.inj hy').symm
 conv => whnf
 by_cases hxy : x' = y'
 rotate_left
 · refine br_true (show (!((x' : Int) == (y' : Int))) = true by rw [Bool.not_eq_true', beq_eq_false_iff_ne]; omega) ?_
   conv => whnf
   refine postV_one (congrArg Value.bool (decide_eq_false (fun h => hxy ?_)).symm)
   rw [h] at hx1; rw [hx1] at hy1; exact Option.some.inj hy1
 refine br_false (show (!((x' : Int) == (y' : Int))) = false by rw [Bool.not_eq_false', beq_iff_eq]; omega) ?_
 conv => whnf
 exact ⟨i + 1, ⟨by omega, by rw [take_snoc' hx1, take_snoc' hy1, hi1, hxy]⟩, by show xs.length - (i + 1) < xs.length - i; omega, SLe.id ⟨rfl, rfl, rfl, some_wrap hi (by omega), trivial⟩ trivial (fun S hS => hS)⟩
deriving instance DecidableEq for Pc
abbrev awE : List (V × V) := [(⟨1, 1⟩, ⟨3, 3⟩)]
abbrev awP : List Pc := [⟨⟨1, 1⟩, ⟨3, 3⟩, 0⟩]
theorem awPcs : pcsL ⟨0, 0⟩ ⟨4, 4⟩ awE = awP := by decide +kernel
theorem awX : xsL ⟨0, 0⟩ ⟨4, 4⟩ awP = [0, 1, 3, 4] := by decide +kernel
theorem awL : ([0, 1, 3, 4] : List Rat).map (ysL ⟨0, 0⟩ ⟨4, 4⟩ awP) = [[0, 4], [0, 1, 4], [0, 3, 4], [0, 4]] := by decide +kernel
theorem awS : stripsL (strpL ⟨0, 0⟩ ⟨4, 4⟩ awP) [0, 1, 3, 4] = [[], [0], []] := by decide +kernel
structure AwS (s : Sl) : Prop where
 lo : s.lo = ⟨0, 0⟩
 hi : s.hi = ⟨4, 4⟩
 sg : s.sg.xs = awE
 is : s.is
theorem AwS.xs {s : Sl} (h : AwS s) : s.X.xs = [0, 1, 3, 4] ∧ s.L.xs.map (·.xs) = [[0, 4], [0, 1, 4], [0, 3, 4], [0, 4]] ∧ s.S.xs.map (·.xs) = [[], [0], []] := by
 obtain ⟨h1, h2, h3, h4, h5, h6⟩ := h
 rw [h1, h2, h3, awPcs, awX] at h4
 rw [h1, h2, h3, awPcs, h4, awL] at h5
 rw [h1, h2, h3, awPcs, h4, awS] at h6
 exact ⟨h4, h5, h6⟩
theorem AwS.cnt {s : Sl} (h : AwS s) (k c : Nat) : cntK s k c = (match k with | 0 => [2, 3, 3, 2].getD c 0 | 1 => [1, 2, 2, 1].getD c 0 | 2 => [2, 3, 2].getD c 0 | _ => [1, 2, 1].getD c 0) := by
 obtain ⟨hX, hL, hS⟩ := h.xs
 have lX : s.X.xs.length = 4 := by rw [hX]; rfl
 have lL : s.L.xs.length = 4 := by have := congrArg List.length hL; simpa using this
 have lS : s.S.xs.length = 3 := by have := congrArg List.length hS; simpa using this
 have mL : s.L.xs.map (fun x => (x.xs.length : Int)) = [2, 3, 3, 2] := by rw [show s.L.xs.map (fun x => (x.xs.length : Int)) = (s.L.xs.map (·.xs)).map (fun l => (l.length : Int)) by rw [List.map_map]; rfl, hL]; rfl
 have mS : s.S.xs.map (fun x => (x.xs.length : Int)) = [0, 1, 0] := by rw [show s.S.xs.map (fun x => (x.xs.length : Int)) = (s.S.xs.map (·.xs)).map (fun l => (l.length : Int)) by rw [List.map_map]; rfl, hS]; rfl
 have line : ∀ d, lineN s d c = if c < 4 then ([2, 3, 3, 2] : List Int).getD c 0 - d else 0 := fun d => by
   unfold lineN; rw [lX, lL, mL]
   by_cases hc : c < 4
   · rw [if_pos ⟨hc, hc⟩, if_pos hc]
   · rw [if_neg (fun h => hc h.1), if_neg hc]
 have strip : ∀ d, stripN s d c = if c < 3 then ([0, 1, 0] : List Int).getD c 0 + d else 0 := fun d => by
   unfold stripN; rw [lX, lL, lS, mS]
   by_cases hc : c < 3
   · rw [if_pos ⟨hc, by omega, by omega⟩, if_pos hc]
   · rw [if_neg (fun h => hc h.1), if_neg hc]
 have big : ∀ {l : List Int}, l.length ≤ c → l.getD c 0 = 0 := fun h => by rw [List.getD_eq_getElem?_getD, List.getElem?_eq_none h]; rfl
 match k with
 | 0 => show lineN s 0 c = _; rw [line]; match c with | 0 => rfl | 1 => rfl | 2 => rfl | 3 => rfl | c + 4 => rw [if_neg (by omega)]; rfl
 | 1 => show lineN s 1 c = _; rw [line]; match c with | 0 => rfl | 1 => rfl | 2 => rfl | 3 => rfl | c + 4 => rw [if_neg (by omega)]; rfl
 | 2 => show stripN s 2 c = _; rw [strip]; match c with | 0 => rfl | 1 => rfl | 2 => rfl | c + 3 => rw [if_neg (by omega)]; rfl
 | k + 3 => show stripN s 1 c = _; rw [strip]; match c with | 0 => rfl | 1 => rfl | 2 => rfl | c + 3 => rw [if_neg (by omega)]; rfl
theorem AwS.small {s : Sl} (h : AwS s) : s.small := by
 obtain ⟨hX, hL, hS⟩ := h.xs
 have lX : s.X.xs.length = 4 := by rw [hX]; rfl
 have lL : s.L.xs.length = 4 := by have := congrArg List.length hL; simpa using this
 have lS : s.S.xs.length = 3 := by have := congrArg List.length hS; simpa using this
 refine ⟨by omega, by omega, by omega, fun l hl => ?_, fun l hl => ?_, by rw [h.sg]; decide⟩
 · have : l.xs ∈ s.L.xs.map (·.xs) := List.mem_map.2 ⟨l, hl, rfl⟩
   rw [hL] at this
   revert this; generalize l.xs = t; intro this
   simp only [List.mem_cons, List.not_mem_nil, or_false] at this
   rcases this with rfl | rfl | rfl | rfl <;> decide
 · have : l.xs ∈ s.S.xs.map (·.xs) := List.mem_map.2 ⟨l, hl, rfl⟩
   rw [hS] at this
   revert this; generalize l.xs = t; intro this
   simp only [List.mem_cons, List.not_mem_nil, or_false] at this
   rcases this with rfl | rfl | rfl <;> decide
theorem AwS.sz {s : Sl} (h : AwS s) : s.sz := by
 refine ⟨fun e he => ?_, ?_, ?_⟩
 · rw [h.sg, List.mem_singleton] at he
   subst he
   exact ⟨⟨⟨⟨by decide, by decide⟩, ⟨by decide, by decide⟩⟩, ⟨⟨by decide, by decide⟩, ⟨by decide, by decide⟩⟩⟩, by decide⟩
 · rw [h.lo]; exact ⟨⟨by decide, by decide⟩, ⟨by decide, by decide⟩⟩
 · rw [h.hi]; exact ⟨⟨by decide, by decide⟩, ⟨by decide, by decide⟩⟩
def awCells : List Cel := [⟨0, 0, 0⟩, ⟨0, 0, 1⟩, ⟨1, 0, 0⟩, ⟨2, 0, 0⟩, ⟨2, 0, 1⟩, ⟨3, 0, 0⟩, ⟨0, 1, 0⟩, ⟨0, 1, 1⟩, ⟨0, 1, 2⟩, ⟨1, 1, 0⟩, ⟨1, 1, 1⟩, ⟨2, 1, 0⟩, ⟨2, 1, 1⟩, ⟨2, 1, 2⟩, ⟨3, 1, 0⟩, ⟨3, 1, 1⟩,
 ⟨0, 2, 0⟩, ⟨0, 2, 1⟩, ⟨0, 2, 2⟩, ⟨1, 2, 0⟩, ⟨1, 2, 1⟩, ⟨2, 2, 0⟩, ⟨2, 2, 1⟩, ⟨3, 2, 0⟩, ⟨0, 3, 0⟩, ⟨0, 3, 1⟩, ⟨1, 3, 0⟩]
theorem AwS.cells {s : Sl} (h : AwS s) : cellsL s = awCells := by
 have hk : ∀ k c, kindL s k c = (List.range (match k with | 0 => [2, 3, 3, 2].getD c 0 | 1 => [1, 2, 2, 1].getD c 0 | 2 => [2, 3, 2].getD c 0 | _ => ([1, 2, 1].getD c 0 : Int)).toNat).map fun r => ⟨k, c, r⟩ := fun k c => by rw [kindL, h.cnt]
 have hX : s.X.xs.length = 4 := by rw [h.xs.1]; rfl
 rw [cellsL, hX]
 simp only [colsL, colF, hk]
 decide +kernel
theorem AwS.cen {s : Sl} (h : AwS s) : cenP s ⟨3, 1, 1⟩ = ⟨2, 3⟩ := by
 obtain ⟨hX, hL, hS⟩ := h.xs
 have lS : s.S.xs.length = 3 := by have := congrArg List.length hS; simpa using this
 obtain ⟨t, ht⟩ : ∃ t, s.S.xs[1]? = some t := ⟨_, List.getElem?_eq_getElem (by omega)⟩
 have htx : t.xs = [0] := by
   have := congrArg (fun l : List (List Nat) => l[1]?) hS
   simp only [List.getElem?_map, ht, Option.map_some] at this
   exact Option.some.inj this
 have hon : ∀ r x, onP s t r x = ⟨x, ([0, (hgtE ⟨1, 1⟩ ⟨3, 3⟩ x).1, 4] : List Rat).getD r 0⟩ := fun r x => by
   rw [onP, hgtsL, htx, h.lo, h.hi]
   show (⟨x, ([0, hgtS s x 0, 4] : List Rat).getD r 0⟩ : V) = _
   rw [hgtS, h.sg]; rfl
 simp only [cenP]
 rw [hX, getD_of' ht, hon, hon]
 decide +kernel

end Go.Sx
end
section
set_option maxRecDepth 10000
set_option maxHeartbeats 2000000
namespace Go.Sx
open Go Go.Proofs
def cless (a b : Cel) : Prop := a.c < b.c ∨ (a.c = b.c ∧ (a.k < b.k ∨ (a.k = b.k ∧ a.r < b.r)))
instance (a b : Cel) : Decidable (cless a b) := inferInstanceAs (Decidable (_ ∨ _))
theorem kindL_mem {s : Sl} {k c : Nat} {x : Cel} (h : x ∈ kindL s k c) : x.k = k ∧ x.c = c ∧ (x.r : Int) < cntK s k c := by
 obtain ⟨r, hr, rfl⟩ := List.mem_map.1 h
 refine ⟨rfl, rfl, ?_⟩
 have := List.mem_range.1 hr
 show (r : Int) < _
 omega
theorem colF_mem {s : Sl} {c : Nat} {x : Cel} : ∀ {j : Nat}, j ≤ 4 → x ∈ colF s c j → x.c = c ∧ 4 - j ≤ x.k ∧ x.k < 4 ∧ (x.r : Int) < cntK s x.k c
 | 0, _, h => by cases h
 | j + 1, hj, h => by
   rcases List.mem_append.1 h with h | h
   · obtain ⟨h1, h2, h3⟩ := kindL_mem h
     exact ⟨h2, by omega, by omega, by rw [h1]; exact h3⟩
   · obtain ⟨h1, h2, h3⟩ := colF_mem (j := j) (by omega) h
     exact ⟨h1, by omega, h3⟩
theorem colsL_mem {s : Sl} {x : Cel} : ∀ {n c : Nat}, x ∈ colsL s c n → c ≤ x.c ∧ x.c < c + n ∧ x.k < 4 ∧ (x.r : Int) < cntK s x.k x.c
 | 0, c, h => by cases h
 | n + 1, c, h => by
   rcases List.mem_append.1 h with h | h
   · obtain ⟨h1, h2, h3, h4⟩ := colF_mem (Nat.le_refl 4) h
     exact ⟨by omega, by omega, h3, by rw [h1]; exact h4⟩
   · obtain ⟨h1, h2, h3⟩ := colsL_mem h
     exact ⟨by omega, by omega, h3⟩
theorem cellsL_mem {s : Sl} {x : Cel} (h : x ∈ cellsL s) : x.c < s.X.xs.length ∧ x.k < 4 ∧ (x.r : Int) < cntK s x.k x.c := by
 obtain ⟨_, h2, h3⟩ := colsL_mem h
 exact ⟨by omega, h3⟩
def sgn (k : Nat) : Int := if k = 0 ∨ k = 3 then 1 else -1
theorem Sl.is_len {s : Sl} (h : s.is) : s.L.xs.length = s.X.xs.length ∧ s.S.xs.length = s.X.xs.length - 1 ∧ 0 < s.X.xs.length := by
 obtain ⟨h1, h2, h3⟩ := h
 have e2 := congrArg List.length h2
 have e3 := congrArg List.length h3
 rw [stripsL_len] at e3
 simp only [List.length_map] at e2 e3
 refine ⟨e2, e3, ?_⟩
 rw [h1]
 have : s.lo.x ∈ xsL s.lo s.hi (pcsL s.lo s.hi s.sg.xs) := ascL_mem.2 (List.mem_cons_self ..)
 exact List.length_pos_of_mem this
theorem Sl.is_line {s : Sl} (h : s.is) {l : Ln Rat} (hl : l ∈ s.L.xs) : ∃ x, l.xs = ysL s.lo s.hi (pcsL s.lo s.hi s.sg.xs) x := by
 have : l.xs ∈ s.L.xs.map (·.xs) := List.mem_map.2 ⟨l, hl, rfl⟩
 rw [h.2.1] at this
 obtain ⟨x, _, hx⟩ := List.mem_map.1 this
 exact ⟨x, hx.symm⟩
theorem stripsL_mem {f : Rat → Rat → List Nat} {t : List Nat} : ∀ {l : List Rat}, t ∈ stripsL f l → ∃ x y, t = f x y
 | [], h => by cases h
 | [_], h => by cases h
 | x :: y :: r, h => by
   rcases List.mem_cons.1 h with rfl | h
   · exact ⟨x, y, rfl⟩
   · exact stripsL_mem h
theorem Sl.is_strip {s : Sl} (h : s.is) {l : Ln Nat} (hl : l ∈ s.S.xs) : ∃ x y, l.xs = strpL s.lo s.hi (pcsL s.lo s.hi s.sg.xs) x y := by
 have : l.xs ∈ s.S.xs.map (·.xs) := List.mem_map.2 ⟨l, hl, rfl⟩
 rw [h.2.2] at this
 exact stripsL_mem this
theorem ysL_len {lo hi : V} {ps : List Pc} {x : Rat} : (ysL lo hi ps x).length ≤ 2 + 3 * ps.length := by
 refine Nat.le_trans (ascL_len _) ?_
 have := ord_len x ps
 simp only [List.length_cons]; omega
theorem strpL_len {lo hi : V} {ps : List Pc} {l r : Rat} : (strpL lo hi ps l r).length ≤ ps.length := by
 refine Nat.le_trans (fstL_len _) ?_
 rw [(sortC_perm _).length_eq]
 exact List.length_filterMap_le _ _
theorem pcsL_len {lo hi : V} {E : List (V × V)} : (pcsL lo hi E).length ≤ E.length := pcsF_len ..
theorem cntK_le {s : Sl} {B : Nat} (hL : ∀ l ∈ s.L.xs, l.xs.length ≤ B) (hS : ∀ l ∈ s.S.xs, l.xs.length ≤ B) (k c : Nat) : cntK s k c ≤ B + 2 := by
 have h1 : ∀ d, lineN s d c ≤ B + 2 := fun d => by
   unfold lineN; split
   · rename_i h
     have := hL _ (List.getElem_mem h.1)
     rw [List.getD_eq_getElem?_getD, List.getElem?_map, List.getElem?_eq_getElem h.1]
     simp only [Option.map_some, Option.getD_some]; omega
   · omega
 have h2 : ∀ d, d ≤ 2 → stripN s d c ≤ B + 2 := fun d hd => by
   unfold stripN; split
   · rename_i h
     have := hS _ (List.getElem_mem h.1)
     rw [List.getD_eq_getElem?_getD, List.getElem?_map, List.getElem?_eq_getElem h.1]
     simp only [Option.map_some, Option.getD_some]; omega
   · omega
 match k with
 | 0 => exact h1 0
 | 1 => exact h1 1
 | 2 => exact h2 2 (by omega)
 | _ + 3 => exact h2 1 (by omega)
theorem colF_len {s : Sl} {B c : Nat} (h : ∀ k, cntK s k c ≤ B) : ∀ j, (colF s c j).length ≤ j * B
 | 0 => by simp [colF]
 | j + 1 => by
   have h1 := colF_len h j
   have h2 := h (3 - j)
   rw [colF, List.length_append, Nat.succ_mul]
   simp only [kindL, List.length_map, List.length_range]
   omega
theorem colsL_len {s : Sl} {B : Nat} (h : ∀ k c, cntK s k c ≤ B) : ∀ n c, (colsL s c n).length ≤ n * (4 * B)
 | 0, c => by simp [colsL]
 | n + 1, c => by
   have h1 := colsL_len h n (c + 1)
   have h2 := colF_len (c := c) (fun k => h k c) 4
   rw [colsL, List.length_append, Nat.succ_mul]
   omega
theorem Sl.is_small {s : Sl} (h : s.is) (hE : s.sg.xs.length ≤ 8) : s.small ∧ (cellsL s).length ≤ 1000000000 := by
 obtain ⟨e1, e2, e3⟩ := Sl.is_len h
 have hp : (pcsL s.lo s.hi s.sg.xs).length ≤ 8 := Nat.le_trans pcsL_len hE
 have hX : s.X.xs.length ≤ 6418 := by
   rw [h.1]
   refine Nat.le_trans (ascL_len _) ?_
   have := absG_len (pcsL s.lo s.hi s.sg.xs) (pcsL s.lo s.hi s.sg.xs).length (by omega)
   simp only [List.length_cons]; omega
 have hL : ∀ l ∈ s.L.xs, l.xs.length ≤ 26 := fun l hl => by
   obtain ⟨x, hx⟩ := Sl.is_line h hl
   rw [hx]; exact Nat.le_trans ysL_len (by omega)
 have hS : ∀ l ∈ s.S.xs, l.xs.length ≤ 26 := fun l hl => by
   obtain ⟨x, y, hx⟩ := Sl.is_strip h hl
   rw [hx]; exact Nat.le_trans strpL_len (by omega)
 refine ⟨⟨by omega, by omega, by omega, fun l hl => Nat.le_trans (hL l hl) (by decide), fun l hl => Nat.le_trans (hS l hl) (by decide), by omega⟩, ?_⟩
 have hc := colsL_len (B := 28) (fun k c => cntK_le hL hS k c) s.X.xs.length 0
 refine Nat.le_trans hc ?_
 exact Nat.le_trans (Nat.mul_le_mul_right _ hX) (by decide)
theorem ysL_sz {lo hi : V} {ps : List Pc} {x : Rat} (hlo : SzV K0 lo) (hhi : SzV K0 hi) (hps : PcsOk ps) (hx : Sz KX x) : ∀ y ∈ ysL lo hi ps x, Sz 200000 y := fun y hy => by
 rw [ysL, ascL_mem] at hy
 rcases List.mem_cons.1 hy with rfl | hy
 · exact hlo.2.le (by decide)
 rcases List.mem_cons.1 hy with rfl | hy
 · exact hhi.2.le (by decide)
 obtain ⟨p, hp, hy⟩ := List.mem_flatMap.1 hy
 exact ordP_sz (hps p hp).1 hx y hy
theorem Sl.is_szX {s : Sl} (h : s.is) (hz : s.sz) : s.szX := by
 have hps : PcsOk (pcsL s.lo s.hi s.sg.xs) := pcsL_ok hz.lo hz.hi (fun e he => (hz.sg e he).1)
 have hX : ∀ x ∈ s.X.xs, Sz KX x := fun x hx => by rw [h.1] at hx; exact xsL_sz hz.lo hz.hi hps x hx
 refine ⟨hX, fun l hl => ?_⟩
 have : l.xs ∈ s.L.xs.map (·.xs) := List.mem_map.2 ⟨l, hl, rfl⟩
 rw [h.2.1] at this
 obtain ⟨x, hx, e⟩ := List.mem_map.1 this
 rw [← e]
 exact ysL_sz hz.lo hz.hi hps (hX x hx)
end Go.Sx
end
section
set_option maxRecDepth 10000
set_option maxHeartbeats 2000000
namespace Go.Sx
open Go Go.Proofs
theorem Sl.F_F' {s : Sl} {R : Res} (h : R ∈ s.F) : R ∈ s.F' ∨ R = s.sg.R sgq := by
 rcases List.mem_append.1 h with h | h
 · exact .inl (List.mem_append_left _ h)
 · simp only [List.mem_cons, List.not_mem_nil, or_false] at h
   rcases h with rfl | rfl | rfl | rfl
   · exact .inl (List.mem_append_right _ (by simp))
   · exact .inl (List.mem_append_right _ (by simp))
   · exact .inl (List.mem_append_right _ (by simp))
   · exact .inr rfl
theorem F'_ok {lo hi : V} {E : List (V × V)} {A : Option Addr} {c : Nat} (s : BuildOk lo hi E A c) : ∀ R ∈ s.1.F', R.ok := fun R hR => by
 rcases List.mem_append.1 hR with hR | hR
 · rcases List.mem_append.1 hR with hR | hR
   · obtain ⟨l, _, rfl⟩ := List.mem_map.1 hR; exact SlRes.ok _ _
   · obtain ⟨l, _, rfl⟩ := List.mem_map.1 hR; exact SlRes.ok _ _
 · simp only [List.mem_cons, List.not_mem_nil, or_false] at hR
   rcases hR with rfl | rfl | rfl <;> exact SlRes.ok _ _
theorem pt_V {a b : Int} {x y : Rat} (hx : (a : Rat) = x) (hy : (b : Rat) = y) : pV (pt a b) = pV (PQ ⟨x, y⟩) := by rw [← hx, ← hy]
abbrev zP : List Value := [.bool false, .string ⟨#[]⟩, .string ⟨#[]⟩, .bool false, .string ⟨#[]⟩, .string ⟨#[]⟩]
theorem boxC_aw : bxV ⟨PQ ⟨0, 0⟩, PQ ⟨4, 4⟩⟩ = .agg ⟨zP ++ ptC (PQ ⟨4, 4⟩)⟩ := by
 rw [show PQ (⟨0, 0⟩ : V) = ⟨Q 0, Q 0⟩ from rfl, Q_zero]; rfl
def cn (i k : Nat) : Nat := (awCells.take i).countP (fun x => x.k == k)
theorem cn_succ {i : Nat} {x : Cel} (h : awCells[i]? = some x) (k : Nat) : cn (i + 1) k = cn i k + (if x.k = k then 1 else 0) := by
 rw [cn, take_snoc' h, List.countP_append, cn]
 congr 1
 by_cases hk : x.k = k <;> simp [hk]
theorem cn_le (i k : Nat) : cn i k ≤ 27 := by
 refine Nat.le_trans (List.countP_le_length) ?_
 rw [List.length_take]; exact Nat.min_le_right _ _
theorem awK : ∀ x ∈ awCells, x.k < 4 := by decide
theorem c_awake16 : Fn PP f_narrowslaw16_awake [] (.bool true) := by
 have h44 := c_pt 4 4 (by decide) (by decide)
 have h11 := c_pt 1 1 (by decide) (by decide)
 have h33 := c_pt 3 3 (by decide) (by decide)
 have h23 := c_pt 2 3 (by decide) (by decide)
 rw [pt_V (x := 4) (y := 4) (by decide) (by decide)] at h44
 rw [pt_V (x := 1) (y := 1) (by decide) (by decide)] at h11
 rw [pt_V (x := 3) (y := 3) (by decide) (by decide)] at h33
 rw [pt_V (x := 2) (y := 3) (by decide) (by decide)] at h23
 have h := FnM.ofS (re := []) (R := retsV (.bool true)) (post := postV (.bool true)) TBgood mixed h_narrowslaw16_awake rfl rfl (Nat.le_of_ble_eq_true rfl) (by simp) (fun w l st E w' hp hm => postV_ok hp hm) (vs := []) ?_
 · exact ⟨h.enters, fun w _ => h.calls w (by simp [facts])⟩
 intro w _
 refine WPS.peel TBgood mixed ?_
 conv => whnf
 refine WPS.peel TBgood mixed ?_
 conv => whnf
 refine cf h44 ?_
 conv => whnf
 refine WPS.seq ?_
 have hbuild : ∀ b : Nat, FnM PP f_slab_Build [.agg ⟨zP ++ ptC (PQ ⟨4, 4⟩)⟩, .slice (some ⟨b, 0, none⟩) 1 1] (facts [SlRes (some ⟨b, 0, none⟩) (rowV sgq awE)]) (retsE (ι := BuildOk ⟨0, 0⟩ ⟨4, 4⟩ awE (some ⟨b, 0, none⟩) 1) (fun s => .tuple #[s.1.V, .int .i64 0]) (fun s => s.1.F')) := fun b => by
   rw [← boxC_aw]
   exact c_BuildOk ⟨0, 0⟩ ⟨4, 4⟩ (some ⟨b, 0, none⟩) 1 awE ⟨⟨by decide, by decide⟩, ⟨by decide, by decide⟩⟩ ⟨⟨by decide, by decide⟩, ⟨by decide, by decide⟩⟩ (by decide) (by decide) (fun e he => by
     rw [List.mem_singleton] at he
     subst he
     exact ⟨⟨⟨⟨by decide, by decide⟩, ⟨by decide, by decide⟩⟩, ⟨⟨by decide, by decide⟩, ⟨by decide, by decide⟩⟩⟩, by decide⟩) (by decide)
 refine WPS.drawS TBgood mixed [(10, 2, [8])] (10 + 4294967296 * 6) [0, 1, 2, 3, 4] 5 9 [6, 7, 8, 9, 10, 11] [6, 7, 8, 10, 11] (K := fun s => ∃ d : Sl, AwS d ∧ SLe ⟨w, [], b_narrowslaw16_awake.ntmps⟩ s ⟨[(0, .o (.v (.bool false))), (2, .o (.p 2 0)), (3, .o (.v (.int .i64 0)))], [(2, slM d)], d.F⟩) (by kernel_rfl) ?_ ?_
 · conv => whnf
   refine cd h11 ?_
   conv => whnf
   refine cd h33 ?_
   conv => whnf
   constructor
   · conv => whnf
     refine CallVC.fzB 16 rfl (fun b => ?_)
     have hb := hbuild b
     refine CallVC.e hb.enters (CallV.facts hb rfl (fun R hR => by rw [List.mem_singleton.1 hR]; exact List.mem_cons_self ..)) (fun i => F'_ok i) (fun d _ => ?_)
     obtain ⟨d, e1, e2, e3, e4, e5⟩ := d
     have e6 : Ln.R sgq d.sg = SlRes (some ⟨b, 0, none⟩) (rowV sgq awE) := by rw [e3]; rfl
     conv => whnf
     refine ⟨d, ⟨e1, e2, by rw [e3], e4⟩, SLe.id ⟨rfl, rfl, rfl, trivial⟩ ⟨⟨_, rfl, .refl _⟩, trivial⟩ (fun R hR => ?_)⟩
     rcases Sl.F_F' hR with h | h
     · exact List.mem_append_left _ h
     · rw [h, e6]; exact List.mem_append_right _ (List.mem_cons_self ..)
   · conv => whnf
     refine CallVC.fzB 16 rfl (fun b => ?_)
     have hb := hbuild b
     refine CallVC.e hb.enters (CallV.facts hb rfl (fun R hR => by rw [List.mem_singleton.1 hR]; exact List.mem_cons_self ..)) (fun i => F'_ok i) (fun d _ => ?_)
     obtain ⟨d, e1, e2, e3, e4, e5⟩ := d
     have e6 : Ln.R sgq d.sg = SlRes (some ⟨b, 0, none⟩) (rowV sgq awE) := by rw [e3]; rfl
     conv => whnf
     refine ⟨d, ⟨e1, e2, by rw [e3], e4⟩, SLe.id ⟨rfl, rfl, rfl, trivial⟩ ⟨⟨_, rfl, .refl _⟩, trivial⟩ (fun R hR => ?_)⟩
     rcases Sl.F_F' hR with h | h
     · exact List.mem_append_left _ h
     · rw [h, e6]; exact List.mem_append_right _ (List.mem_cons_self ..)
 rintro s1 ⟨d, hd, hle⟩
 refine WPS.le ?_ hle
 obtain ⟨hX, hL, hS⟩ := hd.xs
 have lX : d.X.xs.length = 4 := by rw [hX]; rfl
 have lL : d.L.xs.length = 4 := by have := congrArg List.length hL; simpa using this
 have lS : d.S.xs.length = 3 := by have := congrArg List.length hS; simpa using this
 obtain ⟨t, ht⟩ : ∃ t, d.S.xs[1]? = some t := ⟨_, List.getElem?_eq_getElem (by omega)⟩
 have htx : t.xs = [0] := by
   have := congrArg (fun l : List (List Nat) => l[1]?) hS
   simp only [List.getElem?_map, ht, Option.map_some] at this
   exact Option.some.inj this
 refine WPS.pure (p := d.S.A.isSome = true) (fun w' hR => slres_some (hR _ Sl.F_S) (by rw [rowV_length Ln.C_len]; omega)) (fun hAS => ?_)
 refine WPS.peel TBgood mixed ?_
 conv => whnf
 refine br_false (show ((d.X.xs.length : Int) != 4) = false by rw [lX]; rfl) ?_
 conv => whnf
 refine br_false (show ((d.L.xs.length : Int) != 4) = false by rw [lL]; rfl) ?_
 conv => whnf
 refine br_false (show ((d.S.xs.length : Int) != 3) = false by rw [lS]; rfl) ?_
 conv => whnf
 refine ⟨⟨by omega, by rw [lS]; decide, hAS⟩, ?_⟩
 conv => whnf
 refine LoadVC.elem (A := d.S.A) (xs := d.S.xs) (j := 1) Ln.C Ln.C_len Sl.F_S rfl (by rw [lS]; decide) (by decide) (fun _ => rfl) ?_
 intro t' ht'
 obtain rfl : t' = t := by rw [show (1 : Int).toNat = 1 from rfl, ht] at ht'; exact (Option.some.inj ht').symm
 conv => whnf
 refine CallVC.fzB 45 rfl (fun b => ?_)
 have he := c_EqInt t'.A (some ⟨b, 0, none⟩) t'.c 1 t'.xs [0] (by rw [htx]; decide)
 rw [decide_eq_true htx] at he
 refine cfs he ?_ rfl (fun R hR => ?_)
 rotate_left
 · simp only [List.mem_cons, List.not_mem_nil, or_false] at hR
   rcases hR with rfl | rfl
   · exact List.mem_cons_of_mem _ (Sl.F_s (List.mem_of_getElem? ht))
   · exact List.mem_cons_self ..
 conv => whnf
 refine WPS.peel TBgood mixed ?_
 conv => whnf
 have hc := c_slCells d hd.small (by rw [hd.cells]; decide)
 rw [hd.cells] at hc
 refine WPS.of TBgood mixed ?_
 conv => whnf
 refine CallVC.o 51 hc.enters (CallV.facts hc rfl (fun R hR => List.mem_cons_of_mem _ hR)) rfl rfl ?_
 conv => whnf
 refine sexec_loop (ι := Nat) (fun i => ⟨[(2, .o (.p 2 0)), (4, .o (.p 4 0)), (51, .o (.w 51)), (52, .o (.v (.int .i64 27))), (53, .o (.v (.int .i64 i)))],
     [(2, slM d), (4, .box [.v (.int .i64 (cn i 0)), .v (.int .i64 (cn i 1)), .v (.int .i64 (cn i 2)), .v (.int .i64 (cn i 3))] t_ar4_int), (51, .own t_api_Cell 3 27 (rowV Cel.C awCells))], d.F⟩)
   (fun i => i ≤ 27) (fun i => 27 - i) 0 (Nat.zero_le _) (SLe.id ⟨rfl, rfl, rfl, rfl, rfl, trivial⟩ ⟨⟨_, rfl, .refl _⟩, ⟨_, rfl, .refl _⟩, ⟨_, rfl, .refl _⟩, trivial⟩ (fun R hR => List.mem_cons_of_mem _ hR)) ?_
 intro i hi0
 conv => whnf
 by_cases hi : i < 27
 · refine br_true (decide_eq_true (show (i : Int) < 27 by omega)) ?_
   obtain ⟨x, hx⟩ : ∃ x, awCells[i]? = some x := ⟨_, List.getElem?_eq_getElem (show i < awCells.length from hi)⟩
   conv => whnf
   refine ⟨by show (0 : Int) ≤ (i : Int) ∧ (i : Int) < 27; omega, ?_⟩
   conv => whnf
   refine RowVC.elem Cel.C Cel.C_len (k := i) (by show (i : Int).toNat * 3 = i * 3; rw [Int.toNat_natCast]) hi (by decide) (fun h => by cases h) ?_
   intro x' hx'
   obtain rfl : x' = x := by rw [hx] at hx'; exact (Option.some.inj hx').symm
   have hk := awK x' (List.mem_of_getElem? hx)
   obtain ⟨k, c, r⟩ := x'
   have l0 := cn_le i 0
   have l1 := cn_le i 1
   have l2 := cn_le i 2
   have l3 := cn_le i 3
   have hk' : k = 0 ∨ k = 1 ∨ k = 2 ∨ k = 3 := by simp only at hk; omega
   rcases hk' with rfl | rfl | rfl | rfl
   · have hwk : IntKind.i64.wrap ((cn i 0 : Int) + 1) = ((cn i 0 + 1 : Nat) : Int) := by rw [wrap_i64 (by omega) (by omega)]; rfl
     have c0 : cn (i + 1) 0 = cn i 0 + 1 := cn_succ hx 0
     have c1 : cn (i + 1) 1 = cn i 1 := cn_succ hx 1
     have c2 : cn (i + 1) 2 = cn i 2 := cn_succ hx 2
     have c3 : cn (i + 1) 3 = cn i 3 := cn_succ hx 3
     conv => whnf
     refine ⟨⟨show (0 : Int) ≤ (0 : Int) by decide, show (0 : Int) < 4 by decide⟩, ?_⟩
     conv => whnf
     refine ⟨⟨show (0 : Int) ≤ (0 : Int) by decide, show (0 : Int) < 4 by decide⟩, ?_⟩
     conv => whnf
     refine ⟨i + 1, by show i + 1 ≤ 27; omega, by show 27 - (i + 1) < 27 - i; omega, SLe.id ⟨rfl, rfl, rfl, rfl, some_wrap hi (by omega), trivial⟩ ⟨⟨_, rfl, .refl _⟩, ⟨_, rfl, ?_⟩, ⟨_, rfl, .refl _⟩, trivial⟩ (fun R hR => hR)⟩
     rw [c0, c1, c2, c3, ← hwk]; exact .refl _
   · have hwk : IntKind.i64.wrap ((cn i 1 : Int) + 1) = ((cn i 1 + 1 : Nat) : Int) := by rw [wrap_i64 (by omega) (by omega)]; rfl
     have c0 : cn (i + 1) 0 = cn i 0 := cn_succ hx 0
     have c1 : cn (i + 1) 1 = cn i 1 + 1 := cn_succ hx 1
     have c2 : cn (i + 1) 2 = cn i 2 := cn_succ hx 2
     have c3 : cn (i + 1) 3 = cn i 3 := cn_succ hx 3
     conv => whnf
     refine ⟨⟨show (0 : Int) ≤ (1 : Int) by decide, show (1 : Int) < 4 by decide⟩, ?_⟩
     conv => whnf
     refine ⟨⟨show (0 : Int) ≤ (1 : Int) by decide, show (1 : Int) < 4 by decide⟩, ?_⟩
     conv => whnf
     refine ⟨i + 1, by show i + 1 ≤ 27; omega, by show 27 - (i + 1) < 27 - i; omega, SLe.id ⟨rfl, rfl, rfl, rfl, some_wrap hi (by omega), trivial⟩ ⟨⟨_, rfl, .refl _⟩, ⟨_, rfl, ?_⟩, ⟨_, rfl, .refl _⟩, trivial⟩ (fun R hR => hR)⟩
     rw [c0, c1, c2, c3, ← hwk]; exact .refl _
   · have hwk : IntKind.i64.wrap ((cn i 2 : Int) + 1) = ((cn i 2 + 1 : Nat) : Int) := by rw [wrap_i64 (by omega) (by omega)]; rfl
     have c0 : cn (i + 1) 0 = cn i 0 := cn_succ hx 0
     have c1 : cn (i + 1) 1 = cn i 1 := cn_succ hx 1
     have c2 : cn (i + 1) 2 = cn i 2 + 1 := cn_succ hx 2
     have c3 : cn (i + 1) 3 = cn i 3 := cn_succ hx 3
     conv => whnf
     refine ⟨⟨show (0 : Int) ≤ (2 : Int) by decide, show (2 : Int) < 4 by decide⟩, ?_⟩
     conv => whnf
     refine ⟨⟨show (0 : Int) ≤ (2 : Int) by decide, show (2 : Int) < 4 by decide⟩, ?_⟩
     conv => whnf
     refine ⟨i + 1, by show i + 1 ≤ 27; omega, by show 27 - (i + 1) < 27 - i; omega, SLe.id ⟨rfl, rfl, rfl, rfl, some_wrap hi (by omega), trivial⟩ ⟨⟨_, rfl, .refl _⟩, ⟨_, rfl, ?_⟩, ⟨_, rfl, .refl _⟩, trivial⟩ (fun R hR => hR)⟩
     rw [c0, c1, c2, c3, ← hwk]; exact .refl _
   · have hwk : IntKind.i64.wrap ((cn i 3 : Int) + 1) = ((cn i 3 + 1 : Nat) : Int) := by rw [wrap_i64 (by omega) (by omega)]; rfl
     have c0 : cn (i + 1) 0 = cn i 0 := cn_succ hx 0
     have c1 : cn (i + 1) 1 = cn i 1 := cn_succ hx 1
     have c2 : cn (i + 1) 2 = cn i 2 := cn_succ hx 2
     have c3 : cn (i + 1) 3 = cn i 3 + 1 := cn_succ hx 3
     conv => whnf
     refine ⟨⟨show (0 : Int) ≤ (3 : Int) by decide, show (3 : Int) < 4 by decide⟩, ?_⟩
     conv => whnf
     refine ⟨⟨show (0 : Int) ≤ (3 : Int) by decide, show (3 : Int) < 4 by decide⟩, ?_⟩
     conv => whnf
     refine ⟨i + 1, by show i + 1 ≤ 27; omega, by show 27 - (i + 1) < 27 - i; omega, SLe.id ⟨rfl, rfl, rfl, rfl, some_wrap hi (by omega), trivial⟩ ⟨⟨_, rfl, .refl _⟩, ⟨_, rfl, ?_⟩, ⟨_, rfl, .refl _⟩, trivial⟩ (fun R hR => hR)⟩
     rw [c0, c1, c2, c3, ← hwk]; exact .refl _
 refine br_false (decide_eq_false (show ¬ (i : Int) < 27 by omega)) ?_
 obtain rfl : i = 27 := by have : i ≤ 27 := hi0; omega
 have hcen := c_slCenter d ⟨3, 1, 1⟩ hd.small hd.sz (Sl.is_szX hd.is hd.sz) (by decide) (by rw [hd.cnt]; decide)
 rw [hd.cen] at hcen
 conv => whnf
 refine cfs hcen ?_
 conv => whnf
 have v0 : cn 27 0 = 10 := by decide
 have v1 : cn 27 1 = 6 := by decide
 have v2 : cn 27 2 = 7 := by decide
 have v3 : cn 27 3 = 4 := by decide
 refine DrawVC.quiet (by kernel_rfl) ?_
 conv => whnf
 refine cd h23 ?_
 conv => whnf
 exact postV_one (congrArg Value.bool ((eqPV ⟨2, 3⟩ ⟨2, 3⟩).trans (decide_eq_true rfl)))
end Go.Sx
end
section
set_option maxRecDepth 10000
set_option maxHeartbeats 2000000
namespace Go.Sx
open Go Go.Proofs
theorem c_large (p : Pt) : Fn PP f_narrowsref16_large [pV p] (.bool (bigP 10 p)) := by
 refine Fn.of TBgood mixed h_narrowsref16_large rfl rfl (Nat.le_of_ble_eq_true rfl) ?_
 intro w
 unfold bigP
 conv => whnf
 by_cases h1 : 10 < p.x.num.length
 · refine br_true (decide_eq_true (show ((p.x.num.length : Nat) : Int) > 10 by omega)) ?_
   rw [decide_eq_true h1]
   conv => whnf
   exact postV_one rfl
 refine br_false (decide_eq_false (show ¬ ((p.x.num.length : Nat) : Int) > 10 by omega)) ?_
 rw [decide_eq_false h1]
 conv => whnf
 by_cases h2 : 10 < p.x.den.length
 · refine br_true (decide_eq_true (show ((p.x.den.length : Nat) : Int) > 10 by omega)) ?_
   rw [decide_eq_true h2]
   conv => whnf
   exact postV_one rfl
 refine br_false (decide_eq_false (show ¬ ((p.x.den.length : Nat) : Int) > 10 by omega)) ?_
 rw [decide_eq_false h2]
 conv => whnf
 by_cases h3 : 10 < p.y.num.length
 · refine br_true (decide_eq_true (show ((p.y.num.length : Nat) : Int) > 10 by omega)) ?_
   rw [decide_eq_true h3]
   conv => whnf
   exact postV_one rfl
 refine br_false (decide_eq_false (show ¬ ((p.y.num.length : Nat) : Int) > 10 by omega)) ?_
 rw [decide_eq_false h3]
 conv => whnf
 refine postV_one (congrArg Value.bool ?_)
 show decide (((p.y.den.length : Nat) : Int) > 10) = (false || (false || (false || decide (10 < p.y.den.length))))
 rw [Bool.false_or, Bool.false_or, Bool.false_or]
 exact decide_eq_decide.2 (by omega)
def bigE (e : Pt × Pt) : Bool := bigP 10 e.1 || bigP 10 e.2
def grt16 (b : Bx) (l : List (Pt × Pt)) : Bool := (decide (8 < l.length) && decide (l.length ≤ 400)) || (decide (405 < l.length) || (bigP 10 b.lo || (bigP 10 b.hi || l.any bigE)))
theorem c_Great16 (b : Bx) (A : Option Addr) (c : Nat) (l : List (Pt × Pt)) : FnM PP f_narrowsref16_Great [bxV b, .slice A l.length c] (facts [SlRes A (rowV sgC l)]) (retsV (.bool (grt16 b l))) := by
 refine FnM.ofS TBgood mixed h_narrowsref16_Great rfl rfl (Nat.le_of_ble_eq_true rfl) (by simp [SlRes.ok]) (fun w l st E w' hp hm => postV_ok hp hm) ?_
 intro w hw
 have hA : 0 < l.length → ∃ b o, A = some ⟨b, o, none⟩ := fun h => by
   have h1 := slres_some (facts_one hw) (by rw [rowV_length sgC_len]; omega)
   obtain ⟨a, rfl⟩ := Option.isSome_iff_exists.1 h1
   obtain ⟨b, o, rfl⟩ := slf_addr (facts_one hw) (by intro h2; have := congrArg List.length h2; rw [rowV_length sgC_len] at this; simp at this; omega)
   exact ⟨b, o, rfl⟩
 obtain ⟨n, hn⟩ : ∃ n, n = l.length := ⟨_, rfl⟩
 have hg : grt16 b l = ((decide (8 < n) && decide (n ≤ 400)) || (decide (405 < n) || (bigP 10 b.lo || (bigP 10 b.hi || l.any bigE)))) := by rw [hn]; rfl
 rw [← hn] at hA ⊢
 have lo := c_large b.lo
 have hi := c_large b.hi
 obtain ⟨x, hx⟩ : ∃ x, x = bigP 10 b.lo := ⟨_, rfl⟩
 obtain ⟨y, hy⟩ : ∃ y, y = bigP 10 b.hi := ⟨_, rfl⟩
 rw [← hx] at lo hg
 rw [← hy] at hi hg
 refine WPS.peel TBgood mixed ?_
 conv => whnf
 refine WPS.cut TBgood mixed (ι := Unit) (fun _ => ⟨[(1, .o (.v (.slice A n c)))], [], [SlRes A (rowV sgC l)]⟩) (fun _ => n ≤ 405 ∧ grt16 b l = l.any bigE) ?_ ?_
 · have two : ∀ n8 : Prop, (n8 → True) → True := fun _ _ => trivial
   conv => whnf
   by_cases h8 : 8 < n
   · refine br_true (decide_eq_true (show (n : Int) > 8 by omega)) ?_
     conv => whnf
     by_cases h400 : n ≤ 400
     · refine br_true (decide_eq_true (show (n : Int) ≤ 400 by omega)) ?_
       have hgt : grt16 b l = true := by rw [hg, decide_eq_true h8, decide_eq_true h400]; rfl
       conv => whnf
       rw [hgt]
       exact postV_one rfl
     refine br_false (decide_eq_false (show ¬ (n : Int) ≤ 400 by omega)) ?_
     conv => whnf
     by_cases h405 : 405 < n
     · refine br_true (decide_eq_true (show (n : Int) > 405 by omega)) ?_
       have hgt : grt16 b l = true := by rw [hg, decide_eq_true h405]; simp
       conv => whnf
       rw [hgt]
       exact postV_one rfl
     refine br_false (decide_eq_false (show ¬ (n : Int) > 405 by omega)) ?_
     conv => whnf
     refine cf lo ?_
     cases x with
     | true =>
       have hgt : grt16 b l = true := by rw [hg]; simp
       conv => whnf
       rw [hgt]
       exact postV_one rfl
     | false =>
       conv => whnf
       refine cf hi ?_
       cases y with
       | true =>
         have hgt : grt16 b l = true := by rw [hg]; simp
         conv => whnf
         rw [hgt]
         exact postV_one rfl
       | false =>
         conv => whnf
         refine ⟨(), ⟨by omega, ?_⟩, SLe.id ⟨rfl, trivial⟩ trivial (fun R hR => hR)⟩
         rw [hg, decide_eq_false h405, ← Bool.decide_and, decide_eq_false (show ¬ (8 < n ∧ n ≤ 400) by omega)]; simp
   refine br_false (decide_eq_false (show ¬ (n : Int) > 8 by omega)) ?_
   conv => whnf
   by_cases h405 : 405 < n
   · refine br_true (decide_eq_true (show (n : Int) > 405 by omega)) ?_
     have hgt : grt16 b l = true := by rw [hg, decide_eq_true h405]; simp
     conv => whnf
     rw [hgt]
     exact postV_one rfl
   refine br_false (decide_eq_false (show ¬ (n : Int) > 405 by omega)) ?_
   conv => whnf
   refine cf lo ?_
   cases x with
   | true =>
     have hgt : grt16 b l = true := by rw [hg]; simp
     conv => whnf
     rw [hgt]
     exact postV_one rfl
   | false =>
     conv => whnf
     refine cf hi ?_
     cases y with
     | true =>
       have hgt : grt16 b l = true := by rw [hg]; simp
       conv => whnf
       rw [hgt]
       exact postV_one rfl
     | false =>
       conv => whnf
       refine ⟨(), ⟨by omega, ?_⟩, SLe.id ⟨rfl, trivial⟩ trivial (fun R hR => hR)⟩
       rw [hg, decide_eq_false h405, ← Bool.decide_and, decide_eq_false (show ¬ (8 < n ∧ n ≤ 400) by omega)]; simp
 rintro _ ⟨h405, hgl⟩
 rw [hgl]
 refine WPS.of TBgood mixed ?_
 conv => whnf
 refine sexec_loop (ι := Nat) (fun i => ⟨[(1, .o (.v (.slice A n c))), (5, .o (.v (.int .i64 i)))], [], [SlRes A (rowV sgC l)]⟩)
   (fun i => i ≤ n ∧ (l.take i).any bigE = false) (fun i => n - i) 0 ⟨Nat.zero_le _, rfl⟩ (SLe.id ⟨rfl, rfl, trivial⟩ trivial (fun R hR => hR)) ?_
 rintro i ⟨hi0, hi1⟩
 conv => whnf
 by_cases hin : i < n
 rotate_left
 · refine br_false (decide_eq_false (show ¬ (i : Int) < (n : Int) by omega)) ?_
   rw [List.take_of_length_le (by omega)] at hi1
   conv => whnf
   exact postV_one (congrArg Value.bool hi1.symm)
 refine br_true (decide_eq_true (show (i : Int) < (n : Int) by omega)) ?_
 obtain ⟨e, he⟩ : ∃ e, l[i]? = some e := ⟨_, List.getElem?_eq_getElem (by omega)⟩
 obtain ⟨ba, oa, rfl⟩ := hA (by omega)
 have hT : ∀ t, bigE e = t → (l.take (i + 1)).any bigE = t := fun t ht => by rw [take_snoc' he, List.any_append, hi1]; simpa using ht
 have hany : bigE e = true → l.any bigE = true := fun h => List.any_eq_true.2 ⟨e, List.mem_of_getElem? he, h⟩
 have h1 := c_large e.1
 have h2 := c_large e.2
 have hadd : Option.map (fun a : Addr => a.add ((i : Int).toNat * ty58.size)) (some ⟨ba, oa, none⟩) = some ⟨ba, oa + i * 12, none⟩ := by
   show some ((⟨ba, oa, none⟩ : Addr).add ((i : Int).toNat * 12)) = _
   rw [Int.toNat_natCast, Addr.add_lit]
 have hfl : ∀ z, (some ⟨ba, oa + i * 12 + z, none⟩ : Option Addr) = (some (⟨ba, oa, none⟩ : Addr)).map (fun a => a.add (i * 12 + z)) := fun z => by
   rw [Option.map_some, Addr.add_lit, Nat.add_assoc]
 conv => whnf
 refine ⟨⟨by omega, by omega, rfl⟩, ?_⟩
 rw [hadd]
 conv => whnf
 refine LoadVC.fld (o := 0) sgC sgC_len (List.mem_singleton.2 rfl) he (hfl 0) (by decide) (by decide) (fun h => by cases h) ?_
 conv => whnf
 refine cf h1 ?_
 cases hb1 : bigP 10 e.1 with
 | true =>
   have := hany (by rw [bigE, hb1]; rfl)
   conv => whnf
   exact postV_one (congrArg Value.bool this.symm)
 | false =>
   conv => whnf
   refine ⟨⟨by omega, by omega, rfl⟩, ?_⟩
   rw [hadd]
   conv => whnf
   refine LoadVC.fld (o := 6) sgC sgC_len (List.mem_singleton.2 rfl) he (hfl 6) (by decide) (by decide) (fun h => by cases h) ?_
   conv => whnf
   refine cf h2 ?_
   cases hb2 : bigP 10 e.2 with
   | true =>
     have := hany (by rw [bigE, hb1, hb2]; rfl)
     conv => whnf
     exact postV_one (congrArg Value.bool this.symm)
   | false =>
     conv => whnf
     exact ⟨i + 1, ⟨by omega, hT false (by rw [bigE, hb1, hb2]; rfl)⟩, by show n - (i + 1) < n - i; omega, SLe.id ⟨rfl, some_wrap hin (by omega), trivial⟩ trivial (fun R hR => hR)⟩
theorem grt_sm {b : Bx} {l : List (Pt × Pt)} (h : grt16 b l = false) : b.sm K0 ∧ (∀ e ∈ l, e.1.sm K0 ∧ e.2.sm K0) ∧ (l.length ≤ 8 ∨ 400 < l.length) ∧ l.length ≤ 405 := by
 unfold grt16 at h
 simp only [Bool.or_eq_false_iff, Bool.and_eq_false_iff, decide_eq_false_iff_not] at h
 obtain ⟨h1, h2, h3, h4, h5⟩ := h
 refine ⟨⟨(bigP_sm h3).le (by decide), (bigP_sm h4).le (by decide)⟩, fun e he => ?_, by omega, by omega⟩
 have := (List.any_eq_false.1 h5) e he
 have h6 : bigE e = false := by simpa using this
 unfold bigE at h6
 rw [Bool.or_eq_false_iff] at h6
 exact ⟨(bigP_sm h6.1).le (by decide), (bigP_sm h6.2).le (by decide)⟩
theorem c_lbuildNo (b : Bx) (A : Option Addr) (c : Nat) (l : List (Pt × Pt)) (h : grt16 b l = true ∨ 8 < l.length ∨ bldE b l ≠ 0) :
   FnM PP f_narrowslaw16_build [bxV b, .slice A l.length c] (facts [SlRes A (rowV sgC l)]) (retsV (.tuple #[.agg ⟨slZ⟩, .bool false])) := by
 refine FnS.of TBgood mixed h_narrowslaw16_build rfl rfl (Nat.le_of_ble_eq_true rfl) (by simp [SlRes.ok]) ?_
 intro w hw
 have hg := c_Great16 b A c l
 conv => whnf
 refine cfs hg ?_
 cases hgr : grt16 b l with
 | true =>
   conv => whnf
   exact postV_two rfl
 | false =>
   obtain ⟨h1, h2, h3, h4⟩ := grt_sm hgr
   conv => whnf
   by_cases h8 : 8 < l.length
   · refine br_true (decide_eq_true (show (l.length : Int) > 8 by omega)) ?_
     conv => whnf
     exact postV_two rfl
   refine br_false (decide_eq_false (show ¬ (l.length : Int) > 8 by omega)) ?_
   have he : bldE b l ≠ 0 := by rcases h with h | h | h; (rw [hgr] at h; cases h); exact absurd h h8; exact h
   have hb := c_BuildErr b A c l h1 h2 (by omega) he
   conv => whnf
   refine cfs hb ?_
   conv => whnf
   refine postV_two ?_
   show Value.tuple #[.agg ⟨slZ⟩, .bool (bldE b l == 0)] = _
   rw [show (bldE b l == 0) = false from by simpa using he]
theorem c_lbuildOk (lo hi : V) (E : List (V × V)) (A : Option Addr) (c : Nat) (hb : grt16 ⟨PQ lo, PQ hi⟩ (E.map fun e => (PQ e.1, PQ e.2)) = false) (h8 : E.length ≤ 8) (hx : lo.x < hi.x) (hy : lo.y < hi.y) (hE : ∀ e ∈ E, (SzV K0 e.1 ∧ SzV K0 e.2) ∧ e.1 ≠ e.2) (hlo : SzV K0 lo) (hhi : SzV K0 hi) :
   FnM PP f_narrowslaw16_build [bxV ⟨PQ lo, PQ hi⟩, .slice A E.length c] (facts [SlRes A (rowV sgq E)]) (retsE (ι := BuildOk lo hi E A c) (fun s => .tuple #[s.1.V, .bool true]) (fun s => s.1.F')) := by
 refine FnE.of TBgood mixed h_narrowslaw16_build rfl rfl (Nat.le_of_ble_eq_true rfl) (by simp [SlRes.ok]) ?_
 intro w hw
 have hg := c_Great16 ⟨PQ lo, PQ hi⟩ A c (E.map fun e => (PQ e.1, PQ e.2))
 rw [hb, List.length_map, show rowV sgC (E.map fun e => (PQ e.1, PQ e.2)) = rowV sgq E from rowV_map ..] at hg
 have hbu := c_BuildOk lo hi A c E hlo hhi hx hy hE (by omega)
 conv => whnf
 refine cfs hg ?_
 conv => whnf
 refine br_false (decide_eq_false (show ¬ (E.length : Int) > 8 by omega)) ?_
 conv => whnf
 refine CallVC.e hbu.enters (CallV.facts hbu rfl (fun R h => h)) (fun i => F'_ok i) (fun d hd => ?_)
 conv => whnf
 intro N E1 w' hm
 exact ⟨d, rfl, fun R hR => (hm.res R (List.mem_append_left _ hR)).2.1, hd⟩
end Go.Sx
end
section
/- Arguments of the laws: boxes, slices of segments. -/
set_option maxRecDepth 10000
set_option maxHeartbeats 2000000
namespace Go.Sx
open Go Go.Proofs Go.ChangeShapes Go.WideShapes Go.RowKit Go.Deep
section
variable {H : Type} {enc : TypeId × Value → H} {w : World} {base : Nat} {spare : Nat → Bool} {held : Bool} {fuel : Nat} {cs : List Value} {x : DataW H × List MemPlace}
theorem cells_Box : PP.cellsOf t_api_Box = 12 := by kernel_rfl
theorem trod_box (h : DataW.trod enc PP w base spare held fuel t_api_Box cs = some x) : ∃ e : Pt × Pt, cs = sgC e := by
 obtain ⟨xs, n, _, _, hlen, hxl, hf⟩ := DataW.trod_struct (TBgood t_api_Box _ rfl).1.und h
 rw [cells_Box] at hlen
 obtain ⟨y0, h0⟩ := get_some (show 0 < xs.length by rw [hxl]; decide)
 obtain ⟨y1, h1⟩ := get_some (show 1 < xs.length by rw [hxl]; decide)
 have g0 : DataW.trod enc PP w base spare held n t_api_Point ((cs.drop 0).take (PP.cellsOf t_api_Point)) = xs[0]? := hf 0 _ rfl
 have g1 : DataW.trod enc PP w base spare held n t_api_Point ((cs.drop 6).take (PP.cellsOf t_api_Point)) = xs[1]? := hf 1 _ rfl
 rw [h0] at g0; rw [h1] at g1
 rw [cells_Point] at g0 g1
 obtain ⟨p, e0⟩ := trod_pt g0
 obtain ⟨q, e1⟩ := trod_pt g1
 refine ⟨(p, q), ?_⟩
 rw [List.take_of_length_le (by rw [List.length_drop]; omega)] at e1
 rw [List.drop_zero] at e0
 rw [sgC, ← e0, ← e1, List.take_append_drop]
theorem open_box {r : Reach} {b : Nat} {v : Value} {d : DataW H} {ps : List MemPlace} (hv : Value.okWide PP w r b t_api_Box v) (h : DataW.Trod enc PP w base spare held t_api_Box v d ps) : ∃ s : Bx, v = bxV s := by
 obtain ⟨cs, rfl, _⟩ := okWide_struct (TBgood t_api_Box _ rfl).1.und hv
 obtain ⟨fuel, hf⟩ := h
 obtain ⟨e, hr⟩ := trod_box hf
 exact ⟨⟨e.1, e.2⟩, by cases cs; exact congrArg (fun l : List Value => Value.agg ⟨l⟩) hr⟩
theorem open_sgs {r : Reach} {b : Nat} {v : Value} {d : DataW H} {ps : List MemPlace} (hv : Value.okWide PP w r b t_sl_api_Segment v) (h : DataW.Trod enc PP w base spare held t_sl_api_Segment v d ps) :
   ∃ (A : Option Addr) (c : Nat) (l : List (Pt × Pt)), v = .slice A l.length c ∧ l.length ≤ c ∧ SlF A (rowV sgC l) w := by
 obtain ⟨a, len, cap, rfl⟩ := okWide_slice (TBgood t_sl_api_Segment _ rfl).1.und hv
 obtain ⟨fuel, hf⟩ := h
 obtain ⟨A, c, l, e, h1, h2⟩ := open_row sgC sgC_len (by decide) (TBgood t_sl_api_Segment _ rfl).1.und cells_Segment trod_sg hf
 exact ⟨A, c, l, List.head_eq_of_cons_eq e, h1, h2⟩
end
end Go.Sx
end
section
/- The laws of slab. -/
set_option maxRecDepth 10000
set_option maxHeartbeats 2000000
namespace Go.Sx
open Go Go.Proofs
structure Bld (b : Bx) (l : List (Pt × Pt)) (lo hi : V) (E : List (V × V)) : Prop where
 hb : b = ⟨PQ lo, PQ hi⟩
 hl : l = E.map fun e => (PQ e.1, PQ e.2)
 grt : grt16 b l = false
 len : E.length ≤ 8
 x : lo.x < hi.x
 y : lo.y < hi.y
 zlo : SzV K0 lo
 zhi : SzV K0 hi
 E : ∀ e ∈ E, (SzV K0 e.1 ∧ SzV K0 e.2) ∧ e.1 ≠ e.2
theorem PQ_sz {a : V} (h : (PQ a).sm K0) : SzV K0 a := by
 have := h.sz (k := K0) (by decide)
 rwa [PQ_v] at this
theorem Bld.of {b : Bx} {l : List (Pt × Pt)} (h : ¬ (grt16 b l = true ∨ 8 < l.length ∨ bldE b l ≠ 0)) : ∃ lo hi E, Bld b l lo hi E := by
 have h1 : grt16 b l = false := by
   cases hg : grt16 b l with
   | true => exact absurd (.inl hg) h
   | false => rfl
 have h2 : ¬ 8 < l.length := fun k => h (.inr (.inl k))
 have h3 : bldE b l = 0 := Classical.byContradiction fun k => h (.inr (.inr k))
 obtain ⟨lo, hi, E, rfl, hx, hy, rfl, hE, hl⟩ := bldE_zero h3
 obtain ⟨hb, hs, _, _⟩ := grt_sm h1
 refine ⟨lo, hi, E, rfl, rfl, h1, by rw [List.length_map] at h2; omega, hx, hy, PQ_sz hb.1, PQ_sz hb.2, fun e he => ?_⟩
 have := hs (PQ e.1, PQ e.2) (List.mem_map.2 ⟨e, he, rfl⟩)
 exact ⟨⟨PQ_sz this.1, PQ_sz this.2⟩, hE e he⟩
end Go.Sx
end
section
set_option maxRecDepth 10000
set_option maxHeartbeats 1000000
namespace Go.Sx
theorem sgn_pos {t q d : Rat} (hd : 0 < d) : 0 ≤ (t - q) * d ↔ q ≤ t := by
 constructor
 · intro h
   by_cases h1 : t < q
   · have := Rat.mul_pos (show 0 < q - t by grind) hd; grind
   · exact Rat.not_lt.1 h1
 · intro h; exact Rat.mul_nonneg (by grind) (Rat.le_of_lt hd)
theorem sgn_neg {t q d : Rat} (hd : d < 0) : 0 ≤ (t - q) * d ↔ t ≤ q := by
 have := sgn_pos (t := -t) (q := -q) (d := -d) (by grind)
 rw [show (-t - -q) * -d = (t - q) * d by grind] at this
 rw [this]; grind
def inR (b : Bx) (A B : V) (k : Nat) (t : Rat) : Prop := 0 ≤ t ∧ t ≤ 1 ∧ ∀ j, j < k → 0 ≤ sideQ b A j + t * (sideQ b B j - sideQ b A j)
theorem inR_succ {b : Bx} {A B : V} {k : Nat} {t : Rat} : inR b A B (k + 1) t ↔ inR b A B k t ∧ 0 ≤ sideQ b A k + t * (sideQ b B k - sideQ b A k) := by
 constructor
 · rintro ⟨h1, h2, h3⟩; exact ⟨⟨h1, h2, fun j hj => h3 j (by omega)⟩, h3 k (by omega)⟩
 · rintro ⟨⟨h1, h2, h3⟩, h4⟩
   refine ⟨h1, h2, fun j hj => ?_⟩
   by_cases hjk : j = k
   · rw [hjk]; exact h4
   · exact h3 j (by omega)
theorem clipR_iff (b : Bx) (A B : V) : ∀ k, (clipR b A B k = none → ∀ t, ¬ inR b A B k t) ∧ ∀ l h, clipR b A B k = some (l, h) → ∀ t, (l ≤ t ∧ t ≤ h) ↔ inR b A B k t
 | 0 => by
   refine ⟨fun h => (by cases h), fun l h e t => ?_⟩
   cases e
   exact ⟨fun h => ⟨h.1, h.2, fun j hj => absurd hj (Nat.not_lt_zero j)⟩, fun h => ⟨h.1, h.2.1⟩⟩
 | k + 1 => by
   obtain ⟨i1, i2⟩ := clipR_iff b A B k
   have hs := fun t => inR_succ (b := b) (A := A) (B := B) (k := k) (t := t)
   rw [clipR]
   cases hc : clipR b A B k with
   | none => exact ⟨fun _ t h => i1 hc t ((hs t).1 h).1, fun l h e => (by cases e)⟩
   | some p =>
     obtain ⟨l, h⟩ := p
     have i3 := i2 l h hc
     simp only
     generalize sideQ b A k = f at hs ⊢
     generalize sideQ b B k = g at hs ⊢
     by_cases h0 : g - f = 0
     · rw [if_pos h0]
       have e : ∀ t, f + t * (g - f) = f := fun t => by rw [h0]; grind
       by_cases hf : f < 0
       · rw [if_pos hf]
         refine ⟨fun _ t ht => ?_, fun l h e => (by cases e)⟩
         have := ((hs t).1 ht).2
         rw [e] at this; grind
       · rw [if_neg hf]
         refine ⟨fun h => (by cases h), fun l' h' e' t => ?_⟩
         cases e'
         rw [hs, e, ← i3]
         exact ⟨fun h => ⟨h, by grind⟩, fun h => h.1⟩
     rw [if_neg h0]
     have hq : ∀ t, f + t * (g - f) = (t - -f / (g - f)) * (g - f) := fun t => by
       have := Rat.div_mul_cancel (a := -f) h0
       grind
     generalize -f / (g - f) = q at hq ⊢
     by_cases hd : 0 < g - f
     · have hk : ∀ t, 0 ≤ f + t * (g - f) ↔ q ≤ t := fun t => by rw [hq]; exact sgn_pos hd
       by_cases hl : l < q
       · rw [if_pos ⟨hd, hl⟩]
         refine ⟨fun h => (by cases h), fun l' h' e' t => ?_⟩
         cases e'
         rw [hs, hk, ← i3]
         exact ⟨fun h => ⟨⟨by grind, h.2⟩, h.1⟩, fun h => ⟨h.2, h.1.2⟩⟩
       · rw [if_neg (fun h => hl h.2), if_neg (fun h => by grind)]
         refine ⟨fun h => (by cases h), fun l' h' e' t => ?_⟩
         cases e'
         rw [hs, hk, ← i3]
         exact ⟨fun h => ⟨h, by grind⟩, fun h => h.1⟩
     · have hd' : g - f < 0 := by grind
       have hk : ∀ t, 0 ≤ f + t * (g - f) ↔ t ≤ q := fun t => by rw [hq]; exact sgn_neg hd'
       rw [if_neg (fun h => by grind)]
       by_cases hl : q < h
       · rw [if_pos ⟨hd', hl⟩]
         refine ⟨fun h => (by cases h), fun l' h' e' t => ?_⟩
         cases e'
         rw [hs, hk, ← i3]
         exact ⟨fun h => ⟨⟨h.1, by grind⟩, h.2⟩, fun h => ⟨h.1.1, h.2⟩⟩
       · rw [if_neg (fun h => hl h.2)]
         refine ⟨fun h => (by cases h), fun l' h' e' t => ?_⟩
         cases e'
         rw [hs, hk, ← i3]
         exact ⟨fun h => ⟨h, by grind⟩, fun h => h.1⟩
def inX (lo hi p : V) : Prop := (lo.x ≤ p.x ∧ p.x ≤ hi.x) ∧ lo.y ≤ p.y ∧ p.y ≤ hi.y
theorem inR_box {lo hi A B : V} {t : Rat} : inR ⟨PQ lo, PQ hi⟩ A B 4 t ↔ (0 ≤ t ∧ t ≤ 1) ∧ inX lo hi (A.at B t) := by
 have e0 : sideQ ⟨PQ lo, PQ hi⟩ A 0 + t * (sideQ ⟨PQ lo, PQ hi⟩ B 0 - sideQ ⟨PQ lo, PQ hi⟩ A 0) = (A.at B t).x - lo.x := by
   show (A.x - (Q lo.x).v) + t * ((B.x - (Q lo.x).v) - (A.x - (Q lo.x).v)) = (A.x + (B.x - A.x) * t) - lo.x
   rw [Q_v]; grind
 have e1 : sideQ ⟨PQ lo, PQ hi⟩ A 1 + t * (sideQ ⟨PQ lo, PQ hi⟩ B 1 - sideQ ⟨PQ lo, PQ hi⟩ A 1) = hi.x - (A.at B t).x := by
   show ((Q hi.x).v - A.x) + t * (((Q hi.x).v - B.x) - ((Q hi.x).v - A.x)) = hi.x - (A.x + (B.x - A.x) * t)
   rw [Q_v]; grind
 have e2 : sideQ ⟨PQ lo, PQ hi⟩ A 2 + t * (sideQ ⟨PQ lo, PQ hi⟩ B 2 - sideQ ⟨PQ lo, PQ hi⟩ A 2) = (A.at B t).y - lo.y := by
   show (A.y - (Q lo.y).v) + t * ((B.y - (Q lo.y).v) - (A.y - (Q lo.y).v)) = (A.y + (B.y - A.y) * t) - lo.y
   rw [Q_v]; grind
 have e3 : sideQ ⟨PQ lo, PQ hi⟩ A 3 + t * (sideQ ⟨PQ lo, PQ hi⟩ B 3 - sideQ ⟨PQ lo, PQ hi⟩ A 3) = hi.y - (A.at B t).y := by
   show ((Q hi.y).v - A.y) + t * (((Q hi.y).v - B.y) - ((Q hi.y).v - A.y)) = hi.y - (A.y + (B.y - A.y) * t)
   rw [Q_v]; grind
 unfold inR inX
 constructor
 · rintro ⟨h1, h2, h3⟩
   have k0 := h3 0 (by decide); have k1 := h3 1 (by decide); have k2 := h3 2 (by decide); have k3 := h3 3 (by decide)
   rw [e0] at k0; rw [e1] at k1; rw [e2] at k2; rw [e3] at k3
   exact ⟨⟨h1, h2⟩, ⟨by grind, by grind⟩, by grind, by grind⟩
 · rintro ⟨⟨h1, h2⟩, ⟨k0, k1⟩, k2, k3⟩
   refine ⟨h1, h2, fun j hj => ?_⟩
   match j, hj with
   | 0, _ => rw [e0]; grind
   | 1, _ => rw [e1]; grind
   | 2, _ => rw [e2]; grind
   | 3, _ => rw [e3]; grind
theorem clipV_some {lo hi A B c d : V} (h : clipV ⟨PQ lo, PQ hi⟩ A B = some (c, d)) : ∃ l u, l ≤ u ∧ 0 ≤ l ∧ u ≤ 1 ∧ c = A.at B l ∧ d = A.at B u ∧ ∀ t, (l ≤ t ∧ t ≤ u) ↔ (0 ≤ t ∧ t ≤ 1) ∧ inX lo hi (A.at B t) := by
 unfold clipV at h
 split at h
 · cases h
 · rename_i l u hc
   split at h
   · cases h
   · rename_i hlu
     cases h
     have hi := (clipR_iff ⟨PQ lo, PQ hi⟩ A B 4).2 l u hc
     have hl : l ≤ u := Rat.not_lt.1 hlu
     have k1 := inR_box.1 ((hi l).1 ⟨Rat.le_refl, hl⟩)
     have k2 := inR_box.1 ((hi u).1 ⟨hl, Rat.le_refl⟩)
     exact ⟨l, u, hl, k1.1.1, k2.1.2, rfl, rfl, fun t => (hi t).trans inR_box⟩
theorem onS_trans {A B c d q : V} (hc : onS A B c) (hd : onS A B d) (hq : onS c d q) : onS A B q := by
 obtain ⟨s, ⟨s0, s1⟩, rfl⟩ := hc
 obtain ⟨t, ⟨t0, t1⟩, rfl⟩ := hd
 obtain ⟨r, ⟨r0, r1⟩, rfl⟩ := hq
 refine ⟨s + (t - s) * r, ⟨?_, ?_⟩, ?_⟩
 · have h1 := Rat.mul_nonneg s0 (show 0 ≤ 1 - r by grind)
   have h2 := Rat.mul_nonneg t0 r0
   grind
 · have h1 := Rat.mul_nonneg (show 0 ≤ 1 - s by grind) (show 0 ≤ 1 - r by grind)
   have h2 := Rat.mul_nonneg (show 0 ≤ 1 - t by grind) r0
   grind
 · show (⟨(A.x + (B.x - A.x) * s) + ((A.x + (B.x - A.x) * t) - (A.x + (B.x - A.x) * s)) * r, (A.y + (B.y - A.y) * s) + ((A.y + (B.y - A.y) * t) - (A.y + (B.y - A.y) * s)) * r⟩ : V) = ⟨A.x + (B.x - A.x) * (s + (t - s) * r), A.y + (B.y - A.y) * (s + (t - s) * r)⟩
   congr 1 <;> grind
theorem onS_mid {A B p q : V} (hp : onS A B p) (hq : onS A B q) : onS A B ⟨(p.x + q.x) / 2, (p.y + q.y) / 2⟩ := by
 refine onS_trans hp hq ⟨1 / 2, ⟨by grind, by grind⟩, ?_⟩
 show _ = (⟨p.x + (q.x - p.x) * (1 / 2), p.y + (q.y - p.y) * (1 / 2)⟩ : V)
 congr 1 <;> grind
theorem inX_on {lo hi a b p : V} (ha : inX lo hi a) (hb : inX lo hi b) (hp : onS a b p) : inX lo hi p := by
 obtain ⟨⟨a1, a2⟩, a3, a4⟩ := ha
 obtain ⟨⟨b1, b2⟩, b3, b4⟩ := hb
 obtain ⟨t, ⟨t0, t1⟩, rfl⟩ := hp
 have key : ∀ u v c : Rat, c ≤ u → c ≤ v → c ≤ u + (v - u) * t := fun u v c h1 h2 => by
   have k1 := Rat.mul_nonneg (show 0 ≤ u - c by grind) (show 0 ≤ 1 - t by grind)
   have k2 := Rat.mul_nonneg (show 0 ≤ v - c by grind) t0
   grind
 have key2 : ∀ u v c : Rat, u ≤ c → v ≤ c → u + (v - u) * t ≤ c := fun u v c h1 h2 => by
   have k1 := Rat.mul_nonneg (show 0 ≤ c - u by grind) (show 0 ≤ 1 - t by grind)
   have k2 := Rat.mul_nonneg (show 0 ≤ c - v by grind) t0
   grind
 exact ⟨⟨key _ _ _ a1 b1, key2 _ _ _ a2 b2⟩, key _ _ _ a3 b3, key2 _ _ _ a4 b4⟩
theorem hgtE_on {A B : V} {x y : Rat} (hne : (B - A).x ≠ 0) (h : onS A B ⟨x, y⟩) : hgtE A B x = (y, 0) := by
 obtain ⟨t, ⟨t0, t1⟩, e⟩ := h
 have ex : x = A.x + (B.x - A.x) * t := congrArg V.x e
 have ey : y = A.y + (B.y - A.y) * t := congrArg V.y e
 have ht : (x - A.x) / (B - A).x = t := by
   rw [ex, show A.x + (B.x - A.x) * t - A.x = t * (B - A).x by show _ = t * (B.x - A.x); grind]
   exact Rat.mul_div_cancel hne
 unfold hgtE
 rw [if_neg hne, ht, if_pos (unitB_iff.2 ⟨t0, t1⟩), ey]
 show (A.y + t * (B.y - A.y), (0 : Int)) = _
 congr 1; grind
theorem hgtO_on {p : Pc} {x y : Rat} (h : hgtO p x = some y) : (p.b - p.a).x ≠ 0 ∧ onS p.a p.b ⟨x, y⟩ := by
 unfold hgtO hgtE at h
 by_cases hne : (p.b - p.a).x = 0
 · rw [if_pos hne] at h; cases h
 refine ⟨hne, ?_⟩
 rw [if_neg hne] at h
 by_cases hu : unitB ((x - p.a.x) / (p.b - p.a).x) = true
 · rw [if_pos hu] at h
   simp only [if_true] at h
   cases h
   refine ⟨_, unitB_iff.1 hu, ?_⟩
   have := Rat.div_mul_cancel (a := x - p.a.x) hne
   generalize (x - p.a.x) / (p.b - p.a).x = t at this ⊢
   show (⟨x, p.a.y + t * (p.b.y - p.a.y)⟩ : V) = ⟨p.a.x + (p.b.x - p.a.x) * t, p.a.y + (p.b.y - p.a.y) * t⟩
   have h2 : t * (p.b.x - p.a.x) = x - p.a.x := this
   congr 1 <;> grind
 · rw [if_neg hu] at h; cases h
structure PcOf (lo hi : V) (E : List (V × V)) (p : Pc) (e : V × V) : Prop where
 at' : E[p.i]? = some e
 a : onS e.1 e.2 p.a
 b : onS e.1 e.2 p.b
 ia : inX lo hi p.a
 ib : inX lo hi p.b
 ne : p.a ≠ p.b
theorem pcs_of {lo hi : V} {E : List (V × V)} {p : Pc} (hp : p ∈ pcsL lo hi E) : ∃ e, PcOf lo hi E p e := by
 have : ∀ (l : List (V × V)) (i : Nat), p ∈ pcsF lo hi i l → ∃ e j, l[j]? = some e ∧ pcsO lo hi e (i + j) = some p := fun l => by
   induction l with
   | nil => intro i h; cases h
   | cons e r ih =>
     intro i h
     rcases List.mem_append.1 h with h | h
     · refine ⟨e, 0, rfl, ?_⟩
       cases ho : pcsO lo hi e i with
       | none => rw [ho] at h; cases h
       | some q => rw [ho] at h; rw [List.mem_singleton.1 h]
     · obtain ⟨e', j, h1, h2⟩ := ih (i + 1) h
       exact ⟨e', j + 1, by rw [List.getElem?_cons_succ]; exact h1, by rw [show i + (j + 1) = i + 1 + j by omega]; exact h2⟩
 obtain ⟨e, j, h1, h2⟩ := this E 0 hp
 rw [Nat.zero_add] at h2
 refine ⟨e, ?_⟩
 unfold pcsO at h2
 split at h2
 · cases h2
 · rename_i c d hc
   split at h2
   · cases h2
   · rename_i hcd
     cases h2
     obtain ⟨l, u, hlu, l0, u1, rfl, rfl, hiff⟩ := clipV_some hc
     have ic := ((hiff l).1 ⟨Rat.le_refl, hlu⟩)
     have iu := ((hiff u).1 ⟨hlu, Rat.le_refl⟩)
     have oc : onS e.1 e.2 (e.1.at e.2 l) := ⟨l, ic.1, rfl⟩
     have ou : onS e.1 e.2 (e.1.at e.2 u) := ⟨u, iu.1, rfl⟩
     unfold ordV
     split
     · exact ⟨h1, ou, oc, iu.2, ic.2, fun h => hcd h.symm⟩
     · exact ⟨h1, oc, ou, ic.2, iu.2, hcd⟩
theorem crs_mid {s : Sl} {l r : Rat} {x : Rat × Nat} (hx : x ∈ crsL s.lo s.hi (pcsL s.lo s.hi s.sg.xs) l r) : hgtS s ((l + r) / 2) x.2 = x.1 ∧ s.lo.y < x.1 ∧ x.1 < s.hi.y := by
 obtain ⟨p, hp, h⟩ := List.mem_filterMap.1 hx
 obtain ⟨e, h1, ha, hb, ia, ib, hne⟩ := pcs_of hp
 unfold crsO at h
 cases hA : hgtO p l with
 | none => rw [hA] at h; cases h
 | some a =>
   cases hB : hgtO p r with
   | none => rw [hA, hB] at h; cases h
   | some b =>
     rw [hA, hB] at h
     simp only at h
     split at h
     · cases h
     · rename_i hno
       cases h
       obtain ⟨hx0, oA⟩ := hgtO_on hA
       obtain ⟨_, oB⟩ := hgtO_on hB
       have oM := onS_trans ha hb (onS_mid oA oB)
       have hne2 : (e.2 - e.1).x ≠ 0 := fun h0 => hx0 (by
         obtain ⟨u, _, eu⟩ := ha
         obtain ⟨v, _, ev⟩ := hb
         have h0' : e.2.x - e.1.x = 0 := h0
         rw [eu, ev]
         show (e.1.x + (e.2.x - e.1.x) * v) - (e.1.x + (e.2.x - e.1.x) * u) = 0
         rw [h0']; grind)
       have i1 := (inX_on ia ib oA).2
       have i2 := (inX_on ia ib oB).2
       have e1 : a = s.lo.y → ¬ a = b := fun h k => hno ⟨k, .inl h⟩
       have e2 : a = s.hi.y → ¬ a = b := fun h k => hno ⟨k, .inr h⟩
       have i11 : s.lo.y ≤ a := i1.1
       have i12 : a ≤ s.hi.y := i1.2
       have i21 : s.lo.y ≤ b := i2.1
       have i22 : b ≤ s.hi.y := i2.2
       refine ⟨?_, ?_, ?_⟩
       · show hgtS s ((l + r) / 2) p.i = (a + b) / 2
         unfold hgtS
         rw [h1]
         exact congrArg Prod.fst (hgtE_on hne2 oM)
       · show s.lo.y < (a + b) / 2
         grind
       · show (a + b) / 2 < s.hi.y
         grind
theorem fstG_asc {h : Nat → Rat} {lo hi : Rat} : ∀ (p : Rat) (l : List (Rat × Nat)), SrtC l → (∀ x ∈ l, p ≤ x.1) → (∀ x ∈ l, h x.2 = x.1 ∧ x.1 < hi) → Asc ((fstG p l).map h) ∧ ∀ z ∈ (fstG p l).map h, p < z ∧ z < hi
 | p, [], _, _, _ => ⟨.nil, fun z hz => by cases hz⟩
 | p, (y, i) :: r, hs, hp, hh => by
   obtain ⟨s1, s2⟩ := List.pairwise_cons.1 hs
   have hy : ∀ x ∈ r, y ≤ x.1 := fun x hx => (ltC_false.1 (s1 x hx)).1
   have hr : ∀ x ∈ r, h x.2 = x.1 ∧ x.1 < hi := fun x hx => hh x (List.mem_cons_of_mem _ hx)
   obtain ⟨i1, i2⟩ := fstG_asc (lo := lo) y r s2 hy hr
   have hpy : p ≤ y := hp _ (List.mem_cons_self ..)
   simp only [fstG]
   by_cases e : p = y
   · rw [if_pos e]; exact ⟨i1, fun z hz => by rw [e]; exact i2 z hz⟩
   · rw [if_neg e, List.map_cons]
     obtain ⟨k1, k2⟩ := hh _ (List.mem_cons_self ..)
     have k1' : h i = y := k1
     rw [k1']
     refine ⟨List.pairwise_cons.2 ⟨fun z hz => (i2 z hz).1, i1⟩, fun z hz => ?_⟩
     rcases List.mem_cons.1 hz with rfl | hz
     · exact ⟨by grind, k2⟩
     · have := i2 z hz; exact ⟨by grind, this.2⟩
theorem fstL_asc {h : Nat → Rat} {lo hi : Rat} {l : List (Rat × Nat)} (hs : SrtC l) (hh : ∀ x ∈ l, h x.2 = x.1 ∧ lo < x.1 ∧ x.1 < hi) (hlh : lo < hi) : Asc (lo :: ((fstL l).map h ++ [hi])) := by
 have mid : Asc ((fstL l).map h) ∧ ∀ z ∈ (fstL l).map h, lo < z ∧ z < hi := by
   cases l with
   | nil => exact ⟨.nil, fun z hz => by cases hz⟩
   | cons x r =>
     obtain ⟨y, i⟩ := x
     obtain ⟨s1, s2⟩ := List.pairwise_cons.1 hs
     have hy : ∀ x ∈ r, y ≤ x.1 := fun x hx => (ltC_false.1 (s1 x hx)).1
     obtain ⟨i1, i2⟩ := fstG_asc (lo := lo) (h := h) (hi := hi) y r s2 hy (fun x hx => by have := hh x (List.mem_cons_of_mem _ hx); exact ⟨this.1, this.2.2⟩)
     obtain ⟨k1, k2, k3⟩ := hh _ (List.mem_cons_self ..)
     have k1' : h i = y := k1
     have k2' : lo < y := k2
     simp only [fstL, List.map_cons]
     rw [k1']
     refine ⟨List.pairwise_cons.2 ⟨fun z hz => (i2 z hz).1, i1⟩, fun z hz => ?_⟩
     rcases List.mem_cons.1 hz with rfl | hz
     · exact ⟨k2', k3⟩
     · have := i2 z hz; exact ⟨by grind, this.2⟩
 refine List.pairwise_cons.2 ⟨fun z hz => ?_, List.pairwise_append.2 ⟨mid.1, List.pairwise_singleton .., fun a ha b hb => ?_⟩⟩
 · rcases List.mem_append.1 hz with hz | hz
   · exact (mid.2 z hz).1
   · rw [List.mem_singleton.1 hz]; exact hlh
 · rw [List.mem_singleton.1 hb]; exact (mid.2 a ha).2
end Go.Sx
end
section
set_option maxRecDepth 10000
set_option maxHeartbeats 2000000
namespace Go.Sx
open Go Go.Proofs
def areaQ (s : Sl) (x : Cel) : Rat :=
 let X := s.X.xs.getD x.c 0
 let Y := s.X.xs.getD (x.c + 1) 0
 let t := s.S.xs.getD x.c ⟨none, 0, []⟩
 if x.k = 3 then ((hgtsL s t ((X + Y) / 2)).getD (x.r + 1) 0 - (hgtsL s t ((X + Y) / 2)).getD x.r 0) * (Y - X) else 0
theorem c_slArea (s : Sl) (x : Cel) (hs : s.small) (hz : s.sz) (hzx : s.szX) (hk : x.k < 4) (hx : (x.r : Int) < cntK s x.k x.c) : FnM PP f_slab_Area [s.V, x.V] (facts s.F) (retsV (.tuple #[qV (areaQ s x), .int .i64 0])) := by
 refine FnS.of TBgood mixed h_slab_Area rfl rfl (Nat.le_of_ble_eq_true rfl) s.F_ok ?_
 intro w hw
 obtain ⟨k, c, r⟩ := x
 replace hx : (r : Int) < cntK s k c := hx
 replace hk : k < 4 := hk
 have hs' := hs
 obtain ⟨s1, s2, s3, s4, s5, s6⟩ := hs'
 have hk' : k = 0 ∨ k = 1 ∨ k = 2 ∨ k = 3 := by omega
 have hc : c ≤ 1000000 := by
   rcases hk' with rfl | rfl | rfl | rfl
   · obtain ⟨l, x, h1, h2, h3⟩ := lineN_inv hx; have := (List.getElem?_eq_some_iff.1 h1).1; omega
   · obtain ⟨l, x, h1, h2, h3⟩ := lineN_inv hx; have := (List.getElem?_eq_some_iff.1 h1).1; omega
   · obtain ⟨l, x, y, h1, h2, h3⟩ := stripN_inv hx; have := (List.getElem?_eq_some_iff.1 h1).1; omega
   · obtain ⟨l, x, y, h1, h2, h3⟩ := stripN_inv hx; have := (List.getElem?_eq_some_iff.1 h1).1; omega
 have his := c_slIs s ⟨k, c, r⟩ hs ⟨hk, hc⟩
 rw [decide_eq_true hx] at his
 have hw1 : ∀ {n : Nat}, n ≤ 1000000000 → IntKind.i64.wrap ((n : Int) + 1) = ((n + 1 : Nat) : Int) := fun h => by rw [wrap_i64 (by omega) (by omega)]; rfl
 have h0 : ∀ k : Nat, k ≠ 3 → areaQ s ⟨k, c, r⟩ = 0 := fun k hk => if_neg hk
 conv => whnf
 refine cfs his ?_
 rcases hk' with rfl | rfl | rfl | rfl
 · conv => whnf
   refine postV_two ?_
   rw [h0 0 (by decide), q0]
 · conv => whnf
   refine postV_two ?_
   rw [h0 1 (by decide), q0]
 · conv => whnf
   refine postV_two ?_
   rw [h0 2 (by decide), q0]
 obtain ⟨t, x, y, h1, h2, h3, h4, h5⟩ := stripN_inv hx
 have := s5 t (List.mem_of_getElem? h1)
 have zx := hzx.X x (List.mem_of_getElem? h2)
 have zy := hzx.X y (List.mem_of_getElem? h3)
 have zm : Sz KY ((x + y) / 2) := ((zx.add zy).div (show Sz 2 (2 : Rat) from ⟨by decide, by decide⟩)).le (by decide)
 have h6 := (List.getElem?_eq_some_iff.1 h2).1
 have h7 := (List.getElem?_eq_some_iff.1 h3).1
 have hAX : s.X.A.isSome = true := slres_some (hw _ Sl.F_X) (by rw [rowV_length ratQ_len]; omega)
 have hon := c_on s c r t ((x + y) / 2) hs hz h1 zm (by omega)
 have hon' := c_on s c (r + 1) t ((x + y) / 2) hs hz h1 zm (by omega)
 rw [← hw1 (n := r) (by omega)] at hon'
 have har : areaQ s ⟨3, c, r⟩ = ((onP s t (r + 1) ((x + y) / 2)).y - (onP s t r ((x + y) / 2)).y) * (y - x) := by
   simp only [areaQ]; rw [if_pos trivial, getD_of' h2, getD_of' h3, getD_of' h1]; rfl
 have zp := onP_sz hz (l := t) (row := r) zm
 have zp' := onP_sz hz (l := t) (row := r + 1) zm
 conv => whnf
 refine DrawVC.late [(15, 6, [6, 7, 8, 9, 10, 11, 12])] (by kernel_rfl) ?_
 conv => whnf
 refine ⟨⟨show (0 : Int) ≤ (c : Int) by omega, show (c : Int) < (s.X.xs.length : Int) by omega, hAX⟩, ?_⟩
 conv => whnf
 refine LoadVC.elem (A := s.X.A) (xs := s.X.xs) (j := (c : Int)) ratQ ratQ_len Sl.F_X rfl (by rw [Int.toNat_natCast]; omega) (by decide) (fun h => by cases h) ?_
 intro x' hx'
 obtain rfl : x' = x := by rw [Int.toNat_natCast, h2] at hx'; exact (Option.some.inj hx').symm
 conv => whnf
 refine ⟨⟨show 0 ≤ IntKind.i64.wrap ((c : Int) + 1) by rw [hw1 (by omega)]; omega, show IntKind.i64.wrap ((c : Int) + 1) < (s.X.xs.length : Int) by rw [hw1 (by omega)]; omega, hAX⟩, ?_⟩
 conv => whnf
 refine LoadVC.elem (A := s.X.A) (xs := s.X.xs) (j := ((c + 1 : Nat) : Int)) ratQ ratQ_len Sl.F_X (congrArg (fun z : Int => s.X.A.map (fun a => a.add (z.toNat * 3))) (hw1 (n := c) (by omega))) (by rw [Int.toNat_natCast]; omega) (by decide) (fun h => by cases h) ?_
 intro y' hy'
 obtain rfl : y' = y := by rw [Int.toNat_natCast, h3] at hy'; exact (Option.some.inj hy').symm
 conv => whnf
 refine cf (c_mean x' y' (zx.le (by decide)) (zy.le (by decide))) ?_
 conv => whnf
 refine DrawVC.quiet (by kernel_rfl) ?_
 conv => whnf
 refine cds hon' ?_
 conv => whnf
 refine cds hon ?_
 conv => whnf
 have hsub := c_rSub (Q (onP s t (r + 1) ((x' + y') / 2)).y) (Q (onP s t r ((x' + y') / 2)).y) (zp'.2.q.le (by decide)) (zp.2.q.le (by decide))
 have hdx := c_rSub (Q y') (Q x') (zy.q.le (by decide)) (zx.q.le (by decide))
 rw [Q_v, Q_v] at hsub hdx
 have hmul := c_rMul (Q ((onP s t (r + 1) ((x' + y') / 2)).y - (onP s t r ((x' + y') / 2)).y)) (Q (y' - x')) ((zp'.2.sub zp.2).q.le (by decide)) ((zy.sub zx).q.le (by decide))
 rw [Q_v, Q_v] at hmul
 refine cd hsub ?_
 conv => whnf
 refine DrawVC.quiet (by kernel_rfl) ?_
 conv => whnf
 refine cd hdx ?_
 conv => whnf
 refine cd hmul ?_
 conv => whnf
 refine postV_two ?_
 rw [har]
end Go.Sx
end
section
set_option maxRecDepth 10000
set_option maxHeartbeats 1000000
namespace Go.Sx
theorem asc_get {l : List Rat} (h : Asc l) {i j : Nat} {x y : Rat} (hi : l[i]? = some x) (hj : l[j]? = some y) (hij : i < j) : x < y := by
 obtain ⟨h1, rfl⟩ := List.getElem?_eq_some_iff.1 hi
 obtain ⟨h2, rfl⟩ := List.getElem?_eq_some_iff.1 hj
 exact (List.pairwise_iff_getElem.1 h) i j h1 h2 hij
theorem Sl.is_asc {s : Sl} (h : s.is) : Asc s.X.xs := by rw [h.1]; exact ascL_asc _
theorem xs_in {lo hi : V} {E : List (V × V)} (hx : lo.x ≤ hi.x) : ∀ x ∈ xsL lo hi (pcsL lo hi E), lo.x ≤ x ∧ x ≤ hi.x := fun x hm => by
 rw [xsL, ascL_mem] at hm
 rcases List.mem_cons.1 hm with rfl | hm
 · exact ⟨Rat.le_refl, hx⟩
 rcases List.mem_cons.1 hm with rfl | hm
 · exact ⟨hx, Rat.le_refl⟩
 have key : ∀ i, x ∈ absG (pcsL lo hi E) i → lo.x ≤ x ∧ x ≤ hi.x := fun i => by
   induction i with
   | zero => intro h; cases h
   | succ i ih =>
     intro h
     rcases List.mem_append.1 h with h | h
     · exact ih h
     · split at h
       · rename_i p hp
         have hpm := List.mem_of_getElem? hp
         obtain ⟨e, hpe⟩ := pcs_of hpm
         rcases List.mem_cons.1 h with rfl | h
         · exact hpe.ia.1
         rcases List.mem_cons.1 h with rfl | h
         · exact hpe.ib.1
         obtain ⟨q, hq, h⟩ := List.mem_flatMap.1 h
         obtain ⟨e', hqe⟩ := pcs_of (List.mem_of_mem_take hq)
         unfold meetX at h
         split at h
         · rename_i m n hmn
           obtain ⟨o1, _, o2, _⟩ := (meet_pts hpe.ne hqe.ne).1 _ hmn
           simp only [List.mem_cons, List.not_mem_nil, or_false] at h
           rcases h with rfl | rfl
           · exact (inX_on hpe.ia hpe.ib o1).1
           · exact (inX_on hpe.ia hpe.ib o2).1
         · cases h
       · cases h
 exact key _ hm
theorem Sl.is_first {s : Sl} (h : s.is) (hx : s.lo.x ≤ s.hi.x) : s.X.xs[0]? = some s.lo.x := by
 obtain ⟨_, _, e3⟩ := Sl.is_len h
 obtain ⟨x, h0⟩ : ∃ x, s.X.xs[0]? = some x := ⟨_, List.getElem?_eq_getElem e3⟩
 have hm : s.lo.x ∈ s.X.xs := by rw [h.1]; exact ascL_mem.2 (List.mem_cons_self ..)
 obtain ⟨j, hj⟩ := List.getElem?_of_mem hm
 have h1 : s.lo.x ≤ x := by
   have := List.mem_of_getElem? h0
   rw [h.1] at this
   exact (xs_in hx x this).1
 by_cases hj0 : j = 0
 · rw [hj0] at hj; exact hj
 · have := asc_get (Sl.is_asc h) h0 hj (by omega)
   rw [h0]; congr 1; grind
theorem Sl.is_last {s : Sl} (h : s.is) (hx : s.lo.x ≤ s.hi.x) : s.X.xs[s.X.xs.length - 1]? = some s.hi.x := by
 obtain ⟨_, _, e3⟩ := Sl.is_len h
 obtain ⟨x, h0⟩ : ∃ x, s.X.xs[s.X.xs.length - 1]? = some x := ⟨_, List.getElem?_eq_getElem (by omega)⟩
 have hm : s.hi.x ∈ s.X.xs := by rw [h.1]; exact ascL_mem.2 (List.mem_cons_of_mem _ (List.mem_cons_self ..))
 obtain ⟨j, hj⟩ := List.getElem?_of_mem hm
 have hjl := (List.getElem?_eq_some_iff.1 hj).1
 have h1 : x ≤ s.hi.x := by
   have := List.mem_of_getElem? h0
   rw [h.1] at this
   exact (xs_in hx x this).2
 by_cases hj0 : j = s.X.xs.length - 1
 · rw [hj0] at hj; exact hj
 · have := asc_get (Sl.is_asc h) hj h0 (by omega)
   rw [h0]; congr 1; grind
theorem stripsL_get {f : Rat → Rat → List Nat} : ∀ {l : List Rat} {c : Nat} {x y : Rat}, l[c]? = some x → l[c + 1]? = some y → (stripsL f l)[c]? = some (f x y)
 | [], c, x, y, h, _ => by cases h
 | [_], c, x, y, _, h => by cases c <;> cases h
 | a :: b :: r, 0, x, y, h, k => by cases h; cases k; rfl
 | a :: b :: r, c + 1, x, y, h, k => by
   simp only [stripsL, List.getElem?_cons_succ] at h k ⊢
   exact stripsL_get (l := b :: r) h k
theorem Sl.is_strip_at {s : Sl} (h : s.is) {c : Nat} {x y : Rat} {t : Ln Nat} (hx : s.X.xs[c]? = some x) (hy : s.X.xs[c + 1]? = some y) (ht : s.S.xs[c]? = some t) : t.xs = strpL s.lo s.hi (pcsL s.lo s.hi s.sg.xs) x y := by
 have h1 := stripsL_get (f := strpL s.lo s.hi (pcsL s.lo s.hi s.sg.xs)) hx hy
 rw [← h.2.2, List.getElem?_map, ht] at h1
 exact Option.some.inj h1
theorem hgts_asc {s : Sl} (hy : s.lo.y < s.hi.y) {t : Ln Nat} {l r : Rat} (ht : t.xs = strpL s.lo s.hi (pcsL s.lo s.hi s.sg.xs) l r) : Asc (hgtsL s t ((l + r) / 2)) := by
 unfold hgtsL
 rw [ht]
 exact fstL_asc (sortC_srt _) (fun x hx => by
   have := crs_mid ((sortC_perm _).mem_iff.1 hx)
   exact ⟨this.1, this.2.1, this.2.2⟩) hy
def sumA (s : Sl) : List Cel → Rat
 | [] => 0
 | x :: r => areaQ s x + sumA s r
theorem sumA_append (s : Sl) : ∀ a b : List Cel, sumA s (a ++ b) = sumA s a + sumA s b
 | [], b => by simp only [List.nil_append, sumA]; grind
 | x :: a, b => by simp only [List.cons_append, sumA, sumA_append s a b]; grind
theorem sumA_none {s : Sl} : ∀ l : List Cel, (∀ x ∈ l, x.k ≠ 3) → sumA s l = 0
 | [], _ => rfl
 | x :: l, h => by
   rw [sumA, sumA_none l (fun y hy => h y (List.mem_cons_of_mem _ hy)), areaQ, if_neg (h x (List.mem_cons_self ..))]; grind
theorem area_pos {s : Sl} (h : s.is) (hy : s.lo.y < s.hi.y) {c r : Nat} (hr : (r : Int) < cntK s 3 c) : 0 < areaQ s ⟨3, c, r⟩ := by
 obtain ⟨t, x, y, h1, h2, h3, h4, h5⟩ := stripN_inv (show (r : Int) < stripN s 1 c from hr)
 have ha := hgts_asc hy (Sl.is_strip_at h h2 h3 h1)
 have hlen : (hgtsL s t ((x + y) / 2)).length = t.xs.length + 2 := by simp [hgtsL]
 obtain ⟨u, hu⟩ : ∃ u, (hgtsL s t ((x + y) / 2))[r]? = some u := ⟨_, List.getElem?_eq_getElem (by omega)⟩
 obtain ⟨v, hv⟩ : ∃ v, (hgtsL s t ((x + y) / 2))[r + 1]? = some v := ⟨_, List.getElem?_eq_getElem (by omega)⟩
 have e : areaQ s ⟨3, c, r⟩ = (v - u) * (y - x) := by
   simp only [areaQ]; rw [if_pos trivial, getD_of' h2, getD_of' h3, getD_of' h1, getD_of' hu, getD_of' hv]
 rw [e]
 have k1 := asc_get ha hu hv (by omega)
 have k2 := asc_get (Sl.is_asc h) h2 h3 (by omega)
 exact Rat.mul_pos (by grind) (by grind)
theorem sum_regions {s : Sl} {c : Nat} {t : Ln Nat} {x y : Rat} (h1 : s.S.xs[c]? = some t) (h2 : s.X.xs[c]? = some x) (h3 : s.X.xs[c + 1]? = some y) : ∀ m, m ≤ t.xs.length + 1 →
   sumA s ((List.range m).map fun r => ⟨3, c, r⟩) = ((hgtsL s t ((x + y) / 2)).getD m 0 - s.lo.y) * (y - x)
 | 0, _ => by
   show (0 : Rat) = (s.lo.y - s.lo.y) * (y - x)
   rw [show s.lo.y - s.lo.y = 0 by grind, Rat.zero_mul]
 | m + 1, hm => by
   rw [List.range_succ, List.map_append, sumA_append, sum_regions h1 h2 h3 m (by omega)]
   have e : areaQ s ⟨3, c, m⟩ = ((hgtsL s t ((x + y) / 2)).getD (m + 1) 0 - (hgtsL s t ((x + y) / 2)).getD m 0) * (y - x) := by
     simp only [areaQ]; rw [if_pos trivial, getD_of' h2, getD_of' h3, getD_of' h1]
   show _ + (areaQ s ⟨3, c, m⟩ + 0) = _
   rw [e]; grind
def Good (s : Sl) (q : Rat) : Prop := ∃ u v g, Sz KX u ∧ Sz KX v ∧ Sz 400000 g ∧ q = (s.hi.y - s.lo.y) * (u - s.lo.x) + (g - s.lo.y) * (v - u)
theorem Good.sz {s : Sl} {q : Rat} (hz : s.sz) (h : Good s q) : Sz 1000000 q := by
 obtain ⟨u, v, g, hu, hv, hg, rfl⟩ := h
 exact (((hz.hi.2.sub hz.lo.2).mul (hu.sub hz.lo.1)).add ((hg.sub hz.lo.2).mul (hv.sub hu))).le (by decide)
theorem strip_none {s : Sl} {c : Nat} (h : ¬ c + 1 < s.X.xs.length) : kindL s 3 c = [] := by
 have : cntK s 3 c = 0 := by
   show stripN s 1 c = 0
   unfold stripN; rw [if_neg (fun k => h k.2.1)]
 rw [kindL, this]; rfl
theorem strip_cnt {s : Sl} {c : Nat} {t : Ln Nat} (h : s.is) (ht : s.S.xs[c]? = some t) (hc : c + 1 < s.X.xs.length) : (cntK s 3 c).toNat = t.xs.length + 1 := by
 obtain ⟨e1, e2, e3⟩ := Sl.is_len h
 show (stripN s 1 c).toNat = _
 unfold stripN
 rw [if_pos ⟨(List.getElem?_eq_some_iff.1 ht).1, hc, by omega⟩, List.getD_eq_getElem?_getD, List.getElem?_map, ht]
 simp only [Option.map_some, Option.getD_some]; omega
theorem colF_split (s : Sl) (c : Nat) : ∃ N, colF s c 4 = N ++ kindL s 3 c ∧ ∀ x ∈ N, x.k ≠ 3 := by
 refine ⟨kindL s 0 c ++ (kindL s 1 c ++ kindL s 2 c), ?_, fun x hx => ?_⟩
 · show kindL s 0 c ++ (kindL s 1 c ++ (kindL s 2 c ++ (kindL s 3 c ++ []))) = _
   simp
 · rcases List.mem_append.1 hx with hx | hx
   · rw [(kindL_mem hx).1]; decide
   · rcases List.mem_append.1 hx with hx | hx
     · rw [(kindL_mem hx).1]; decide
     · rw [(kindL_mem hx).1]; decide
theorem kind3_take {s : Sl} {c : Nat} (j : Nat) : (kindL s 3 c).take j = (List.range (min j (cntK s 3 c).toNat)).map fun r => ⟨3, c, r⟩ := by
 rw [kindL, ← List.map_take, List.take_range]
theorem col_take {s : Sl} (h : s.is) (hz : s.sz) (hzx : s.szX) {c : Nat} {u : Rat} (hu : s.X.xs[c]? = some u) (m : Nat) : Good s ((s.hi.y - s.lo.y) * (u - s.lo.x) + sumA s ((colF s c 4).take m)) := by
 obtain ⟨e1, e2, e3⟩ := Sl.is_len h
 obtain ⟨N, hN, hN3⟩ := colF_split s c
 have zu := hzx.X u (List.mem_of_getElem? hu)
 have zl : Sz 400000 s.lo.y := hz.lo.2.le (by decide)
 rw [hN, List.take_append, sumA_append, sumA_none _ (fun x hx => hN3 x (List.mem_of_mem_take hx))]
 by_cases hc : c + 1 < s.X.xs.length
 · obtain ⟨v, hv⟩ : ∃ v, s.X.xs[c + 1]? = some v := ⟨_, List.getElem?_eq_getElem hc⟩
   obtain ⟨t, ht⟩ : ∃ t, s.S.xs[c]? = some t := ⟨_, List.getElem?_eq_getElem (by omega)⟩
   have zv := hzx.X v (List.mem_of_getElem? hv)
   have zm : Sz KY ((u + v) / 2) := ((zu.add zv).div (show Sz 2 (2 : Rat) from ⟨by decide, by decide⟩)).le (by decide)
   rw [kind3_take, strip_cnt h ht hc, sum_regions ht hu hv _ (Nat.min_le_right _ _)]
   exact ⟨u, v, (hgtsL s t ((u + v) / 2)).getD (min (m - N.length) (t.xs.length + 1)) 0, zu, zv, (onP_sz hz (l := t) (row := min (m - N.length) (t.xs.length + 1)) zm).2, by rw [Rat.zero_add]⟩
 · rw [strip_none hc, List.take_nil]
   exact ⟨u, u, s.lo.y, zu, zu, zl, by show _ + (0 + (0 : Rat)) = _; grind⟩
theorem col_sum {s : Sl} (h : s.is) {c : Nat} {u v : Rat} (hu : s.X.xs[c]? = some u) (hv : s.X.xs[c + 1]? = some v) : sumA s (colF s c 4) = (s.hi.y - s.lo.y) * (v - u) := by
 obtain ⟨e1, e2, e3⟩ := Sl.is_len h
 obtain ⟨N, hN, hN3⟩ := colF_split s c
 have hc := (List.getElem?_eq_some_iff.1 hv).1
 obtain ⟨t, ht⟩ : ∃ t, s.S.xs[c]? = some t := ⟨_, List.getElem?_eq_getElem (by omega)⟩
 rw [hN, sumA_append, sumA_none _ hN3, kindL, strip_cnt h ht hc, sum_regions ht hu hv _ (Nat.le_refl _)]
 have hl : (hgtsL s t ((u + v) / 2)).getD (t.xs.length + 1) 0 = s.hi.y := by
   refine getD_of' ?_
   rw [hgtsL, List.getElem?_cons_succ, List.getElem?_append_right (by simp)]; simp
 rw [hl]; grind
theorem col_last {s : Sl} {c : Nat} (hc : ¬ c + 1 < s.X.xs.length) : sumA s (colF s c 4) = 0 := by
 obtain ⟨N, hN, hN3⟩ := colF_split s c
 rw [hN, sumA_append, sumA_none _ hN3, strip_none hc]
 show (0 : Rat) + 0 = 0; grind
theorem cols_take {s : Sl} (h : s.is) (hz : s.sz) (hzx : s.szX) : ∀ (n c : Nat) (u : Rat), c + n = s.X.xs.length → 0 < n → s.X.xs[c]? = some u → ∀ m, Good s ((s.hi.y - s.lo.y) * (u - s.lo.x) + sumA s ((colsL s c n).take m))
 | 0, c, u, _, h0, _, m => absurd h0 (by omega)
 | n + 1, c, u, hc, _, hu, m => by
   show Good s (_ + sumA s ((colF s c 4 ++ colsL s (c + 1) n).take m))
   rw [List.take_append, sumA_append]
   by_cases hm : m ≤ (colF s c 4).length
   · rw [show m - (colF s c 4).length = 0 by omega, List.take_zero]
     have := col_take h hz hzx hu m
     rw [show (s.hi.y - s.lo.y) * (u - s.lo.x) + (sumA s ((colF s c 4).take m) + sumA s []) = (s.hi.y - s.lo.y) * (u - s.lo.x) + sumA s ((colF s c 4).take m) by show _ + (_ + (0 : Rat)) = _; grind]
     exact this
   · rw [List.take_of_length_le (by omega)]
     by_cases hn : n = 0
     · subst hn
       rw [col_last (by omega)]
       have := col_take h hz hzx hu 0
       rw [show (s.hi.y - s.lo.y) * (u - s.lo.x) + ((0 : Rat) + sumA s ((colsL s (c + 1) 0).take (m - (colF s c 4).length))) = (s.hi.y - s.lo.y) * (u - s.lo.x) + sumA s ((colF s c 4).take 0) by
         show _ + ((0 : Rat) + sumA s (([] : List Cel).take _)) = _ + (0 : Rat)
         rw [List.take_nil]; show _ + ((0 : Rat) + 0) = _; grind]
       exact this
     · obtain ⟨v, hv⟩ : ∃ v, s.X.xs[c + 1]? = some v := ⟨_, List.getElem?_eq_getElem (by omega)⟩
       have := cols_take h hz hzx n (c + 1) v (by omega) (by omega) hv (m - (colF s c 4).length)
       rw [col_sum h hu hv]
       rw [show (s.hi.y - s.lo.y) * (u - s.lo.x) + ((s.hi.y - s.lo.y) * (v - u) + sumA s ((colsL s (c + 1) n).take (m - (colF s c 4).length))) = (s.hi.y - s.lo.y) * (v - s.lo.x) + sumA s ((colsL s (c + 1) n).take (m - (colF s c 4).length)) by grind]
       exact this
theorem cols_sum {s : Sl} (h : s.is) {w : Rat} (hw : s.X.xs[s.X.xs.length - 1]? = some w) : ∀ (n c : Nat) (u : Rat), c + n = s.X.xs.length → 0 < n → s.X.xs[c]? = some u → sumA s (colsL s c n) = (s.hi.y - s.lo.y) * (w - u)
 | 0, c, u, _, h0, _ => absurd h0 (by omega)
 | n + 1, c, u, hc, _, hu => by
   show sumA s (colF s c 4 ++ colsL s (c + 1) n) = _
   rw [sumA_append]
   by_cases hn : n = 0
   · subst hn
     rw [col_last (by omega)]
     rw [show s.X.xs.length - 1 = c by omega, hu] at hw
     cases hw
     show (0 : Rat) + 0 = _; grind
   · obtain ⟨v, hv⟩ : ∃ v, s.X.xs[c + 1]? = some v := ⟨_, List.getElem?_eq_getElem (by omega)⟩
     rw [col_sum h hu hv, cols_sum h hw n (c + 1) v (by omega) (by omega) hv]; grind
theorem cells_good {s : Sl} (h : s.is) (hz : s.sz) (hzx : s.szX) (hx : s.lo.x ≤ s.hi.x) (m : Nat) : Sz 1000000 (sumA s ((cellsL s).take m)) := by
 obtain ⟨e1, e2, e3⟩ := Sl.is_len h
 have := (cols_take h hz hzx _ 0 s.lo.x (by omega) e3 (Sl.is_first h hx) m).sz hz
 rwa [show (s.hi.y - s.lo.y) * (s.lo.x - s.lo.x) + sumA s ((colsL s 0 s.X.xs.length).take m) = sumA s ((cellsL s).take m) by rw [cellsL]; grind] at this
theorem cells_sum {s : Sl} (h : s.is) (hx : s.lo.x ≤ s.hi.x) : sumA s (cellsL s) = (s.hi.x - s.lo.x) * (s.hi.y - s.lo.y) := by
 obtain ⟨e1, e2, e3⟩ := Sl.is_len h
 rw [cellsL, cols_sum h (Sl.is_last h hx) _ 0 s.lo.x (by omega) e3 (Sl.is_first h hx)]; grind
theorem area_sz {s : Sl} (hz : s.sz) (hzx : s.szX) {x : Cel} (hx : (x.r : Int) < cntK s x.k x.c) (hk : x.k < 4) : Sz 1100000 (areaQ s x) := by
 have z0 : Sz 1100000 (0 : Rat) := (show Sz 1 (0 : Rat) from ⟨by decide, by decide⟩).le (by decide)
 obtain ⟨k, c, r⟩ := x
 by_cases h3 : k = 3
 · subst h3
   obtain ⟨t, x, y, h1, h2, h3, h4, h5⟩ := stripN_inv (show (r : Int) < stripN s 1 c from hx)
   have zx := hzx.X x (List.mem_of_getElem? h2)
   have zy := hzx.X y (List.mem_of_getElem? h3)
   have zm : Sz KY ((x + y) / 2) := ((zx.add zy).div (show Sz 2 (2 : Rat) from ⟨by decide, by decide⟩)).le (by decide)
   have e : areaQ s ⟨3, c, r⟩ = ((hgtsL s t ((x + y) / 2)).getD (r + 1) 0 - (hgtsL s t ((x + y) / 2)).getD r 0) * (y - x) := by
     simp only [areaQ]; rw [if_pos trivial, getD_of' h2, getD_of' h3, getD_of' h1]
   rw [e]
   exact (((onP_sz hz (l := t) (row := r + 1) zm).2.sub (onP_sz hz (l := t) (row := r) zm).2).mul (zy.sub zx)).le (by decide)
 · rw [show areaQ s ⟨k, c, r⟩ = 0 from if_neg h3]; exact z0
end Go.Sx
end
section
/- The law of areas. -/
set_option maxRecDepth 10000
set_option maxHeartbeats 2000000
namespace Go.Sx
open Go Go.Proofs
theorem sumA_snoc {s : Sl} {l : List Cel} {i : Nat} {x : Cel} (h : l[i]? = some x) : sumA s (l.take (i + 1)) = sumA s (l.take i) + areaQ s x := by
 rw [take_snoc' h, sumA_append]
 show _ + (areaQ s x + 0) = _
 grind
theorem w_SlabAreas (b : Bx) (A : Option Addr) (c : Nat) (l : List (Pt × Pt)) (hlc : l.length ≤ c) :
   FnM PP f_narrowslaw16_SlabAreas [bxV b, .slice A l.length c] (facts [SlRes A (rowV sgC l)]) (retsV (.bool true)) := by
 refine FnS.of TBgood mixed h_narrowslaw16_SlabAreas rfl rfl (Nat.le_of_ble_eq_true rfl) (by simp [SlRes.ok]) ?_
 intro w hw
 by_cases hno : grt16 b l = true ∨ 8 < l.length ∨ bldE b l ≠ 0
 · have hn := c_lbuildNo b A c l hno
   conv => whnf
   refine cfs hn ?_
   conv => whnf
   refine cf c_awake16 ?_
   conv => whnf
   exact postV_one rfl
 obtain ⟨lo, hi, E, hB⟩ := Bld.of hno
 obtain ⟨rfl, rfl, hg, hlen, hx, hy, hlo, hhi, hE⟩ := hB
 have hb := c_lbuildOk lo hi E A c hg hlen hx hy hE hlo hhi
 rw [List.length_map, show rowV sgC (E.map fun e => (PQ e.1, PQ e.2)) = rowV sgq E from rowV_map ..]
 conv => whnf
 refine CallVC.e hb.enters (CallV.facts hb rfl (fun R h => h)) (fun i => F'_ok i) (fun d _ => ?_)
 obtain ⟨d, e1, e2, e3, his, e5⟩ := d
 have e6 : Ln.R sgq d.sg = SlRes A (rowV sgq E) := by rw [e3]; rfl
 have hF : ∀ R ∈ d.F, R ∈ d.F' ++ [SlRes A (rowV sgq E)] := fun R hR => by
   rcases Sl.F_F' hR with h | h
   · exact List.mem_append_left _ h
   · rw [h, e6]; exact List.mem_append_right _ (List.mem_cons_self ..)
 obtain ⟨hsm, hcl⟩ := Sl.is_small his (by rw [e3]; exact hlen)
 have hdz : d.sz := ⟨fun e he => hE e (by rw [e3] at he; exact he), by rw [e1]; exact hlo, by rw [e2]; exact hhi⟩
 have hdx := Sl.is_szX his hdz
 have hce := c_slCells d hsm hcl
 obtain ⟨re, hre⟩ : ∃ re, re = d.F' ++ [SlRes A (rowV sgq E)] := ⟨_, rfl⟩
 obtain ⟨cells, hcells⟩ : ∃ cs, cs = cellsL d := ⟨_, rfl⟩
 have hlx : d.lo.x ≤ d.hi.x := by rw [e1, e2]; exact Rat.le_of_lt hx
 have hly : d.lo.y < d.hi.y := by rw [e1, e2]; exact hy
 have hsum := cells_sum his hlx
 have hgood := cells_good his hdz hdx hlx
 rw [← hcells] at hce hcl hsum hgood
 rw [← hre] at hF
 conv => whnf
 refine CallVC.o 23 hce.enters (CallV.facts hce rfl (fun R h => by have := hF R h; rw [hre] at this; exact this)) rfl rfl ?_
 conv => whnf
 obtain ⟨n, hn⟩ : ∃ n, n = cells.length := ⟨_, rfl⟩
 rw [← hn] at hcl
 refine sexec_loop (ι := Nat) (fun i => ⟨[(2, .o (.p 2 0)), (5, .o (.p 5 0)), (7, .o (.p 7 0)), (23, .o (.w 23)), (24, .o (.v (.int .i64 n))), (25, .o (.v (.int .i64 i)))],
     [(2, .box ((boxC ⟨PQ lo, PQ hi⟩).map AV.v) t_api_Box), (5, slM d), (7, ratM (Q (sumA d (cells.take i)))), (23, .own t_api_Cell 3 n (rowV Cel.C cells))], re⟩)
   (fun i => i ≤ n) (fun i => n - i) 0 (Nat.zero_le _) (SLe.id ⟨rfl, rfl, rfl, rfl, by rw [hn]; rfl, rfl, trivial⟩ ⟨⟨_, rfl, .refl _⟩, ⟨_, rfl, .refl _⟩, ⟨_, rfl, by rw [show sumA d (cells.take 0) = 0 from rfl, Q_zero]; exact .refl _⟩, ⟨_, rfl, by rw [hn]; exact .refl _⟩, trivial⟩ (fun R hR => by rw [hre] at hR; exact hR)) ?_
 intro i hi0
 have hi0 : i ≤ n := hi0
 conv => whnf
 by_cases hi' : i < n
 rotate_left
 · refine br_false (decide_eq_false (show ¬ (i : Int) < (n : Int) by omega)) ?_
   have hf : sumA d (cells.take i) = (hi.x - lo.x) * (hi.y - lo.y) := by rw [List.take_of_length_le (by omega), hsum, e1, e2]
   have hvs := c_vSub (PQ hi) (PQ lo) (hhi.q.le (by decide)) (hlo.q.le (by decide))
   rw [PQ_v, PQ_v] at hvs
   have hmu := c_rMul (Q (hi.x - lo.x)) (Q (hi.y - lo.y)) ((hhi.1.sub hlo.1).q.le (by decide)) ((hhi.2.sub hlo.2).q.le (by decide))
   rw [Q_v, Q_v] at hmu
   conv => whnf
   refine cf hvs ?_
   conv => whnf
   refine DrawVC.quiet (by kernel_rfl) ?_
   conv => whnf
   refine cd hmu ?_
   conv => whnf
   refine br_true ((eqR (Q (sumA d (cells.take i))) (Q ((hi.x - lo.x) * (hi.y - lo.y)))).trans (decide_eq_true (by rw [hf]))) ?_
   conv => whnf
   refine cd c_awake16 ?_
   conv => whnf
   exact postV_one rfl
 refine br_true (decide_eq_true (show (i : Int) < (n : Int) by omega)) ?_
 obtain ⟨x, hx'⟩ : ∃ x, cells[i]? = some x := ⟨_, List.getElem?_eq_getElem (by omega)⟩
 have hxm : x ∈ cellsL d := by rw [← hcells]; exact List.mem_of_getElem? hx'
 obtain ⟨m1, m2, m3⟩ := cellsL_mem hxm
 have har := c_slArea d x hsm hdz hdx m2 m3
 have hpos : x.k = 3 → 0 < areaQ d x := fun h => by
   obtain ⟨k, cc, r⟩ := x
   obtain rfl : k = 3 := h
   exact area_pos his hly m3
 have hzero : x.k ≠ 3 → areaQ d x = 0 := fun h => if_neg h
 have hza := area_sz hdz hdx m3 m2
 have hs1 := sumA_snoc (s := d) hx'
 have hsg := c_rSign (Q (areaQ d x)) (hza.q.le (by decide))
 rw [Q_v] at hsg
 have hadd := c_rAdd (Q (sumA d (cells.take i))) (Q (areaQ d x)) ((hgood i).q.le (by decide)) (hza.q.le (by decide))
 rw [Q_v, Q_v] at hadd
 conv => whnf
 refine ⟨by show (0 : Int) ≤ (i : Int) ∧ (i : Int) < n; omega, ?_⟩
 conv => whnf
 refine RowVC.elem Cel.C Cel.C_len (k := i) (by show (i : Int).toNat * 3 = i * 3; rw [Int.toNat_natCast]) (by omega) (by decide) (fun h => by cases h) ?_
 intro x' hx2
 obtain rfl : x' = x := by rw [hx'] at hx2; exact (Option.some.inj hx2).symm
 conv => whnf
 refine cfs har ?_ rfl (fun R h => hF R h)
 conv => whnf
 refine DrawVC.quiet (by kernel_rfl) ?_
 conv => whnf
 refine cd hsg ?_
 conv => whnf
 have hnn : ¬ cmpQ (areaQ d x') 0 < 0 := fun h => by
   have := cmpQ_lt.1 h
   by_cases h3 : x'.k = 3
   · have := hpos h3; grind
   · have := hzero h3; grind
 refine br_false (decide_eq_false hnn) ?_
 conv => whnf
 refine cd hsg ?_
 conv => whnf
 refine br_false (show (!(decide (cmpQ (areaQ d x') 0 > 0) == ((x'.k : Int) == 3))) = false from ?_) ?_
 · by_cases h3 : x'.k = 3
   · rw [decide_eq_true (cmpQ_gt.2 (hpos h3)), h3]; rfl
   · rw [decide_eq_false (fun h => by have := cmpQ_gt.1 h; have := hzero h3; grind), show ((x'.k : Int) == 3) = false by rw [beq_eq_false_iff_ne]; omega]; rfl
 conv => whnf
 refine cf hadd ?_
 conv => whnf
 exact ⟨i + 1, by show i + 1 ≤ n; omega, by show n - (i + 1) < n - i; omega, SLe.id ⟨rfl, rfl, rfl, rfl, rfl, some_wrap hi' (by omega), trivial⟩ ⟨⟨_, rfl, .refl _⟩, ⟨_, rfl, .refl _⟩, ⟨_, rfl, by rw [hs1]; exact .refl _⟩, ⟨_, rfl, .refl _⟩, trivial⟩ (fun R hR => hR)⟩
end Go.Sx
end
section
/-
 The law SlabAreas of the program answers true for every input and leaves its arguments as they were; no conditions.
-/
namespace Go.Proofs.YtjhgjniipoemgaaGreat
open Go.Sx Go.ChangeShapes Go.WideShapes Go.ChangeAt Go.RowKit
set_option maxRecDepth 100000 in
theorem lifted_slabAreas (os : Os) (started : os.Started) (H : Type) (enc : TypeId × Value → H) :
   ReturnsInHanded {} Tryz.checked os 5 .any (Rows.slabAreasSpec.pre6 enc Tryz.prog Tryz.f5 Rows.slabAreasRow.domain false) (Rows.slabAreasSpec.post enc Tryz.prog Tryz.f5 false true false false) := by
 refine returnsInHanded_of_change (C := Tryz.checked) ownP started (by kernel_rfl) Tryz.func5
   (ChangeSpec.witness6 (enc := enc) (C := Tryz.checked) false ⟨#[], #[.agg #[.bool false, .string ByteArray.empty, .string ByteArray.empty, .bool false, .string ByteArray.empty, .string ByteArray.empty, .bool false, .string ByteArray.empty, .string ByteArray.empty, .bool false, .string ByteArray.empty, .string ByteArray.empty], .slice none 0 0], []⟩ 8 (by kernel_rfl) (by kernel_rfl) (by kernel_rfl) (by kernel_rfl)) ?_
 intro W base args ds gs before hval0 hW hcnd _
 have hval : ∀ (j : Nat) t v, Tryz.f5.params[j]? = some t → args[j]? = some v → Value.okWide Tryz.prog W .any base t v := hval0
 have hW' := hW
 obtain ⟨p, q, hA0, hV, rfl, hfz, hnd⟩ := hW
 have hA : DataW.TrodAll enc Tryz.prog W 0 (fun _ => true) true Tryz.f5.params.toList args.toList ds p := hA0
 rw [Tryz.params5] at hA hval
 obtain ⟨v0, vs0, d0, ds0, p0, q0, hargs, rfl, rfl, h0, r0⟩ := trodAll_cons hA
 obtain ⟨v1, vs1, d1, ds1, p1, q1, rfl, rfl, rfl, h1, r1⟩ := trodAll_cons r0
 obtain ⟨rfl, rfl, rfl⟩ := trodAll_nil r1
 obtain rfl : args = #[v0, v1] := by cases args; simp_all
 obtain ⟨rfl, rfl⟩ := trodVars_none hV
 have lt0 : ∀ x ∈ p0, x.block < W.heap.size := by obtain ⟨m, hm⟩ := h0; exact DataW.trod_lt m _ _ _ hm
 have k0 : DataW.Trod enc PP W 0 (fun _ => true) true t_api_Box v0 d0 p0 := h0
 obtain ⟨a0, rfl⟩ := open_box (hval 0 _ v0 rfl rfl) k0
 have lt1 : ∀ x ∈ p1, x.block < W.heap.size := by obtain ⟨m, hm⟩ := h1; exact DataW.trod_lt m _ _ _ hm
 have k1 : DataW.Trod enc PP W 0 (fun _ => true) true t_sl_api_Segment v1 d1 p1 := h1
 obtain ⟨A1, c1, a1, rfl, l1, F1⟩ := open_sgs (hval 1 _ v1 rfl rfl) k1
 clear hA0 hval0
 refine ((w_SlabAreas a0 A1 c1 a1 l1).calls W (factsOne F1)).mono fun e W' ⟨he, bel0⟩ => ?_
 subst he
 have bel := bel0.b
 exact ⟨_, rfl, _, _, _, [], _, [], hW', trodAll_mk1 (shut_bool u_bool _), (trodAll_cons_mk (Below.trod laidOut (by kernel_rfl) (of_decide_eq_true (by kernel_rfl)) k0 bel lt0) (trodAll_cons_mk (Below.trod laidOut (by kernel_rfl) (of_decide_eq_true (by kernel_rfl)) k1 bel lt1) trodAll_mk0)), rfl, bel.frame _, fun h => by cases h⟩
theorem slabAreas_holds : Rows.SlabAreasSaid :=
 OpenClaim.holds_of_wide 5 Tryz.f5 rfl rfl rfl rfl rfl rfl rfl ⟨rfl, rfl, rfl, rfl, rfl⟩ rfl rfl rfl rfl rfl (by kernel_rfl) Tryz.func5 (by kernel_rfl)
   (of_decide_eq_true (by kernel_rfl)) (by unfold Func.isWrapper; first | (rw [if_pos (by decide +kernel)]; kernel_rfl) | (rw [if_neg (by decide +kernel)]; exact ⟨rfl, rfl⟩))
   (fun os started H enc _ => lifted_slabAreas os started H enc)
end Go.Proofs.YtjhgjniipoemgaaGreat
end
#print axioms Go.Proofs.YtjhgjniipoemgaaGreat.slabAreas_holds
