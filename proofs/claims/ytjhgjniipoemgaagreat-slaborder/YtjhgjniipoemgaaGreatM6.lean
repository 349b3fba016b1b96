/- The law SlabOrder of the program answers true for every input, and its arguments read as before. No conditions. -/
import Derived.Test.YtjhgjniipoemgaaGreatM5
import Derived.Test.YtjhgjniipoemgaaGreatM4
import Derived.Test.YtjhgjniipoemgaaGreatRows
import Derived.WalkKit
import Derived.ProofKit
import Derived.OpenShut
import Derived.ShutString
import Derived.ChangeOld
import Derived.Below
import Derived.Carry
import Derived.Handed
set_option linter.unusedVariables false
set_option linter.unusedSimpArgs false
set_option linter.unusedSectionVars false
section
/- A symbolic executor over loaded Go code: a region whose order is drawn, with one call in it that is not quiet. -/
namespace Go.Sx
open Go Go.RowKit
section
variable {P : Program} {T : TT} {C : Cx} {ro : Option Nat} {n : Nat}
def setAll : List Nat → Array Bool → Array Bool
 | [], l => l
 | k :: r, l => setAll r (l.setIfInBounds k true)
def preFrom (ops : Array Oper) (late : Late) (m : Nat) : List Nat → Array Bool → Bool
 | [], _ => true
 | k :: r, listed => isQ late m k && ((Region.ready .any ops listed).contains k && Region.free .any ops listed k && waits ops late m k listed) && preFrom ops late m r (listed.setIfInBounds k true)
theorem ready_pre {ops : Array Oper} {listed : Array Bool} {k : Nat} {o : Oper} (h0 : ops[k]? = some o) (hrd : k ∈ Region.ready .any ops listed) : ∀ e ∈ o.after, Region.binds .any e = true → listed[e.on]? = some true := by
 obtain ⟨_, o', ho', hall⟩ := mem_ready.1 hrd
 rw [h0] at ho'; cases ho'
 intro e he hbe
 have := hall e he hbe
 rcases Nat.lt_or_ge e.on listed.size with h' | h'
 · simp [h'] at this ⊢; exact this
 · simp [Array.getElem?_eq_none h'] at this
theorem body_pre {ops : Array Oper} {late : Late} {m : Nat} {K Kp : SS → Prop} {fuel : Nat} : ∀ (r : List (Nat × Oper)) (listed : Array Bool) (st : SS), (∀ p ∈ r, ops[p.1]? = some p.2) → preFrom ops late m (r.map (·.1)) listed = true → Closed ops listed →
   dops P T C ops.toList late m r st Kp → (∀ s, Kp s → Closed ops (setAll (r.map (·.1)) listed) → SAny P T C ops late m K fuel (setAll (r.map (·.1)) listed) s) → SAny P T C ops late m K (r.length + fuel) listed st
 | [], listed, st, _, _, hcl, hs, hK => by rw [List.length_nil, Nat.zero_add]; exact hK st hs hcl
 | (k, o) :: r, listed, st, hr, hb, hcl, hs, hK => by
   have h0 : ops[k]? = some o := hr (k, o) (List.mem_cons_self ..)
   have hr' : ∀ p ∈ r, ops[p.1]? = some p.2 := fun p hp => hr p (List.mem_cons_of_mem _ hp)
   simp only [List.map_cons, preFrom, Bool.and_eq_true] at hb
   obtain ⟨⟨hkm, ⟨hready, hfree⟩, hwait⟩, hb⟩ := hb
   simp only [dops] at hs
   rw [hkm] at hs
   simp only [cond_true] at hs
   cases hlo : lateOk late k st o with
   | false => rw [hlo] at hs; exact hs.elim
   | true =>
   rw [hlo] at hs
   simp only [cond_true] at hs
   obtain ⟨hd, x, q, st1, he, hg, hK'⟩ := dsopG_inv hs
   have hspec := Region.free_spec h0 hfree
   have hrd : k ∈ Region.ready .any ops listed := by simpa using hready
   rw [show ((k, o) :: r).length + fuel = (r.length + fuel) + 1 by simp; omega]
   refine SAny.first (q := q) h0 hkm hd (r.length + fuel) listed st ?_ hcl hrd hg ?_
   · intro j oj hoj hne hun hno
     refine ⟨hspec j oj hoj hne hun hno, ?_⟩
     unfold waits at hwait
     rw [List.all_eq_true] at hwait
     have hj := hwait j (List.mem_range.2 (Array.getElem?_eq_some_iff.1 hoj).1)
     rw [hun] at hj
     simp only [Bool.or_eq_true, Bool.false_eq_true, false_or] at hj
     rcases hj with (hj | hj) | hj
     · exact .inl hj
     · exact .inr (.inl ⟨_, hj⟩)
     · obtain ⟨κ, fr, hκ, hm, hfr⟩ := lateFree_mem hj
       unfold lateOk at hlo
       rw [List.all_eq_true] at hlo
       have := hlo _ hm
       simp only [hfr, Bool.not_true, Bool.false_or] at this
       exact .inr (.inr ⟨κ, hκ, this⟩)
   · have := body_pre (K := K) (Kp := Kp) (fuel := fuel) r (listed.setIfInBounds k true) _ hr' hb (hcl.set h0 (ready_pre h0 hrd)) hK' (fun s hs hc => hK s hs hc)
     exact this.eqv (he.symm.upd o x q)
def pick (ops : List Oper) : List Nat → List (Nat × Oper)
 | [] => []
 | i :: r => match nth i ops with
   | some o => (i, o) :: pick ops r
   | none => pick ops r
theorem pick_mem {ops : Array Oper} : ∀ {l : List Nat}, ∀ p ∈ pick ops.toList l, ops[p.1]? = some p.2
 | [], p, hp => by cases hp
 | i :: r, p, hp => by
   unfold pick at hp
   split at hp
   · rename_i o ho
     rcases List.mem_cons.1 hp with rfl | hp
     · rw [nth_eq, Array.getElem?_toList] at ho; exact ho
     · exact pick_mem p hp
   · exact pick_mem p hp
def splitB (ops : Array Oper) (late : Late) (m : Nat) (pre : List Nat) (p q : Nat) (r1 r2 : List Nat) : Bool :=
 let l0 := Array.replicate ops.size false
 let L := setAll pre l0
 preFrom ops late m pre l0 && (((Region.ready .any ops L).contains p && (Region.ready .any ops L).contains q) && ((Region.ready .any ops L).all (fun i => Nat.beq i p || Nat.beq i q))) && (!(isQ late m p) && (isQ late m q && (lateOf late p).isNone)) && (bodyFrom ops late m r1 (L.setIfInBounds p true) && bodyFrom ops late m (p :: r2) (L.setIfInBounds q true))
 && (Nat.beq ((pick ops.toList pre).map (·.1)).length pre.length && Nat.beq (pick ops.toList r1).length r1.length && Nat.beq (pick ops.toList (p :: r2)).length (r2.length + 1) && Nat.beq r1.length (r2.length + 1) && Nat.beq (pre.length + 1 + r1.length) ops.size)
def atOp (ops : List Oper) (i : Nat) (f : Oper → Prop) : Prop := match nth i ops with
 | some o => f o
 | none => False
theorem pick_map {ops : List Oper} : ∀ {l : List Nat}, (pick ops l).length = l.length → (pick ops l).map (·.1) = l
 | [], _ => rfl
 | i :: r, h => by
   have hle : ∀ l : List Nat, (pick ops l).length ≤ l.length := fun l => by
     induction l with
     | nil => exact Nat.le_refl _
     | cons j t ih => unfold pick; split <;> simp <;> omega
   unfold pick at h ⊢
   split
   · rename_i o ho
     rw [ho] at h
     simp only [List.length_cons, Nat.add_right_cancel_iff] at h
     rw [List.map_cons, pick_map h]
   · rename_i ho
     rw [ho] at h
     have := hle r
     simp only [List.length_cons] at h
     omega
theorem WPS.drawS (hT : TTgood P T) (hmix : P.follows .mixedOrders = true) {id : Nat} {ops : Array Oper} {st : SS} {K : SS → Prop} {Q : Exit → SS → Prop} (late : Late) (m : Nat) (pre : List Nat) (p q : Nat) (r1 r2 : List Nat) (hb : splitB ops late m pre p q r1 r2 = true)
   (hs : dops P T C ops.toList late m (pick ops.toList pre) st (fun s => atOp ops.toList p (fun o => sopG P T C ops.toList o s (fun s' => dops P T C ops.toList late m (pick ops.toList r1) s' K)) ∧
     atOp ops.toList q (fun o => dsopG P T C ops.toList o s (fun s' => dops P T C ops.toList late m (pick ops.toList (p :: r2)) s' K)))) (hQ : ∀ s, K s → Q .normal s) : WPS P C (.region id ops true) st Q := ⟨fun a w h => by
 refine wpIn_region_any hmix ?_
 have h' : SR C st a { w with drawn := w.drawn + 1 } := by
   obtain ⟨E, hE⟩ := h
   exact ⟨E, hE.world ⟨rfl, rfl, rfl, Nat.le_refl _, fun _ _ => rfl, Nat.le_succ _⟩⟩
 unfold splitB at hb
 simp only [Bool.and_eq_true] at hb
 obtain ⟨⟨⟨⟨hpre, ⟨hcp, hcq⟩, hall⟩, hp, hq, hlp⟩, hb1, hb2⟩, ⟨⟨⟨hn0, hn1⟩, hn2⟩, hn3⟩, hn4⟩ := hb
 have hn0 := Nat.eq_of_beq_eq_true hn0
 have hn1 := Nat.eq_of_beq_eq_true hn1
 have hn2 := Nat.eq_of_beq_eq_true hn2
 have hn3 := Nat.eq_of_beq_eq_true hn3
 have hn4 := Nat.eq_of_beq_eq_true hn4
 rw [List.length_map] at hn0
 have hp : isQ late m p = false := by simpa using hp
 have hlp : lateOf late p = none := by simpa using hlp
 have hcl0 : Closed ops (Array.replicate ops.size false) := fun k ok hk => by simp [Array.getElem?_replicate] at hk
 have key : SAny P T C ops late m K ((pick ops.toList pre).length + (r1.length + 1)) (Array.replicate ops.size false) st := by
   refine body_pre (pick ops.toList pre) _ st (fun x hx => pick_mem x hx) (by rw [pick_map hn0]; exact hpre) hcl0 hs ?_
   rintro s ⟨hA, hB⟩ hcl
   rw [pick_map hn0] at hcl ⊢
   have hpm : p ∈ Region.ready .any ops (setAll pre (Array.replicate ops.size false)) := by simpa using hcp
   have hqm : q ∈ Region.ready .any ops (setAll pre (Array.replicate ops.size false)) := by simpa using hcq
   unfold atOp at hA hB
   cases hop : nth p ops.toList with
   | none => rw [hop] at hA; exact hA.elim
   | some op =>
   cases hoq : nth q ops.toList with
   | none => rw [hoq] at hB; exact hB.elim
   | some oq =>
   rw [hop] at hA
   rw [hoq] at hB
   simp only at hA hB
   have hop' : ops[p]? = some op := by rw [nth_eq, Array.getElem?_toList] at hop; exact hop
   have hoq' : ops[q]? = some oq := by rw [nth_eq, Array.getElem?_toList] at hoq; exact hoq
   have next1 : ∀ s', dops P T C ops.toList late m (pick ops.toList r1) s' K → SAny P T C ops late m K r1.length ((setAll pre (Array.replicate ops.size false)).setIfInBounds p true) s' := fun s' hs' => by
     have := body_any (P := P) (T := T) (C := C) (K := K) (late := late) (m := m) (pick ops.toList r1) _ s' (fun x hx => pick_mem x hx) (by rw [pick_map hn1]; exact hb1) (hcl.set hop' (ready_pre hop' hpm)) hs'
     rwa [hn1] at this
   have next2 : ∀ s', dops P T C ops.toList late m (pick ops.toList (p :: r2)) s' K → SAny P T C ops late m K r1.length ((setAll pre (Array.replicate ops.size false)).setIfInBounds q true) s' := fun s' hs' => by
     have := body_any (P := P) (T := T) (C := C) (K := K) (late := late) (m := m) (pick ops.toList (p :: r2)) _ s' (fun x hx => pick_mem x hx) (by rw [pick_map (by rw [hn2]; rfl)]; exact hb2) (hcl.set hoq' (ready_pre hoq' hqm)) hs'
     rwa [hn2, ← hn3] at this
   refine ⟨fun h => (by rw [h] at hpm; cases hpm), fun i hi => ?_⟩
   have hi2 : i = p ∨ i = q := by
     rw [List.all_eq_true] at hall
     have := hall i hi
     simp only [Bool.or_eq_true] at this
     exact this.imp Nat.eq_of_beq_eq_true Nat.eq_of_beq_eq_true
   rcases hi2 with rfl | rfl
   · unfold SOp
     simp only [hop']
     rw [if_neg (by rw [hp]; simp)]
     simp only [hlp]
     exact ⟨s, fun _ _ h => h, sopG_mono next1 hA⟩
   · unfold SOp
     simp only [hoq']
     rw [if_pos hq]
     obtain ⟨hd, x, mq, st1, he, hg, hK⟩ := dsopG_inv hB
     exact ⟨hd, x, mq, hg, (next2 _ hK).eqv (he.symm.upd oq x mq)⟩
 have h2 := key.sound (ro := none) (n := 0) hT (Q := lift C Q) (fun st' a' w' hk hr => ⟨st', hr, hQ st' hk⟩) h'
 rw [show (pick ops.toList pre).length + (r1.length + 1) = ops.size by omega] at h2
 simpa using h2⟩
theorem CallVC.fzB {st : SS} {g : FuncId} {args : List SV} {K : SV → SS → Prop} (k : Nat) {xs : List Value} (hx : boxV st k = some xs) (h : ∀ b, CallVC P C g (args.map (SV.mp (AV.fz k b))) (st.fz k (AV.fz k b) (SlRes (some ⟨b, 0, none⟩) xs)) K) : CallVC P C g args st K := by
 refine ⟨(h 0).enters, fun E w hm => ?_⟩
 have hb : ∃ b t m0, lk k st.me = some m0 ∧ E.β k = some b ∧ w.heap[b]? = some (.cells xs.toArray t (0, 0)) := by
   unfold boxV at hx
   split at hx
   · rename_i cs ty hl
     obtain ⟨b, hb, hc⟩ := hm.ent _ _ hl
     rw [allV_real E hx] at hc
     exact ⟨b, ty, _, hl, hb, hc⟩
   · rename_i cs ty hl
     cases hx
     obtain ⟨b, hb, hc⟩ := hm.ent _ _ hl
     exact ⟨b, ty, _, hl, hb, hc⟩
   · cases hx
 obtain ⟨b, t, m0, hl, hb, hc⟩ := hb
 have hm2 := ((MemOk.act (st := st) hm).fz hl (fz_real hb) (SlRes.ok (some ⟨b, 0, none⟩) xs) (.inr ⟨b, 0, rfl, fun j v hj => by rw [cell_of hc, Nat.zero_add]; simpa using hj⟩) (fun b' hb' => by
   obtain ⟨a', h1, h2⟩ := SlB_sub hb'
   cases h1; rw [h2]; exact hb)).mem
 have hargs : args.map (SV.real E) = (args.map (SV.mp (AV.fz k b))).map (SV.real E) := by
   rw [List.map_map]; exact List.map_congr_left fun y _ => (SV.mp_real (fz_real hb) y).symm
 rw [hargs]
 refine ((h b).out E w hm2).mono ?_
 rintro e w' ⟨E', st', x, h1, h2, h3, h4, h5⟩
 refine ⟨E', st', x, h1, h2, h3, fun i sv hi => ?_, h5⟩
 obtain ⟨sv0, h6, h7⟩ := h4 i sv hi
 obtain ⟨y, h8, rfl⟩ := lk_mpT h6
 exact ⟨y, h8, by rw [h7, SV.mp_real (fz_real hb)]⟩
end
end Go.Sx
end
section
set_option maxRecDepth 10000
set_option maxHeartbeats 2000000
namespace Go.Sx
open Go Go.Proofs
theorem c_EqInt (A B : Option Addr) (c d : Nat) (xs ys : List Nat) (hx : xs.length ≤ 1000000) :
   FnM PP f_slices_Equal_sl_int_int [.slice A xs.length c, .slice B ys.length d] (facts [SlRes A (rowV intC xs), SlRes B (rowV intC ys)]) (retsV (.bool (decide (xs = ys)))) := by
 refine FnS.of TBgood mixed h_slices_Equal_sl_int_int rfl rfl (Nat.le_of_ble_eq_true rfl) (fun R hR => by simp only [List.mem_cons, List.not_mem_nil, or_false] at hR; rcases hR with rfl | rfl <;> exact SlRes.ok _ _) ?_
 intro w hw
 have hA : 0 < xs.length → A.isSome = true := fun h => slres_some (facts_two hw).1 (by rw [rowV_length intC_len]; omega)
 have hB : 0 < ys.length → B.isSome = true := fun h => slres_some (facts_two hw).2 (by rw [rowV_length intC_len]; omega)
 conv => whnf
 by_cases hl : xs.length = ys.length
 rotate_left
 · refine br_true (show (!((xs.length : Int) == (ys.length : Int))) = true by rw [Bool.not_eq_true', beq_eq_false_iff_ne]; omega) ?_
   conv => whnf
   refine postV_one (congrArg Value.bool ?_)
   rw [decide_eq_false (fun h => hl (by rw [h]))]
 refine br_false (show (!((xs.length : Int) == (ys.length : Int))) = false by rw [Bool.not_eq_false', beq_iff_eq]; omega) ?_
 conv => whnf
 refine sexec_loop (ι := Nat) (fun i => ⟨[(0, .o (.v (.slice A xs.length c))), (1, .o (.v (.slice B ys.length d))), (12, .o (.v (.int .i64 xs.length))), (13, .o (.v (.int .i64 i)))], [], [SlRes A (rowV intC xs), SlRes B (rowV intC ys)]⟩)
   (fun i => i ≤ xs.length ∧ xs.take i = ys.take i) (fun i => xs.length - i) 0 ⟨Nat.zero_le _, rfl⟩
   (SLe.id ⟨rfl, rfl, rfl, rfl, trivial⟩ trivial (fun R hR => hR)) ?_
 rintro i ⟨hi0, hi1⟩
 conv => whnf
 by_cases hi : i < xs.length
 rotate_left
 · refine br_false (decide_eq_false (show ¬ (i : Int) < (xs.length : Int) by omega)) ?_
   rw [List.take_of_length_le (by omega), List.take_of_length_le (by omega)] at hi1
   conv => whnf
   exact postV_one (congrArg Value.bool (decide_eq_true hi1).symm)
 refine br_true (decide_eq_true (show (i : Int) < (xs.length : Int) by omega)) ?_
 obtain ⟨x, hx1⟩ : ∃ x, xs[i]? = some x := ⟨_, List.getElem?_eq_getElem hi⟩
 obtain ⟨y, hy1⟩ : ∃ y, ys[i]? = some y := ⟨_, List.getElem?_eq_getElem (by omega)⟩
 conv => whnf
 refine DrawVC.quiet (by kernel_rfl) ?_
 conv => whnf
 refine ⟨⟨by omega, by omega, hA (by omega)⟩, ?_⟩
 conv => whnf
 refine LoadVC.elem (A := A) (xs := xs) (j := (i : Int)) intC intC_len (List.mem_cons_self ..) rfl (by rw [Int.toNat_natCast]; omega) (by decide) (fun _ => rfl) ?_
 intro x' hx'
 obtain rfl : x' = x := by rw [Int.toNat_natCast, hx1] at hx'; exact (Option.some.inj hx').symm
 conv => whnf
 refine ⟨⟨by omega, by omega, hB (by omega)⟩, ?_⟩
 conv => whnf
 refine LoadVC.elem (A := B) (xs := ys) (j := (i : Int)) intC intC_len (List.mem_cons_of_mem _ (List.mem_cons_self ..)) rfl (by rw [Int.toNat_natCast]; omega) (by decide) (fun _ => rfl) ?_
 intro y' hy'
 obtain rfl : y' = y := by rw [Int.toNat_natCast, hy1] at hy'; exact (Option.some.inj hy').symm
 conv => whnf
 by_cases hxy : x' = y'
 rotate_left
 · refine br_true (show (!((x' : Int) == (y' : Int))) = true by rw [Bool.not_eq_true', beq_eq_false_iff_ne]; omega) ?_
   conv => whnf
   refine postV_one (congrArg Value.bool (decide_eq_false (fun h => hxy ?_)).symm)
   rw [h] at hx1; rw [hx1] at hy1; exact Option.some.inj hy1
 refine br_false (show (!((x' : Int) == (y' : Int))) = false by rw [Bool.not_eq_false', beq_iff_eq]; omega) ?_
 conv => whnf
 exact ⟨i + 1, ⟨by omega, by rw [take_snoc' hx1, take_snoc' hy1, hi1, hxy]⟩, by show xs.length - (i + 1) < xs.length - i; omega, SLe.id ⟨rfl, rfl, rfl, some_wrap hi (by omega), trivial⟩ trivial (fun S hS => hS)⟩
deriving instance DecidableEq for Pc
abbrev awE : List (V × V) := [(⟨1, 1⟩, ⟨3, 3⟩)]
abbrev awP : List Pc := [⟨⟨1, 1⟩, ⟨3, 3⟩, 0⟩]
theorem awPcs : pcsL ⟨0, 0⟩ ⟨4, 4⟩ awE = awP := by decide +kernel
theorem awX : xsL ⟨0, 0⟩ ⟨4, 4⟩ awP = [0, 1, 3, 4] := by decide +kernel
theorem awL : ([0, 1, 3, 4] : List Rat).map (ysL ⟨0, 0⟩ ⟨4, 4⟩ awP) = [[0, 4], [0, 1, 4], [0, 3, 4], [0, 4]] := by decide +kernel
theorem awS : stripsL (strpL ⟨0, 0⟩ ⟨4, 4⟩ awP) [0, 1, 3, 4] = [[], [0], []] := by decide +kernel
structure AwS (s : Sl) : Prop where
 lo : s.lo = ⟨0, 0⟩
 hi : s.hi = ⟨4, 4⟩
 sg : s.sg.xs = awE
 is : s.is
theorem AwS.xs {s : Sl} (h : AwS s) : s.X.xs = [0, 1, 3, 4] ∧ s.L.xs.map (·.xs) = [[0, 4], [0, 1, 4], [0, 3, 4], [0, 4]] ∧ s.S.xs.map (·.xs) = [[], [0], []] := by
 obtain ⟨h1, h2, h3, h4, h5, h6⟩ := h
 rw [h1, h2, h3, awPcs, awX] at h4
 rw [h1, h2, h3, awPcs, h4, awL] at h5
 rw [h1, h2, h3, awPcs, h4, awS] at h6
 exact ⟨h4, h5, h6⟩
theorem AwS.cnt {s : Sl} (h : AwS s) (k c : Nat) : cntK s k c = (match k with | 0 => [2, 3, 3, 2].getD c 0 | 1 => [1, 2, 2, 1].getD c 0 | 2 => [2, 3, 2].getD c 0 | _ => [1, 2, 1].getD c 0) := by
 obtain ⟨hX, hL, hS⟩ := h.xs
 have lX : s.X.xs.length = 4 := by rw [hX]; rfl
 have lL : s.L.xs.length = 4 := by have := congrArg List.length hL; simpa using this
 have lS : s.S.xs.length = 3 := by have := congrArg List.length hS; simpa using this
 have mL : s.L.xs.map (fun x => (x.xs.length : Int)) = [2, 3, 3, 2] := by rw [show s.L.xs.map (fun x => (x.xs.length : Int)) = (s.L.xs.map (·.xs)).map (fun l => (l.length : Int)) by rw [List.map_map]; rfl, hL]; rfl
 have mS : s.S.xs.map (fun x => (x.xs.length : Int)) = [0, 1, 0] := by rw [show s.S.xs.map (fun x => (x.xs.length : Int)) = (s.S.xs.map (·.xs)).map (fun l => (l.length : Int)) by rw [List.map_map]; rfl, hS]; rfl
 have line : ∀ d, lineN s d c = if c < 4 then ([2, 3, 3, 2] : List Int).getD c 0 - d else 0 := fun d => by
   unfold lineN; rw [lX, lL, mL]
   by_cases hc : c < 4
   · rw [if_pos ⟨hc, hc⟩, if_pos hc]
   · rw [if_neg (fun h => hc h.1), if_neg hc]
 have strip : ∀ d, stripN s d c = if c < 3 then ([0, 1, 0] : List Int).getD c 0 + d else 0 := fun d => by
   unfold stripN; rw [lX, lL, lS, mS]
   by_cases hc : c < 3
   · rw [if_pos ⟨hc, by omega, by omega⟩, if_pos hc]
   · rw [if_neg (fun h => hc h.1), if_neg hc]
 have big : ∀ {l : List Int}, l.length ≤ c → l.getD c 0 = 0 := fun h => by rw [List.getD_eq_getElem?_getD, List.getElem?_eq_none h]; rfl
 match k with
 | 0 => show lineN s 0 c = _; rw [line]; match c with | 0 => rfl | 1 => rfl | 2 => rfl | 3 => rfl | c + 4 => rw [if_neg (by omega)]; rfl
 | 1 => show lineN s 1 c = _; rw [line]; match c with | 0 => rfl | 1 => rfl | 2 => rfl | 3 => rfl | c + 4 => rw [if_neg (by omega)]; rfl
 | 2 => show stripN s 2 c = _; rw [strip]; match c with | 0 => rfl | 1 => rfl | 2 => rfl | c + 3 => rw [if_neg (by omega)]; rfl
 | k + 3 => show stripN s 1 c = _; rw [strip]; match c with | 0 => rfl | 1 => rfl | 2 => rfl | c + 3 => rw [if_neg (by omega)]; rfl
theorem AwS.small {s : Sl} (h : AwS s) : s.small := by
 obtain ⟨hX, hL, hS⟩ := h.xs
 have lX : s.X.xs.length = 4 := by rw [hX]; rfl
 have lL : s.L.xs.length = 4 := by have := congrArg List.length hL; simpa using this
 have lS : s.S.xs.length = 3 := by have := congrArg List.length hS; simpa using this
 refine ⟨by omega, by omega, by omega, fun l hl => ?_, fun l hl => ?_, by rw [h.sg]; decide⟩
 · have : l.xs ∈ s.L.xs.map (·.xs) := List.mem_map.2 ⟨l, hl, rfl⟩
   rw [hL] at this
   revert this; generalize l.xs = t; intro this
   simp only [List.mem_cons, List.not_mem_nil, or_false] at this
   rcases this with rfl | rfl | rfl | rfl <;> decide
 · have : l.xs ∈ s.S.xs.map (·.xs) := List.mem_map.2 ⟨l, hl, rfl⟩
   rw [hS] at this
   revert this; generalize l.xs = t; intro this
   simp only [List.mem_cons, List.not_mem_nil, or_false] at this
   rcases this with rfl | rfl | rfl <;> decide
theorem AwS.sz {s : Sl} (h : AwS s) : s.sz := by
 refine ⟨fun e he => ?_, ?_, ?_⟩
 · rw [h.sg, List.mem_singleton] at he
   subst he
   exact ⟨⟨⟨⟨by decide, by decide⟩, ⟨by decide, by decide⟩⟩, ⟨⟨by decide, by decide⟩, ⟨by decide, by decide⟩⟩⟩, by decide⟩
 · rw [h.lo]; exact ⟨⟨by decide, by decide⟩, ⟨by decide, by decide⟩⟩
 · rw [h.hi]; exact ⟨⟨by decide, by decide⟩, ⟨by decide, by decide⟩⟩
def awCells : List Cel := [⟨0, 0, 0⟩, ⟨0, 0, 1⟩, ⟨1, 0, 0⟩, ⟨2, 0, 0⟩, ⟨2, 0, 1⟩, ⟨3, 0, 0⟩, ⟨0, 1, 0⟩, ⟨0, 1, 1⟩, ⟨0, 1, 2⟩, ⟨1, 1, 0⟩, ⟨1, 1, 1⟩, ⟨2, 1, 0⟩, ⟨2, 1, 1⟩, ⟨2, 1, 2⟩, ⟨3, 1, 0⟩, ⟨3, 1, 1⟩,
 ⟨0, 2, 0⟩, ⟨0, 2, 1⟩, ⟨0, 2, 2⟩, ⟨1, 2, 0⟩, ⟨1, 2, 1⟩, ⟨2, 2, 0⟩, ⟨2, 2, 1⟩, ⟨3, 2, 0⟩, ⟨0, 3, 0⟩, ⟨0, 3, 1⟩, ⟨1, 3, 0⟩]
theorem AwS.cells {s : Sl} (h : AwS s) : cellsL s = awCells := by
 have hk : ∀ k c, kindL s k c = (List.range (match k with | 0 => [2, 3, 3, 2].getD c 0 | 1 => [1, 2, 2, 1].getD c 0 | 2 => [2, 3, 2].getD c 0 | _ => ([1, 2, 1].getD c 0 : Int)).toNat).map fun r => ⟨k, c, r⟩ := fun k c => by rw [kindL, h.cnt]
 have hX : s.X.xs.length = 4 := by rw [h.xs.1]; rfl
 rw [cellsL, hX]
 simp only [colsL, colF, hk]
 decide +kernel
theorem AwS.cen {s : Sl} (h : AwS s) : cenP s ⟨3, 1, 1⟩ = ⟨2, 3⟩ := by
 obtain ⟨hX, hL, hS⟩ := h.xs
 have lS : s.S.xs.length = 3 := by have := congrArg List.length hS; simpa using this
 obtain ⟨t, ht⟩ : ∃ t, s.S.xs[1]? = some t := ⟨_, List.getElem?_eq_getElem (by omega)⟩
 have htx : t.xs = [0] := by
   have := congrArg (fun l : List (List Nat) => l[1]?) hS
   simp only [List.getElem?_map, ht, Option.map_some] at this
   exact Option.some.inj this
 have hon : ∀ r x, onP s t r x = ⟨x, ([0, (hgtE ⟨1, 1⟩ ⟨3, 3⟩ x).1, 4] : List Rat).getD r 0⟩ := fun r x => by
   rw [onP, hgtsL, htx, h.lo, h.hi]
   show (⟨x, ([0, hgtS s x 0, 4] : List Rat).getD r 0⟩ : V) = _
   rw [hgtS, h.sg]; rfl
 simp only [cenP]
 rw [hX, getD_of' ht, hon, hon]
 decide +kernel

end Go.Sx
end
section
set_option maxRecDepth 10000
set_option maxHeartbeats 2000000
namespace Go.Sx
open Go Go.Proofs
def cless (a b : Cel) : Prop := a.c < b.c ∨ (a.c = b.c ∧ (a.k < b.k ∨ (a.k = b.k ∧ a.r < b.r)))
instance (a b : Cel) : Decidable (cless a b) := inferInstanceAs (Decidable (_ ∨ _))
def sgn (k : Nat) : Int := if k = 0 ∨ k = 3 then 1 else -1
theorem Sl.is_len {s : Sl} (h : s.is) : s.L.xs.length = s.X.xs.length ∧ s.S.xs.length = s.X.xs.length - 1 ∧ 0 < s.X.xs.length := by
 obtain ⟨h1, h2, h3⟩ := h
 have e2 := congrArg List.length h2
 have e3 := congrArg List.length h3
 rw [stripsL_len] at e3
 simp only [List.length_map] at e2 e3
 refine ⟨e2, e3, ?_⟩
 rw [h1]
 have : s.lo.x ∈ xsL s.lo s.hi (pcsL s.lo s.hi s.sg.xs) := ascL_mem.2 (List.mem_cons_self ..)
 exact List.length_pos_of_mem this
theorem Sl.is_line {s : Sl} (h : s.is) {l : Ln Rat} (hl : l ∈ s.L.xs) : ∃ x, l.xs = ysL s.lo s.hi (pcsL s.lo s.hi s.sg.xs) x := by
 have : l.xs ∈ s.L.xs.map (·.xs) := List.mem_map.2 ⟨l, hl, rfl⟩
 rw [h.2.1] at this
 obtain ⟨x, _, hx⟩ := List.mem_map.1 this
 exact ⟨x, hx.symm⟩
theorem stripsL_mem {f : Rat → Rat → List Nat} {t : List Nat} : ∀ {l : List Rat}, t ∈ stripsL f l → ∃ x y, t = f x y
 | [], h => by cases h
 | [_], h => by cases h
 | x :: y :: r, h => by
   rcases List.mem_cons.1 h with rfl | h
   · exact ⟨x, y, rfl⟩
   · exact stripsL_mem h
theorem Sl.is_strip {s : Sl} (h : s.is) {l : Ln Nat} (hl : l ∈ s.S.xs) : ∃ x y, l.xs = strpL s.lo s.hi (pcsL s.lo s.hi s.sg.xs) x y := by
 have : l.xs ∈ s.S.xs.map (·.xs) := List.mem_map.2 ⟨l, hl, rfl⟩
 rw [h.2.2] at this
 exact stripsL_mem this
theorem ysL_len {lo hi : V} {ps : List Pc} {x : Rat} : (ysL lo hi ps x).length ≤ 2 + 3 * ps.length := by
 refine Nat.le_trans (ascL_len _) ?_
 have := ord_len x ps
 simp only [List.length_cons]; omega
theorem strpL_len {lo hi : V} {ps : List Pc} {l r : Rat} : (strpL lo hi ps l r).length ≤ ps.length := by
 refine Nat.le_trans (fstL_len _) ?_
 rw [(sortC_perm _).length_eq]
 exact List.length_filterMap_le _ _
theorem pcsL_len {lo hi : V} {E : List (V × V)} : (pcsL lo hi E).length ≤ E.length := pcsF_len ..
theorem cntK_le {s : Sl} {B : Nat} (hL : ∀ l ∈ s.L.xs, l.xs.length ≤ B) (hS : ∀ l ∈ s.S.xs, l.xs.length ≤ B) (k c : Nat) : cntK s k c ≤ B + 2 := by
 have h1 : ∀ d, lineN s d c ≤ B + 2 := fun d => by
   unfold lineN; split
   · rename_i h
     have := hL _ (List.getElem_mem h.1)
     rw [List.getD_eq_getElem?_getD, List.getElem?_map, List.getElem?_eq_getElem h.1]
     simp only [Option.map_some, Option.getD_some]; omega
   · omega
 have h2 : ∀ d, d ≤ 2 → stripN s d c ≤ B + 2 := fun d hd => by
   unfold stripN; split
   · rename_i h
     have := hS _ (List.getElem_mem h.1)
     rw [List.getD_eq_getElem?_getD, List.getElem?_map, List.getElem?_eq_getElem h.1]
     simp only [Option.map_some, Option.getD_some]; omega
   · omega
 match k with
 | 0 => exact h1 0
 | 1 => exact h1 1
 | 2 => exact h2 2 (by omega)
 | _ + 3 => exact h2 1 (by omega)
theorem colF_len {s : Sl} {B c : Nat} (h : ∀ k, cntK s k c ≤ B) : ∀ j, (colF s c j).length ≤ j * B
 | 0 => by simp [colF]
 | j + 1 => by
   have h1 := colF_len h j
   have h2 := h (3 - j)
   rw [colF, List.length_append, Nat.succ_mul]
   simp only [kindL, List.length_map, List.length_range]
   omega
theorem colsL_len {s : Sl} {B : Nat} (h : ∀ k c, cntK s k c ≤ B) : ∀ n c, (colsL s c n).length ≤ n * (4 * B)
 | 0, c => by simp [colsL]
 | n + 1, c => by
   have h1 := colsL_len h n (c + 1)
   have h2 := colF_len (c := c) (fun k => h k c) 4
   rw [colsL, List.length_append, Nat.succ_mul]
   omega
theorem Sl.is_small {s : Sl} (h : s.is) (hE : s.sg.xs.length ≤ 8) : s.small ∧ (cellsL s).length ≤ 1000000000 := by
 obtain ⟨e1, e2, e3⟩ := Sl.is_len h
 have hp : (pcsL s.lo s.hi s.sg.xs).length ≤ 8 := Nat.le_trans pcsL_len hE
 have hX : s.X.xs.length ≤ 6418 := by
   rw [h.1]
   refine Nat.le_trans (ascL_len _) ?_
   have := absG_len (pcsL s.lo s.hi s.sg.xs) (pcsL s.lo s.hi s.sg.xs).length (by omega)
   simp only [List.length_cons]; omega
 have hL : ∀ l ∈ s.L.xs, l.xs.length ≤ 26 := fun l hl => by
   obtain ⟨x, hx⟩ := Sl.is_line h hl
   rw [hx]; exact Nat.le_trans ysL_len (by omega)
 have hS : ∀ l ∈ s.S.xs, l.xs.length ≤ 26 := fun l hl => by
   obtain ⟨x, y, hx⟩ := Sl.is_strip h hl
   rw [hx]; exact Nat.le_trans strpL_len (by omega)
 refine ⟨⟨by omega, by omega, by omega, fun l hl => Nat.le_trans (hL l hl) (by decide), fun l hl => Nat.le_trans (hS l hl) (by decide), by omega⟩, ?_⟩
 have hc := colsL_len (B := 28) (fun k c => cntK_le hL hS k c) s.X.xs.length 0
 refine Nat.le_trans hc ?_
 exact Nat.le_trans (Nat.mul_le_mul_right _ hX) (by decide)
theorem ysL_sz {lo hi : V} {ps : List Pc} {x : Rat} (hlo : SzV K0 lo) (hhi : SzV K0 hi) (hps : PcsOk ps) (hx : Sz KX x) : ∀ y ∈ ysL lo hi ps x, Sz 200000 y := fun y hy => by
 rw [ysL, ascL_mem] at hy
 rcases List.mem_cons.1 hy with rfl | hy
 · exact hlo.2.le (by decide)
 rcases List.mem_cons.1 hy with rfl | hy
 · exact hhi.2.le (by decide)
 obtain ⟨p, hp, hy⟩ := List.mem_flatMap.1 hy
 exact ordP_sz (hps p hp).1 hx y hy
theorem Sl.is_szX {s : Sl} (h : s.is) (hz : s.sz) : s.szX := by
 have hps : PcsOk (pcsL s.lo s.hi s.sg.xs) := pcsL_ok hz.lo hz.hi (fun e he => (hz.sg e he).1)
 have hX : ∀ x ∈ s.X.xs, Sz KX x := fun x hx => by rw [h.1] at hx; exact xsL_sz hz.lo hz.hi hps x hx
 refine ⟨hX, fun l hl => ?_⟩
 have : l.xs ∈ s.L.xs.map (·.xs) := List.mem_map.2 ⟨l, hl, rfl⟩
 rw [h.2.1] at this
 obtain ⟨x, hx, e⟩ := List.mem_map.1 this
 rw [← e]
 exact ysL_sz hz.lo hz.hi hps (hX x hx)
end Go.Sx
end
section
set_option maxRecDepth 10000
set_option maxHeartbeats 2000000
namespace Go.Sx
open Go Go.Proofs
theorem Sl.F_F' {s : Sl} {R : Res} (h : R ∈ s.F) : R ∈ s.F' ∨ R = s.sg.R sgq := by
 rcases List.mem_append.1 h with h | h
 · exact .inl (List.mem_append_left _ h)
 · simp only [List.mem_cons, List.not_mem_nil, or_false] at h
   rcases h with rfl | rfl | rfl | rfl
   · exact .inl (List.mem_append_right _ (by simp))
   · exact .inl (List.mem_append_right _ (by simp))
   · exact .inl (List.mem_append_right _ (by simp))
   · exact .inr rfl
theorem F'_ok {lo hi : V} {E : List (V × V)} {A : Option Addr} {c : Nat} (s : BuildOk lo hi E A c) : ∀ R ∈ s.1.F', R.ok := fun R hR => by
 rcases List.mem_append.1 hR with hR | hR
 · rcases List.mem_append.1 hR with hR | hR
   · obtain ⟨l, _, rfl⟩ := List.mem_map.1 hR; exact SlRes.ok _ _
   · obtain ⟨l, _, rfl⟩ := List.mem_map.1 hR; exact SlRes.ok _ _
 · simp only [List.mem_cons, List.not_mem_nil, or_false] at hR
   rcases hR with rfl | rfl | rfl <;> exact SlRes.ok _ _
theorem pt_V {a b : Int} {x y : Rat} (hx : (a : Rat) = x) (hy : (b : Rat) = y) : pV (pt a b) = pV (PQ ⟨x, y⟩) := by rw [← hx, ← hy]
abbrev zP : List Value := [.bool false, .string ⟨#[]⟩, .string ⟨#[]⟩, .bool false, .string ⟨#[]⟩, .string ⟨#[]⟩]
theorem boxC_aw : bxV ⟨PQ ⟨0, 0⟩, PQ ⟨4, 4⟩⟩ = .agg ⟨zP ++ ptC (PQ ⟨4, 4⟩)⟩ := by
 rw [show PQ (⟨0, 0⟩ : V) = ⟨Q 0, Q 0⟩ from rfl, Q_zero]; rfl
def cn (i k : Nat) : Nat := (awCells.take i).countP (fun x => x.k == k)
theorem cn_succ {i : Nat} {x : Cel} (h : awCells[i]? = some x) (k : Nat) : cn (i + 1) k = cn i k + (if x.k = k then 1 else 0) := by
 rw [cn, take_snoc' h, List.countP_append, cn]
 congr 1
 by_cases hk : x.k = k <;> simp [hk]
theorem cn_le (i k : Nat) : cn i k ≤ 27 := by
 refine Nat.le_trans (List.countP_le_length) ?_
 rw [List.length_take]; exact Nat.min_le_right _ _
theorem awK : ∀ x ∈ awCells, x.k < 4 := by decide
theorem c_awake16 : Fn PP f_narrowslaw16_awake [] (.bool true) := by
 have h44 := c_pt 4 4 (by decide) (by decide)
 have h11 := c_pt 1 1 (by decide) (by decide)
 have h33 := c_pt 3 3 (by decide) (by decide)
 have h23 := c_pt 2 3 (by decide) (by decide)
 rw [pt_V (x := 4) (y := 4) (by decide) (by decide)] at h44
 rw [pt_V (x := 1) (y := 1) (by decide) (by decide)] at h11
 rw [pt_V (x := 3) (y := 3) (by decide) (by decide)] at h33
 rw [pt_V (x := 2) (y := 3) (by decide) (by decide)] at h23
 have h := FnM.ofS (re := []) (R := retsV (.bool true)) (post := postV (.bool true)) TBgood mixed h_narrowslaw16_awake rfl rfl (Nat.le_of_ble_eq_true rfl) (by simp) (fun w l st E w' hp hm => postV_ok hp hm) (vs := []) ?_
 · exact ⟨h.enters, fun w _ => h.calls w (by simp [facts])⟩
 intro w _
 refine WPS.peel TBgood mixed ?_
 conv => whnf
 refine WPS.peel TBgood mixed ?_
 conv => whnf
 refine cf h44 ?_
 conv => whnf
 refine WPS.seq ?_
 have hbuild : ∀ b : Nat, FnM PP f_slab_Build [.agg ⟨zP ++ ptC (PQ ⟨4, 4⟩)⟩, .slice (some ⟨b, 0, none⟩) 1 1] (facts [SlRes (some ⟨b, 0, none⟩) (rowV sgq awE)]) (retsE (ι := BuildOk ⟨0, 0⟩ ⟨4, 4⟩ awE (some ⟨b, 0, none⟩) 1) (fun s => .tuple #[s.1.V, .int .i64 0]) (fun s => s.1.F')) := fun b => by
   rw [← boxC_aw]
   exact c_BuildOk ⟨0, 0⟩ ⟨4, 4⟩ (some ⟨b, 0, none⟩) 1 awE ⟨⟨by decide, by decide⟩, ⟨by decide, by decide⟩⟩ ⟨⟨by decide, by decide⟩, ⟨by decide, by decide⟩⟩ (by decide) (by decide) (fun e he => by
     rw [List.mem_singleton] at he
     subst he
     exact ⟨⟨⟨⟨by decide, by decide⟩, ⟨by decide, by decide⟩⟩, ⟨⟨by decide, by decide⟩, ⟨by decide, by decide⟩⟩⟩, by decide⟩) (by decide)
 refine WPS.drawS TBgood mixed [(10, 2, [8])] (10 + 4294967296 * 6) [0, 1, 2, 3, 4] 5 9 [6, 7, 8, 9, 10, 11] [6, 7, 8, 10, 11] (K := fun s => ∃ d : Sl, AwS d ∧ SLe ⟨w, [], b_narrowslaw16_awake.ntmps⟩ s ⟨[(0, .o (.v (.bool false))), (2, .o (.p 2 0)), (3, .o (.v (.int .i64 0)))], [(2, slM d)], d.F⟩) (by kernel_rfl) ?_ ?_
 · conv => whnf
   refine cd h11 ?_
   conv => whnf
   refine cd h33 ?_
   conv => whnf
   constructor
   · conv => whnf
     refine CallVC.fzB 16 rfl (fun b => ?_)
     have hb := hbuild b
     refine CallVC.e hb.enters (CallV.facts hb rfl (fun R hR => by rw [List.mem_singleton.1 hR]; exact List.mem_cons_self ..)) (fun i => F'_ok i) (fun d _ => ?_)
     obtain ⟨d, e1, e2, e3, e4, e5⟩ := d
     have e6 : Ln.R sgq d.sg = SlRes (some ⟨b, 0, none⟩) (rowV sgq awE) := by rw [e3]; rfl
     conv => whnf
     refine ⟨d, ⟨e1, e2, by rw [e3], e4⟩, SLe.id ⟨rfl, rfl, rfl, trivial⟩ ⟨⟨_, rfl, .refl _⟩, trivial⟩ (fun R hR => ?_)⟩
     rcases Sl.F_F' hR with h | h
     · exact List.mem_append_left _ h
     · rw [h, e6]; exact List.mem_append_right _ (List.mem_cons_self ..)
   · conv => whnf
     refine CallVC.fzB 16 rfl (fun b => ?_)
     have hb := hbuild b
     refine CallVC.e hb.enters (CallV.facts hb rfl (fun R hR => by rw [List.mem_singleton.1 hR]; exact List.mem_cons_self ..)) (fun i => F'_ok i) (fun d _ => ?_)
     obtain ⟨d, e1, e2, e3, e4, e5⟩ := d
     have e6 : Ln.R sgq d.sg = SlRes (some ⟨b, 0, none⟩) (rowV sgq awE) := by rw [e3]; rfl
     conv => whnf
     refine ⟨d, ⟨e1, e2, by rw [e3], e4⟩, SLe.id ⟨rfl, rfl, rfl, trivial⟩ ⟨⟨_, rfl, .refl _⟩, trivial⟩ (fun R hR => ?_)⟩
     rcases Sl.F_F' hR with h | h
     · exact List.mem_append_left _ h
     · rw [h, e6]; exact List.mem_append_right _ (List.mem_cons_self ..)
 rintro s1 ⟨d, hd, hle⟩
 refine WPS.le ?_ hle
 obtain ⟨hX, hL, hS⟩ := hd.xs
 have lX : d.X.xs.length = 4 := by rw [hX]; rfl
 have lL : d.L.xs.length = 4 := by have := congrArg List.length hL; simpa using this
 have lS : d.S.xs.length = 3 := by have := congrArg List.length hS; simpa using this
 obtain ⟨t, ht⟩ : ∃ t, d.S.xs[1]? = some t := ⟨_, List.getElem?_eq_getElem (by omega)⟩
 have htx : t.xs = [0] := by
   have := congrArg (fun l : List (List Nat) => l[1]?) hS
   simp only [List.getElem?_map, ht, Option.map_some] at this
   exact Option.some.inj this
 refine WPS.pure (p := d.S.A.isSome = true) (fun w' hR => slres_some (hR _ Sl.F_S) (by rw [rowV_length Ln.C_len]; omega)) (fun hAS => ?_)
 refine WPS.peel TBgood mixed ?_
 conv => whnf
 refine br_false (show ((d.X.xs.length : Int) != 4) = false by rw [lX]; rfl) ?_
 conv => whnf
 refine br_false (show ((d.L.xs.length : Int) != 4) = false by rw [lL]; rfl) ?_
 conv => whnf
 refine br_false (show ((d.S.xs.length : Int) != 3) = false by rw [lS]; rfl) ?_
 conv => whnf
 refine ⟨⟨by omega, by rw [lS]; decide, hAS⟩, ?_⟩
 conv => whnf
 refine LoadVC.elem (A := d.S.A) (xs := d.S.xs) (j := 1) Ln.C Ln.C_len Sl.F_S rfl (by rw [lS]; decide) (by decide) (fun _ => rfl) ?_
 intro t' ht'
 obtain rfl : t' = t := by rw [show (1 : Int).toNat = 1 from rfl, ht] at ht'; exact (Option.some.inj ht').symm
 conv => whnf
 refine CallVC.fzB 45 rfl (fun b => ?_)
 have he := c_EqInt t'.A (some ⟨b, 0, none⟩) t'.c 1 t'.xs [0] (by rw [htx]; decide)
 rw [decide_eq_true htx] at he
 refine cfs he ?_ rfl (fun R hR => ?_)
 rotate_left
 · simp only [List.mem_cons, List.not_mem_nil, or_false] at hR
   rcases hR with rfl | rfl
   · exact List.mem_cons_of_mem _ (Sl.F_s (List.mem_of_getElem? ht))
   · exact List.mem_cons_self ..
 conv => whnf
 refine WPS.peel TBgood mixed ?_
 conv => whnf
 have hc := c_slCells d hd.small (by rw [hd.cells]; decide)
 rw [hd.cells] at hc
 refine WPS.of TBgood mixed ?_
 conv => whnf
 refine CallVC.o 51 hc.enters (CallV.facts hc rfl (fun R hR => List.mem_cons_of_mem _ hR)) rfl rfl ?_
 conv => whnf
 refine sexec_loop (ι := Nat) (fun i => ⟨[(2, .o (.p 2 0)), (4, .o (.p 4 0)), (51, .o (.w 51)), (52, .o (.v (.int .i64 27))), (53, .o (.v (.int .i64 i)))],
     [(2, slM d), (4, .box [.v (.int .i64 (cn i 0)), .v (.int .i64 (cn i 1)), .v (.int .i64 (cn i 2)), .v (.int .i64 (cn i 3))] t_ar4_int), (51, .own t_api_Cell 3 27 (rowV Cel.C awCells))], d.F⟩)
   (fun i => i ≤ 27) (fun i => 27 - i) 0 (Nat.zero_le _) (SLe.id ⟨rfl, rfl, rfl, rfl, rfl, trivial⟩ ⟨⟨_, rfl, .refl _⟩, ⟨_, rfl, .refl _⟩, ⟨_, rfl, .refl _⟩, trivial⟩ (fun R hR => List.mem_cons_of_mem _ hR)) ?_
 intro i hi0
 conv => whnf
 by_cases hi : i < 27
 · refine br_true (decide_eq_true (show (i : Int) < 27 by omega)) ?_
   obtain ⟨x, hx⟩ : ∃ x, awCells[i]? = some x := ⟨_, List.getElem?_eq_getElem (show i < awCells.length from hi)⟩
   conv => whnf
   refine ⟨by show (0 : Int) ≤ (i : Int) ∧ (i : Int) < 27; omega, ?_⟩
   conv => whnf
   refine RowVC.elem Cel.C Cel.C_len (k := i) (by show (i : Int).toNat * 3 = i * 3; rw [Int.toNat_natCast]) hi (by decide) (fun h => by cases h) ?_
   intro x' hx'
   obtain rfl : x' = x := by rw [hx] at hx'; exact (Option.some.inj hx').symm
   have hk := awK x' (List.mem_of_getElem? hx)
   obtain ⟨k, c, r⟩ := x'
   have l0 := cn_le i 0
   have l1 := cn_le i 1
   have l2 := cn_le i 2
   have l3 := cn_le i 3
   have hk' : k = 0 ∨ k = 1 ∨ k = 2 ∨ k = 3 := by simp only at hk; omega
   rcases hk' with rfl | rfl | rfl | rfl
   · have hwk : IntKind.i64.wrap ((cn i 0 : Int) + 1) = ((cn i 0 + 1 : Nat) : Int) := by rw [wrap_i64 (by omega) (by omega)]; rfl
     have c0 : cn (i + 1) 0 = cn i 0 + 1 := cn_succ hx 0
     have c1 : cn (i + 1) 1 = cn i 1 := cn_succ hx 1
     have c2 : cn (i + 1) 2 = cn i 2 := cn_succ hx 2
     have c3 : cn (i + 1) 3 = cn i 3 := cn_succ hx 3
     conv => whnf
     refine ⟨⟨show (0 : Int) ≤ (0 : Int) by decide, show (0 : Int) < 4 by decide⟩, ?_⟩
     conv => whnf
     refine ⟨⟨show (0 : Int) ≤ (0 : Int) by decide, show (0 : Int) < 4 by decide⟩, ?_⟩
     conv => whnf
     refine ⟨i + 1, by show i + 1 ≤ 27; omega, by show 27 - (i + 1) < 27 - i; omega, SLe.id ⟨rfl, rfl, rfl, rfl, some_wrap hi (by omega), trivial⟩ ⟨⟨_, rfl, .refl _⟩, ⟨_, rfl, ?_⟩, ⟨_, rfl, .refl _⟩, trivial⟩ (fun R hR => hR)⟩
     rw [c0, c1, c2, c3, ← hwk]; exact .refl _
   · have hwk : IntKind.i64.wrap ((cn i 1 : Int) + 1) = ((cn i 1 + 1 : Nat) : Int) := by rw [wrap_i64 (by omega) (by omega)]; rfl
     have c0 : cn (i + 1) 0 = cn i 0 := cn_succ hx 0
     have c1 : cn (i + 1) 1 = cn i 1 + 1 := cn_succ hx 1
     have c2 : cn (i + 1) 2 = cn i 2 := cn_succ hx 2
     have c3 : cn (i + 1) 3 = cn i 3 := cn_succ hx 3
     conv => whnf
     refine ⟨⟨show (0 : Int) ≤ (1 : Int) by decide, show (1 : Int) < 4 by decide⟩, ?_⟩
     conv => whnf
     refine ⟨⟨show (0 : Int) ≤ (1 : Int) by decide, show (1 : Int) < 4 by decide⟩, ?_⟩
     conv => whnf
     refine ⟨i + 1, by show i + 1 ≤ 27; omega, by show 27 - (i + 1) < 27 - i; omega, SLe.id ⟨rfl, rfl, rfl, rfl, some_wrap hi (by omega), trivial⟩ ⟨⟨_, rfl, .refl _⟩, ⟨_, rfl, ?_⟩, ⟨_, rfl, .refl _⟩, trivial⟩ (fun R hR => hR)⟩
     rw [c0, c1, c2, c3, ← hwk]; exact .refl _
   · have hwk : IntKind.i64.wrap ((cn i 2 : Int) + 1) = ((cn i 2 + 1 : Nat) : Int) := by rw [wrap_i64 (by omega) (by omega)]; rfl
     have c0 : cn (i + 1) 0 = cn i 0 := cn_succ hx 0
     have c1 : cn (i + 1) 1 = cn i 1 := cn_succ hx 1
     have c2 : cn (i + 1) 2 = cn i 2 + 1 := cn_succ hx 2
     have c3 : cn (i + 1) 3 = cn i 3 := cn_succ hx 3
     conv => whnf
     refine ⟨⟨show (0 : Int) ≤ (2 : Int) by decide, show (2 : Int) < 4 by decide⟩, ?_⟩
     conv => whnf
     refine ⟨⟨show (0 : Int) ≤ (2 : Int) by decide, show (2 : Int) < 4 by decide⟩, ?_⟩
     conv => whnf
     refine ⟨i + 1, by show i + 1 ≤ 27; omega, by show 27 - (i + 1) < 27 - i; omega, SLe.id ⟨rfl, rfl, rfl, rfl, some_wrap hi (by omega), trivial⟩ ⟨⟨_, rfl, .refl _⟩, ⟨_, rfl, ?_⟩, ⟨_, rfl, .refl _⟩, trivial⟩ (fun R hR => hR)⟩
     rw [c0, c1, c2, c3, ← hwk]; exact .refl _
   · have hwk : IntKind.i64.wrap ((cn i 3 : Int) + 1) = ((cn i 3 + 1 : Nat) : Int) := by rw [wrap_i64 (by omega) (by omega)]; rfl
     have c0 : cn (i + 1) 0 = cn i 0 := cn_succ hx 0
     have c1 : cn (i + 1) 1 = cn i 1 := cn_succ hx 1
     have c2 : cn (i + 1) 2 = cn i 2 := cn_succ hx 2
     have c3 : cn (i + 1) 3 = cn i 3 + 1 := cn_succ hx 3
     conv => whnf
     refine ⟨⟨show (0 : Int) ≤ (3 : Int) by decide, show (3 : Int) < 4 by decide⟩, ?_⟩
     conv => whnf
     refine ⟨⟨show (0 : Int) ≤ (3 : Int) by decide, show (3 : Int) < 4 by decide⟩, ?_⟩
     conv => whnf
     refine ⟨i + 1, by show i + 1 ≤ 27; omega, by show 27 - (i + 1) < 27 - i; omega, SLe.id ⟨rfl, rfl, rfl, rfl, some_wrap hi (by omega), trivial⟩ ⟨⟨_, rfl, .refl _⟩, ⟨_, rfl, ?_⟩, ⟨_, rfl, .refl _⟩, trivial⟩ (fun R hR => hR)⟩
     rw [c0, c1, c2, c3, ← hwk]; exact .refl _
 refine br_false (decide_eq_false (show ¬ (i : Int) < 27 by omega)) ?_
 obtain rfl : i = 27 := by have : i ≤ 27 := hi0; omega
 have hcen := c_slCenter d ⟨3, 1, 1⟩ hd.small hd.sz (Sl.is_szX hd.is hd.sz) (by decide) (by rw [hd.cnt]; decide)
 rw [hd.cen] at hcen
 conv => whnf
 refine cfs hcen ?_
 conv => whnf
 have v0 : cn 27 0 = 10 := by decide
 have v1 : cn 27 1 = 6 := by decide
 have v2 : cn 27 2 = 7 := by decide
 have v3 : cn 27 3 = 4 := by decide
 refine DrawVC.quiet (by kernel_rfl) ?_
 conv => whnf
 refine cd h23 ?_
 conv => whnf
 exact postV_one (congrArg Value.bool ((eqPV ⟨2, 3⟩ ⟨2, 3⟩).trans (decide_eq_true rfl)))
end Go.Sx
end
section
set_option maxRecDepth 10000
set_option maxHeartbeats 2000000
namespace Go.Sx
open Go Go.Proofs
theorem c_large (p : Pt) : Fn PP f_narrowsref16_large [pV p] (.bool (bigP 10 p)) := by
 refine Fn.of TBgood mixed h_narrowsref16_large rfl rfl (Nat.le_of_ble_eq_true rfl) ?_
 intro w
 unfold bigP
 conv => whnf
 by_cases h1 : 10 < p.x.num.length
 · refine br_true (decide_eq_true (show ((p.x.num.length : Nat) : Int) > 10 by omega)) ?_
   rw [decide_eq_true h1]
   conv => whnf
   exact postV_one rfl
 refine br_false (decide_eq_false (show ¬ ((p.x.num.length : Nat) : Int) > 10 by omega)) ?_
 rw [decide_eq_false h1]
 conv => whnf
 by_cases h2 : 10 < p.x.den.length
 · refine br_true (decide_eq_true (show ((p.x.den.length : Nat) : Int) > 10 by omega)) ?_
   rw [decide_eq_true h2]
   conv => whnf
   exact postV_one rfl
 refine br_false (decide_eq_false (show ¬ ((p.x.den.length : Nat) : Int) > 10 by omega)) ?_
 rw [decide_eq_false h2]
 conv => whnf
 by_cases h3 : 10 < p.y.num.length
 · refine br_true (decide_eq_true (show ((p.y.num.length : Nat) : Int) > 10 by omega)) ?_
   rw [decide_eq_true h3]
   conv => whnf
   exact postV_one rfl
 refine br_false (decide_eq_false (show ¬ ((p.y.num.length : Nat) : Int) > 10 by omega)) ?_
 rw [decide_eq_false h3]
 conv => whnf
 refine postV_one (congrArg Value.bool ?_)
 show decide (((p.y.den.length : Nat) : Int) > 10) = (false || (false || (false || decide (10 < p.y.den.length))))
 rw [Bool.false_or, Bool.false_or, Bool.false_or]
 exact decide_eq_decide.2 (by omega)
def bigE (e : Pt × Pt) : Bool := bigP 10 e.1 || bigP 10 e.2
def grt16 (b : Bx) (l : List (Pt × Pt)) : Bool := (decide (8 < l.length) && decide (l.length ≤ 400)) || (decide (405 < l.length) || (bigP 10 b.lo || (bigP 10 b.hi || l.any bigE)))
theorem c_Great16 (b : Bx) (A : Option Addr) (c : Nat) (l : List (Pt × Pt)) : FnM PP f_narrowsref16_Great [bxV b, .slice A l.length c] (facts [SlRes A (rowV sgC l)]) (retsV (.bool (grt16 b l))) := by
 refine FnM.ofS TBgood mixed h_narrowsref16_Great rfl rfl (Nat.le_of_ble_eq_true rfl) (by simp [SlRes.ok]) (fun w l st E w' hp hm => postV_ok hp hm) ?_
 intro w hw
 have hA : 0 < l.length → ∃ b o, A = some ⟨b, o, none⟩ := fun h => by
   have h1 := slres_some (facts_one hw) (by rw [rowV_length sgC_len]; omega)
   obtain ⟨a, rfl⟩ := Option.isSome_iff_exists.1 h1
   obtain ⟨b, o, rfl⟩ := slf_addr (facts_one hw) (by intro h2; have := congrArg List.length h2; rw [rowV_length sgC_len] at this; simp at this; omega)
   exact ⟨b, o, rfl⟩
 obtain ⟨n, hn⟩ : ∃ n, n = l.length := ⟨_, rfl⟩
 have hg : grt16 b l = ((decide (8 < n) && decide (n ≤ 400)) || (decide (405 < n) || (bigP 10 b.lo || (bigP 10 b.hi || l.any bigE)))) := by rw [hn]; rfl
 rw [← hn] at hA ⊢
 have lo := c_large b.lo
 have hi := c_large b.hi
 obtain ⟨x, hx⟩ : ∃ x, x = bigP 10 b.lo := ⟨_, rfl⟩
 obtain ⟨y, hy⟩ : ∃ y, y = bigP 10 b.hi := ⟨_, rfl⟩
 rw [← hx] at lo hg
 rw [← hy] at hi hg
 refine WPS.peel TBgood mixed ?_
 conv => whnf
 refine WPS.cut TBgood mixed (ι := Unit) (fun _ => ⟨[(1, .o (.v (.slice A n c)))], [], [SlRes A (rowV sgC l)]⟩) (fun _ => n ≤ 405 ∧ grt16 b l = l.any bigE) ?_ ?_
 · have two : ∀ n8 : Prop, (n8 → True) → True := fun _ _ => trivial
   conv => whnf
   by_cases h8 : 8 < n
   · refine br_true (decide_eq_true (show (n : Int) > 8 by omega)) ?_
     conv => whnf
     by_cases h400 : n ≤ 400
     · refine br_true (decide_eq_true (show (n : Int) ≤ 400 by omega)) ?_
       have hgt : grt16 b l = true := by rw [hg, decide_eq_true h8, decide_eq_true h400]; rfl
       conv => whnf
       rw [hgt]
       exact postV_one rfl
     refine br_false (decide_eq_false (show ¬ (n : Int) ≤ 400 by omega)) ?_
     conv => whnf
     by_cases h405 : 405 < n
     · refine br_true (decide_eq_true (show (n : Int) > 405 by omega)) ?_
       have hgt : grt16 b l = true := by rw [hg, decide_eq_true h405]; simp
       conv => whnf
       rw [hgt]
       exact postV_one rfl
     refine br_false (decide_eq_false (show ¬ (n : Int) > 405 by omega)) ?_
     conv => whnf
     refine cf lo ?_
     cases x with
     | true =>
       have hgt : grt16 b l = true := by rw [hg]; simp
       conv => whnf
       rw [hgt]
       exact postV_one rfl
     | false =>
       conv => whnf
       refine cf hi ?_
       cases y with
       | true =>
         have hgt : grt16 b l = true := by rw [hg]; simp
         conv => whnf
         rw [hgt]
         exact postV_one rfl
       | false =>
         conv => whnf
         refine ⟨(), ⟨by omega, ?_⟩, SLe.id ⟨rfl, trivial⟩ trivial (fun R hR => hR)⟩
         rw [hg, decide_eq_false h405, ← Bool.decide_and, decide_eq_false (show ¬ (8 < n ∧ n ≤ 400) by omega)]; simp
   refine br_false (decide_eq_false (show ¬ (n : Int) > 8 by omega)) ?_
   conv => whnf
   by_cases h405 : 405 < n
   · refine br_true (decide_eq_true (show (n : Int) > 405 by omega)) ?_
     have hgt : grt16 b l = true := by rw [hg, decide_eq_true h405]; simp
     conv => whnf
     rw [hgt]
     exact postV_one rfl
   refine br_false (decide_eq_false (show ¬ (n : Int) > 405 by omega)) ?_
   conv => whnf
   refine cf lo ?_
   cases x with
   | true =>
     have hgt : grt16 b l = true := by rw [hg]; simp
     conv => whnf
     rw [hgt]
     exact postV_one rfl
   | false =>
     conv => whnf
     refine cf hi ?_
     cases y with
     | true =>
       have hgt : grt16 b l = true := by rw [hg]; simp
       conv => whnf
       rw [hgt]
       exact postV_one rfl
     | false =>
       conv => whnf
       refine ⟨(), ⟨by omega, ?_⟩, SLe.id ⟨rfl, trivial⟩ trivial (fun R hR => hR)⟩
       rw [hg, decide_eq_false h405, ← Bool.decide_and, decide_eq_false (show ¬ (8 < n ∧ n ≤ 400) by omega)]; simp
 rintro _ ⟨h405, hgl⟩
 rw [hgl]
 refine WPS.of TBgood mixed ?_
 conv => whnf
 refine sexec_loop (ι := Nat) (fun i => ⟨[(1, .o (.v (.slice A n c))), (5, .o (.v (.int .i64 i)))], [], [SlRes A (rowV sgC l)]⟩)
   (fun i => i ≤ n ∧ (l.take i).any bigE = false) (fun i => n - i) 0 ⟨Nat.zero_le _, rfl⟩ (SLe.id ⟨rfl, rfl, trivial⟩ trivial (fun R hR => hR)) ?_
 rintro i ⟨hi0, hi1⟩
 conv => whnf
 by_cases hin : i < n
 rotate_left
 · refine br_false (decide_eq_false (show ¬ (i : Int) < (n : Int) by omega)) ?_
   rw [List.take_of_length_le (by omega)] at hi1
   conv => whnf
   exact postV_one (congrArg Value.bool hi1.symm)
 refine br_true (decide_eq_true (show (i : Int) < (n : Int) by omega)) ?_
 obtain ⟨e, he⟩ : ∃ e, l[i]? = some e := ⟨_, List.getElem?_eq_getElem (by omega)⟩
 obtain ⟨ba, oa, rfl⟩ := hA (by omega)
 have hT : ∀ t, bigE e = t → (l.take (i + 1)).any bigE = t := fun t ht => by rw [take_snoc' he, List.any_append, hi1]; simpa using ht
 have hany : bigE e = true → l.any bigE = true := fun h => List.any_eq_true.2 ⟨e, List.mem_of_getElem? he, h⟩
 have h1 := c_large e.1
 have h2 := c_large e.2
 have hadd : Option.map (fun a : Addr => a.add ((i : Int).toNat * ty58.size)) (some ⟨ba, oa, none⟩) = some ⟨ba, oa + i * 12, none⟩ := by
   show some ((⟨ba, oa, none⟩ : Addr).add ((i : Int).toNat * 12)) = _
   rw [Int.toNat_natCast, Addr.add_lit]
 have hfl : ∀ z, (some ⟨ba, oa + i * 12 + z, none⟩ : Option Addr) = (some (⟨ba, oa, none⟩ : Addr)).map (fun a => a.add (i * 12 + z)) := fun z => by
   rw [Option.map_some, Addr.add_lit, Nat.add_assoc]
 conv => whnf
 refine ⟨⟨by omega, by omega, rfl⟩, ?_⟩
 rw [hadd]
 conv => whnf
 refine LoadVC.fld (o := 0) sgC sgC_len (List.mem_singleton.2 rfl) he (hfl 0) (by decide) (by decide) (fun h => by cases h) ?_
 conv => whnf
 refine cf h1 ?_
 cases hb1 : bigP 10 e.1 with
 | true =>
   have := hany (by rw [bigE, hb1]; rfl)
   conv => whnf
   exact postV_one (congrArg Value.bool this.symm)
 | false =>
   conv => whnf
   refine ⟨⟨by omega, by omega, rfl⟩, ?_⟩
   rw [hadd]
   conv => whnf
   refine LoadVC.fld (o := 6) sgC sgC_len (List.mem_singleton.2 rfl) he (hfl 6) (by decide) (by decide) (fun h => by cases h) ?_
   conv => whnf
   refine cf h2 ?_
   cases hb2 : bigP 10 e.2 with
   | true =>
     have := hany (by rw [bigE, hb1, hb2]; rfl)
     conv => whnf
     exact postV_one (congrArg Value.bool this.symm)
   | false =>
     conv => whnf
     exact ⟨i + 1, ⟨by omega, hT false (by rw [bigE, hb1, hb2]; rfl)⟩, by show n - (i + 1) < n - i; omega, SLe.id ⟨rfl, some_wrap hin (by omega), trivial⟩ trivial (fun R hR => hR)⟩
theorem grt_sm {b : Bx} {l : List (Pt × Pt)} (h : grt16 b l = false) : b.sm K0 ∧ (∀ e ∈ l, e.1.sm K0 ∧ e.2.sm K0) ∧ (l.length ≤ 8 ∨ 400 < l.length) ∧ l.length ≤ 405 := by
 unfold grt16 at h
 simp only [Bool.or_eq_false_iff, Bool.and_eq_false_iff, decide_eq_false_iff_not] at h
 obtain ⟨h1, h2, h3, h4, h5⟩ := h
 refine ⟨⟨(bigP_sm h3).le (by decide), (bigP_sm h4).le (by decide)⟩, fun e he => ?_, by omega, by omega⟩
 have := (List.any_eq_false.1 h5) e he
 have h6 : bigE e = false := by simpa using this
 unfold bigE at h6
 rw [Bool.or_eq_false_iff] at h6
 exact ⟨(bigP_sm h6.1).le (by decide), (bigP_sm h6.2).le (by decide)⟩
theorem c_lbuildNo (b : Bx) (A : Option Addr) (c : Nat) (l : List (Pt × Pt)) (h : grt16 b l = true ∨ 8 < l.length ∨ bldE b l ≠ 0) :
   FnM PP f_narrowslaw16_build [bxV b, .slice A l.length c] (facts [SlRes A (rowV sgC l)]) (retsV (.tuple #[.agg ⟨slZ⟩, .bool false])) := by
 refine FnS.of TBgood mixed h_narrowslaw16_build rfl rfl (Nat.le_of_ble_eq_true rfl) (by simp [SlRes.ok]) ?_
 intro w hw
 have hg := c_Great16 b A c l
 conv => whnf
 refine cfs hg ?_
 cases hgr : grt16 b l with
 | true =>
   conv => whnf
   exact postV_two rfl
 | false =>
   obtain ⟨h1, h2, h3, h4⟩ := grt_sm hgr
   conv => whnf
   by_cases h8 : 8 < l.length
   · refine br_true (decide_eq_true (show (l.length : Int) > 8 by omega)) ?_
     conv => whnf
     exact postV_two rfl
   refine br_false (decide_eq_false (show ¬ (l.length : Int) > 8 by omega)) ?_
   have he : bldE b l ≠ 0 := by rcases h with h | h | h; (rw [hgr] at h; cases h); exact absurd h h8; exact h
   have hb := c_BuildErr b A c l h1 h2 (by omega) he
   conv => whnf
   refine cfs hb ?_
   conv => whnf
   refine postV_two ?_
   show Value.tuple #[.agg ⟨slZ⟩, .bool (bldE b l == 0)] = _
   rw [show (bldE b l == 0) = false from by simpa using he]
theorem c_lbuildOk (lo hi : V) (E : List (V × V)) (A : Option Addr) (c : Nat) (hb : grt16 ⟨PQ lo, PQ hi⟩ (E.map fun e => (PQ e.1, PQ e.2)) = false) (h8 : E.length ≤ 8) (hx : lo.x < hi.x) (hy : lo.y < hi.y) (hE : ∀ e ∈ E, (SzV K0 e.1 ∧ SzV K0 e.2) ∧ e.1 ≠ e.2) (hlo : SzV K0 lo) (hhi : SzV K0 hi) :
   FnM PP f_narrowslaw16_build [bxV ⟨PQ lo, PQ hi⟩, .slice A E.length c] (facts [SlRes A (rowV sgq E)]) (retsE (ι := BuildOk lo hi E A c) (fun s => .tuple #[s.1.V, .bool true]) (fun s => s.1.F')) := by
 refine FnE.of TBgood mixed h_narrowslaw16_build rfl rfl (Nat.le_of_ble_eq_true rfl) (by simp [SlRes.ok]) ?_
 intro w hw
 have hg := c_Great16 ⟨PQ lo, PQ hi⟩ A c (E.map fun e => (PQ e.1, PQ e.2))
 rw [hb, List.length_map, show rowV sgC (E.map fun e => (PQ e.1, PQ e.2)) = rowV sgq E from rowV_map ..] at hg
 have hbu := c_BuildOk lo hi A c E hlo hhi hx hy hE (by omega)
 conv => whnf
 refine cfs hg ?_
 conv => whnf
 refine br_false (decide_eq_false (show ¬ (E.length : Int) > 8 by omega)) ?_
 conv => whnf
 refine CallVC.e hbu.enters (CallV.facts hbu rfl (fun R h => h)) (fun i => F'_ok i) (fun d hd => ?_)
 conv => whnf
 intro N E1 w' hm
 exact ⟨d, rfl, fun R hR => (hm.res R (List.mem_append_left _ hR)).2.1, hd⟩
end Go.Sx
end
section
/- Arguments of the laws: boxes, slices of segments. -/
set_option maxRecDepth 10000
set_option maxHeartbeats 2000000
namespace Go.Sx
open Go Go.Proofs Go.ChangeShapes Go.WideShapes Go.RowKit Go.Deep
section
variable {H : Type} {enc : TypeId × Value → H} {w : World} {base : Nat} {spare : Nat → Bool} {held : Bool} {fuel : Nat} {cs : List Value} {x : DataW H × List MemPlace}
theorem cells_Box : PP.cellsOf t_api_Box = 12 := by kernel_rfl
theorem trod_box (h : DataW.trod enc PP w base spare held fuel t_api_Box cs = some x) : ∃ e : Pt × Pt, cs = sgC e := by
 obtain ⟨xs, n, _, _, hlen, hxl, hf⟩ := DataW.trod_struct (TBgood t_api_Box _ rfl).1.und h
 rw [cells_Box] at hlen
 obtain ⟨y0, h0⟩ := get_some (show 0 < xs.length by rw [hxl]; decide)
 obtain ⟨y1, h1⟩ := get_some (show 1 < xs.length by rw [hxl]; decide)
 have g0 : DataW.trod enc PP w base spare held n t_api_Point ((cs.drop 0).take (PP.cellsOf t_api_Point)) = xs[0]? := hf 0 _ rfl
 have g1 : DataW.trod enc PP w base spare held n t_api_Point ((cs.drop 6).take (PP.cellsOf t_api_Point)) = xs[1]? := hf 1 _ rfl
 rw [h0] at g0; rw [h1] at g1
 rw [cells_Point] at g0 g1
 obtain ⟨p, e0⟩ := trod_pt g0
 obtain ⟨q, e1⟩ := trod_pt g1
 refine ⟨(p, q), ?_⟩
 rw [List.take_of_length_le (by rw [List.length_drop]; omega)] at e1
 rw [List.drop_zero] at e0
 rw [sgC, ← e0, ← e1, List.take_append_drop]
theorem open_box {r : Reach} {b : Nat} {v : Value} {d : DataW H} {ps : List MemPlace} (hv : Value.okWide PP w r b t_api_Box v) (h : DataW.Trod enc PP w base spare held t_api_Box v d ps) : ∃ s : Bx, v = bxV s := by
 obtain ⟨cs, rfl, _⟩ := okWide_struct (TBgood t_api_Box _ rfl).1.und hv
 obtain ⟨fuel, hf⟩ := h
 obtain ⟨e, hr⟩ := trod_box hf
 exact ⟨⟨e.1, e.2⟩, by cases cs; exact congrArg (fun l : List Value => Value.agg ⟨l⟩) hr⟩
theorem open_sgs {r : Reach} {b : Nat} {v : Value} {d : DataW H} {ps : List MemPlace} (hv : Value.okWide PP w r b t_sl_api_Segment v) (h : DataW.Trod enc PP w base spare held t_sl_api_Segment v d ps) :
   ∃ (A : Option Addr) (c : Nat) (l : List (Pt × Pt)), v = .slice A l.length c ∧ l.length ≤ c ∧ SlF A (rowV sgC l) w := by
 obtain ⟨a, len, cap, rfl⟩ := okWide_slice (TBgood t_sl_api_Segment _ rfl).1.und hv
 obtain ⟨fuel, hf⟩ := h
 obtain ⟨A, c, l, e, h1, h2⟩ := open_row sgC sgC_len (by decide) (TBgood t_sl_api_Segment _ rfl).1.und cells_Segment trod_sg hf
 exact ⟨A, c, l, List.head_eq_of_cons_eq e, h1, h2⟩
abbrev u8C (x : Fin 256) : List Value := [.int .u8 ((x.val : Nat) : Int)]
theorem u8C_len (x : Fin 256) : (u8C x).length = 1 := rfl
theorem cells_u8 : PP.cellsOf t_uint8 = 1 := by kernel_rfl
theorem trod_u8 (h : DataW.trod enc PP w base spare held fuel t_uint8 cs = some x) : ∃ n : Fin 256, cs = u8C n := by
 obtain ⟨n, rfl, _, hwf⟩ := DataW.trod_int (TBgood t_uint8 _ rfl).1.und h
 have hb : 0 ≤ n ∧ n ≤ 255 := by
   simp [Lit.wf] at hwf
   exact ⟨hwf.1, hwf.2⟩
 refine ⟨⟨n.toNat, by omega⟩, ?_⟩
 show [Value.int .u8 n] = [Value.int .u8 ((n.toNat : Nat) : Int)]
 rw [Int.toNat_of_nonneg hb.1]
theorem open_u8s {r : Reach} {b : Nat} {v : Value} {d : DataW H} {ps : List MemPlace} (hv : Value.okWide PP w r b t_sl_uint8 v) (h : DataW.Trod enc PP w base spare held t_sl_uint8 v d ps) :
   ∃ (A : Option Addr) (c : Nat) (l : List (Fin 256)), v = .slice A l.length c ∧ (l.length ≤ c ∧ c ≤ maxLen) ∧ SlF A (rowV u8C l) w := by
 obtain ⟨a, len, cap, rfl⟩ := okWide_slice (TBgood t_sl_uint8 _ rfl).1.und hv
 obtain ⟨fuel, hf⟩ := h
 have hmax : cap ≤ maxLen := by
   rcases open_slice (TBgood t_sl_uint8 _ rfl).1.und hf with ⟨h1, _⟩ | ⟨a', len', cap', m, n, D, Pl, hcs, _, _, hm, _⟩
   · have := List.head_eq_of_cons_eq h1; cases this; exact Nat.zero_le _
   · have := List.head_eq_of_cons_eq hcs; cases this; exact hm
 obtain ⟨A, c, l, e, h1, h2⟩ := open_row u8C u8C_len (by decide) (TBgood t_sl_uint8 _ rfl).1.und cells_u8 trod_u8 hf
 have he := List.head_eq_of_cons_eq e
 refine ⟨A, c, l, he, ⟨h1, ?_⟩, h2⟩
 cases he; exact hmax
end
end Go.Sx
end
section
/- The laws of slab. -/
set_option maxRecDepth 10000
set_option maxHeartbeats 2000000
namespace Go.Sx
open Go Go.Proofs
structure Bld (b : Bx) (l : List (Pt × Pt)) (lo hi : V) (E : List (V × V)) : Prop where
 hb : b = ⟨PQ lo, PQ hi⟩
 hl : l = E.map fun e => (PQ e.1, PQ e.2)
 grt : grt16 b l = false
 len : E.length ≤ 8
 x : lo.x < hi.x
 y : lo.y < hi.y
 zlo : SzV K0 lo
 zhi : SzV K0 hi
 E : ∀ e ∈ E, (SzV K0 e.1 ∧ SzV K0 e.2) ∧ e.1 ≠ e.2
theorem PQ_sz {a : V} (h : (PQ a).sm K0) : SzV K0 a := by
 have := h.sz (k := K0) (by decide)
 rwa [PQ_v] at this
theorem Bld.of {b : Bx} {l : List (Pt × Pt)} (h : ¬ (grt16 b l = true ∨ 8 < l.length ∨ bldE b l ≠ 0)) : ∃ lo hi E, Bld b l lo hi E := by
 have h1 : grt16 b l = false := by
   cases hg : grt16 b l with
   | true => exact absurd (.inl hg) h
   | false => rfl
 have h2 : ¬ 8 < l.length := fun k => h (.inr (.inl k))
 have h3 : bldE b l = 0 := Classical.byContradiction fun k => h (.inr (.inr k))
 obtain ⟨lo, hi, E, rfl, hx, hy, rfl, hE, hl⟩ := bldE_zero h3
 obtain ⟨hb, hs, _, _⟩ := grt_sm h1
 refine ⟨lo, hi, E, rfl, rfl, h1, by rw [List.length_map] at h2; omega, hx, hy, PQ_sz hb.1, PQ_sz hb.2, fun e he => ?_⟩
 have := hs (PQ e.1, PQ e.2) (List.mem_map.2 ⟨e, he, rfl⟩)
 exact ⟨⟨PQ_sz this.1, PQ_sz this.2⟩, hE e he⟩
end Go.Sx
end
section
set_option maxRecDepth 10000
set_option maxHeartbeats 1000000
namespace Go.Sx
theorem sgn_pos {t q d : Rat} (hd : 0 < d) : 0 ≤ (t - q) * d ↔ q ≤ t := by
 constructor
 · intro h
   by_cases h1 : t < q
   · have := Rat.mul_pos (show 0 < q - t by grind) hd; grind
   · exact Rat.not_lt.1 h1
 · intro h; exact Rat.mul_nonneg (by grind) (Rat.le_of_lt hd)
theorem sgn_neg {t q d : Rat} (hd : d < 0) : 0 ≤ (t - q) * d ↔ t ≤ q := by
 have := sgn_pos (t := -t) (q := -q) (d := -d) (by grind)
 rw [show (-t - -q) * -d = (t - q) * d by grind] at this
 rw [this]; grind
def inR (b : Bx) (A B : V) (k : Nat) (t : Rat) : Prop := 0 ≤ t ∧ t ≤ 1 ∧ ∀ j, j < k → 0 ≤ sideQ b A j + t * (sideQ b B j - sideQ b A j)
theorem inR_succ {b : Bx} {A B : V} {k : Nat} {t : Rat} : inR b A B (k + 1) t ↔ inR b A B k t ∧ 0 ≤ sideQ b A k + t * (sideQ b B k - sideQ b A k) := by
 constructor
 · rintro ⟨h1, h2, h3⟩; exact ⟨⟨h1, h2, fun j hj => h3 j (by omega)⟩, h3 k (by omega)⟩
 · rintro ⟨⟨h1, h2, h3⟩, h4⟩
   refine ⟨h1, h2, fun j hj => ?_⟩
   by_cases hjk : j = k
   · rw [hjk]; exact h4
   · exact h3 j (by omega)
theorem clipR_iff (b : Bx) (A B : V) : ∀ k, (clipR b A B k = none → ∀ t, ¬ inR b A B k t) ∧ ∀ l h, clipR b A B k = some (l, h) → ∀ t, (l ≤ t ∧ t ≤ h) ↔ inR b A B k t
 | 0 => by
   refine ⟨fun h => (by cases h), fun l h e t => ?_⟩
   cases e
   exact ⟨fun h => ⟨h.1, h.2, fun j hj => absurd hj (Nat.not_lt_zero j)⟩, fun h => ⟨h.1, h.2.1⟩⟩
 | k + 1 => by
   obtain ⟨i1, i2⟩ := clipR_iff b A B k
   have hs := fun t => inR_succ (b := b) (A := A) (B := B) (k := k) (t := t)
   rw [clipR]
   cases hc : clipR b A B k with
   | none => exact ⟨fun _ t h => i1 hc t ((hs t).1 h).1, fun l h e => (by cases e)⟩
   | some p =>
     obtain ⟨l, h⟩ := p
     have i3 := i2 l h hc
     simp only
     generalize sideQ b A k = f at hs ⊢
     generalize sideQ b B k = g at hs ⊢
     by_cases h0 : g - f = 0
     · rw [if_pos h0]
       have e : ∀ t, f + t * (g - f) = f := fun t => by rw [h0]; grind
       by_cases hf : f < 0
       · rw [if_pos hf]
         refine ⟨fun _ t ht => ?_, fun l h e => (by cases e)⟩
         have := ((hs t).1 ht).2
         rw [e] at this; grind
       · rw [if_neg hf]
         refine ⟨fun h => (by cases h), fun l' h' e' t => ?_⟩
         cases e'
         rw [hs, e, ← i3]
         exact ⟨fun h => ⟨h, by grind⟩, fun h => h.1⟩
     rw [if_neg h0]
     have hq : ∀ t, f + t * (g - f) = (t - -f / (g - f)) * (g - f) := fun t => by
       have := Rat.div_mul_cancel (a := -f) h0
       grind
     generalize -f / (g - f) = q at hq ⊢
     by_cases hd : 0 < g - f
     · have hk : ∀ t, 0 ≤ f + t * (g - f) ↔ q ≤ t := fun t => by rw [hq]; exact sgn_pos hd
       by_cases hl : l < q
       · rw [if_pos ⟨hd, hl⟩]
         refine ⟨fun h => (by cases h), fun l' h' e' t => ?_⟩
         cases e'
         rw [hs, hk, ← i3]
         exact ⟨fun h => ⟨⟨by grind, h.2⟩, h.1⟩, fun h => ⟨h.2, h.1.2⟩⟩
       · rw [if_neg (fun h => hl h.2), if_neg (fun h => by grind)]
         refine ⟨fun h => (by cases h), fun l' h' e' t => ?_⟩
         cases e'
         rw [hs, hk, ← i3]
         exact ⟨fun h => ⟨h, by grind⟩, fun h => h.1⟩
     · have hd' : g - f < 0 := by grind
       have hk : ∀ t, 0 ≤ f + t * (g - f) ↔ t ≤ q := fun t => by rw [hq]; exact sgn_neg hd'
       rw [if_neg (fun h => by grind)]
       by_cases hl : q < h
       · rw [if_pos ⟨hd', hl⟩]
         refine ⟨fun h => (by cases h), fun l' h' e' t => ?_⟩
         cases e'
         rw [hs, hk, ← i3]
         exact ⟨fun h => ⟨⟨h.1, by grind⟩, h.2⟩, fun h => ⟨h.1.1, h.2⟩⟩
       · rw [if_neg (fun h => hl h.2)]
         refine ⟨fun h => (by cases h), fun l' h' e' t => ?_⟩
         cases e'
         rw [hs, hk, ← i3]
         exact ⟨fun h => ⟨h, by grind⟩, fun h => h.1⟩
def inX (lo hi p : V) : Prop := (lo.x ≤ p.x ∧ p.x ≤ hi.x) ∧ lo.y ≤ p.y ∧ p.y ≤ hi.y
theorem inR_box {lo hi A B : V} {t : Rat} : inR ⟨PQ lo, PQ hi⟩ A B 4 t ↔ (0 ≤ t ∧ t ≤ 1) ∧ inX lo hi (A.at B t) := by
 have e0 : sideQ ⟨PQ lo, PQ hi⟩ A 0 + t * (sideQ ⟨PQ lo, PQ hi⟩ B 0 - sideQ ⟨PQ lo, PQ hi⟩ A 0) = (A.at B t).x - lo.x := by
   show (A.x - (Q lo.x).v) + t * ((B.x - (Q lo.x).v) - (A.x - (Q lo.x).v)) = (A.x + (B.x - A.x) * t) - lo.x
   rw [Q_v]; grind
 have e1 : sideQ ⟨PQ lo, PQ hi⟩ A 1 + t * (sideQ ⟨PQ lo, PQ hi⟩ B 1 - sideQ ⟨PQ lo, PQ hi⟩ A 1) = hi.x - (A.at B t).x := by
   show ((Q hi.x).v - A.x) + t * (((Q hi.x).v - B.x) - ((Q hi.x).v - A.x)) = hi.x - (A.x + (B.x - A.x) * t)
   rw [Q_v]; grind
 have e2 : sideQ ⟨PQ lo, PQ hi⟩ A 2 + t * (sideQ ⟨PQ lo, PQ hi⟩ B 2 - sideQ ⟨PQ lo, PQ hi⟩ A 2) = (A.at B t).y - lo.y := by
   show (A.y - (Q lo.y).v) + t * ((B.y - (Q lo.y).v) - (A.y - (Q lo.y).v)) = (A.y + (B.y - A.y) * t) - lo.y
   rw [Q_v]; grind
 have e3 : sideQ ⟨PQ lo, PQ hi⟩ A 3 + t * (sideQ ⟨PQ lo, PQ hi⟩ B 3 - sideQ ⟨PQ lo, PQ hi⟩ A 3) = hi.y - (A.at B t).y := by
   show ((Q hi.y).v - A.y) + t * (((Q hi.y).v - B.y) - ((Q hi.y).v - A.y)) = hi.y - (A.y + (B.y - A.y) * t)
   rw [Q_v]; grind
 unfold inR inX
 constructor
 · rintro ⟨h1, h2, h3⟩
   have k0 := h3 0 (by decide); have k1 := h3 1 (by decide); have k2 := h3 2 (by decide); have k3 := h3 3 (by decide)
   rw [e0] at k0; rw [e1] at k1; rw [e2] at k2; rw [e3] at k3
   exact ⟨⟨h1, h2⟩, ⟨by grind, by grind⟩, by grind, by grind⟩
 · rintro ⟨⟨h1, h2⟩, ⟨k0, k1⟩, k2, k3⟩
   refine ⟨h1, h2, fun j hj => ?_⟩
   match j, hj with
   | 0, _ => rw [e0]; grind
   | 1, _ => rw [e1]; grind
   | 2, _ => rw [e2]; grind
   | 3, _ => rw [e3]; grind
theorem clipV_some {lo hi A B c d : V} (h : clipV ⟨PQ lo, PQ hi⟩ A B = some (c, d)) : ∃ l u, l ≤ u ∧ 0 ≤ l ∧ u ≤ 1 ∧ c = A.at B l ∧ d = A.at B u ∧ ∀ t, (l ≤ t ∧ t ≤ u) ↔ (0 ≤ t ∧ t ≤ 1) ∧ inX lo hi (A.at B t) := by
 unfold clipV at h
 split at h
 · cases h
 · rename_i l u hc
   split at h
   · cases h
   · rename_i hlu
     cases h
     have hi := (clipR_iff ⟨PQ lo, PQ hi⟩ A B 4).2 l u hc
     have hl : l ≤ u := Rat.not_lt.1 hlu
     have k1 := inR_box.1 ((hi l).1 ⟨Rat.le_refl, hl⟩)
     have k2 := inR_box.1 ((hi u).1 ⟨hl, Rat.le_refl⟩)
     exact ⟨l, u, hl, k1.1.1, k2.1.2, rfl, rfl, fun t => (hi t).trans inR_box⟩
theorem clipV_none {lo hi A B : V} (h : clipV ⟨PQ lo, PQ hi⟩ A B = none) (t : Rat) : ¬ ((0 ≤ t ∧ t ≤ 1) ∧ inX lo hi (A.at B t)) := by
 intro k
 unfold clipV at h
 split at h
 · rename_i hc; exact (clipR_iff ⟨PQ lo, PQ hi⟩ A B 4).1 hc t (inR_box.2 k)
 · rename_i l u hc
   split at h
   · rename_i hlu
     have := ((clipR_iff ⟨PQ lo, PQ hi⟩ A B 4).2 l u hc t).2 (inR_box.2 k)
     grind
   · cases h
structure PcOf (lo hi : V) (E : List (V × V)) (p : Pc) (e : V × V) : Prop where
 at' : E[p.i]? = some e
 a : onS e.1 e.2 p.a
 b : onS e.1 e.2 p.b
 ia : inX lo hi p.a
 ib : inX lo hi p.b
 ne : p.a ≠ p.b
theorem pcs_of {lo hi : V} {E : List (V × V)} {p : Pc} (hp : p ∈ pcsL lo hi E) : ∃ e, PcOf lo hi E p e := by
 have : ∀ (l : List (V × V)) (i : Nat), p ∈ pcsF lo hi i l → ∃ e j, l[j]? = some e ∧ pcsO lo hi e (i + j) = some p := fun l => by
   induction l with
   | nil => intro i h; cases h
   | cons e r ih =>
     intro i h
     rcases List.mem_append.1 h with h | h
     · refine ⟨e, 0, rfl, ?_⟩
       cases ho : pcsO lo hi e i with
       | none => rw [ho] at h; cases h
       | some q => rw [ho] at h; rw [List.mem_singleton.1 h]
     · obtain ⟨e', j, h1, h2⟩ := ih (i + 1) h
       exact ⟨e', j + 1, by rw [List.getElem?_cons_succ]; exact h1, by rw [show i + (j + 1) = i + 1 + j by omega]; exact h2⟩
 obtain ⟨e, j, h1, h2⟩ := this E 0 hp
 rw [Nat.zero_add] at h2
 refine ⟨e, ?_⟩
 unfold pcsO at h2
 split at h2
 · cases h2
 · rename_i c d hc
   split at h2
   · cases h2
   · rename_i hcd
     cases h2
     obtain ⟨l, u, hlu, l0, u1, rfl, rfl, hiff⟩ := clipV_some hc
     have ic := ((hiff l).1 ⟨Rat.le_refl, hlu⟩)
     have iu := ((hiff u).1 ⟨hlu, Rat.le_refl⟩)
     have oc : onS e.1 e.2 (e.1.at e.2 l) := ⟨l, ic.1, rfl⟩
     have ou : onS e.1 e.2 (e.1.at e.2 u) := ⟨u, iu.1, rfl⟩
     unfold ordV
     split
     · exact ⟨h1, ou, oc, iu.2, ic.2, fun h => hcd h.symm⟩
     · exact ⟨h1, oc, ou, ic.2, iu.2, hcd⟩
end Go.Sx
end
section
set_option maxRecDepth 10000
set_option maxHeartbeats 1000000
namespace Go.Sx
theorem at_swap' (a b : V) (t : Rat) : a.at b t = b.at a (1 - t) := by rw [at_swap b a]
theorem clip_flip_some {lo hi A B c d : V} (h : clipV ⟨PQ lo, PQ hi⟩ A B = some (c, d)) : clipV ⟨PQ lo, PQ hi⟩ B A = some (d, c) := by
 obtain ⟨l, u, hlu, l0, u1, rfl, rfl, hi1⟩ := clipV_some h
 have kl := (hi1 l).1 ⟨Rat.le_refl, hlu⟩
 cases hc : clipV ⟨PQ lo, PQ hi⟩ B A with
 | none =>
   refine absurd ?_ (clipV_none hc (1 - l))
   refine ⟨⟨by grind, by grind⟩, ?_⟩
   rw [at_swap A B, show (1 : Rat) - (1 - l) = l by grind]; exact kl.2
 | some p =>
   obtain ⟨c', d'⟩ := p
   obtain ⟨l', u', hlu', l0', u1', rfl, rfl, hi2⟩ := clipV_some hc
   have conv : ∀ t, (l' ≤ t ∧ t ≤ u') ↔ (l ≤ 1 - t ∧ 1 - t ≤ u) := fun t => by
     rw [hi2, hi1, at_swap A B]
     constructor
     · rintro ⟨⟨h1, h2⟩, h3⟩; exact ⟨⟨by grind, by grind⟩, h3⟩
     · rintro ⟨⟨h1, h2⟩, h3⟩; exact ⟨⟨by grind, by grind⟩, h3⟩
   have e1 := (conv l').1 ⟨Rat.le_refl, hlu'⟩
   have e2 := (conv u').1 ⟨hlu', Rat.le_refl⟩
   have e3 := (conv (1 - u)).2 ⟨by grind, by grind⟩
   have e4 := (conv (1 - l)).2 ⟨by grind, by grind⟩
   have f1 : l' = 1 - u := by grind
   have f2 : u' = 1 - l := by grind
   rw [f1, f2, ← at_swap' A B u, ← at_swap' A B l]
theorem clip_flip (lo hi A B : V) : clipV ⟨PQ lo, PQ hi⟩ B A = (clipV ⟨PQ lo, PQ hi⟩ A B).map fun p => (p.2, p.1) := by
 cases h : clipV ⟨PQ lo, PQ hi⟩ A B with
 | some p => obtain ⟨c, d⟩ := p; exact clip_flip_some h
 | none =>
   cases h2 : clipV ⟨PQ lo, PQ hi⟩ B A with
   | none => rfl
   | some p => obtain ⟨c, d⟩ := p; rw [clip_flip_some h2] at h; cases h
theorem ordV_flip (a b : V) : ordV b a = ordV a b := by
 unfold ordV
 rw [cmpV_neg a b]
 by_cases h : cmpV a b > 0
 · rw [if_pos h, if_neg (by omega)]
 · rw [if_neg h]
   by_cases h2 : -cmpV a b > 0
   · rw [if_pos h2]
   · have := cmpV_zero.1 (show cmpV a b = 0 by omega)
     rw [if_neg h2, this]
def pcB (lo hi : V) (e : V × V) : Option (V × V) := match clipV ⟨PQ lo, PQ hi⟩ e.1 e.2 with
 | none => none
 | some (c, d) => if c = d then none else some (ordV c d)
theorem pcB_flip (lo hi : V) (e : V × V) : pcB lo hi (e.2, e.1) = pcB lo hi e := by
 unfold pcB
 rw [show clipV ⟨PQ lo, PQ hi⟩ (e.2, e.1).1 (e.2, e.1).2 = (clipV ⟨PQ lo, PQ hi⟩ e.1 e.2).map fun p => (p.2, p.1) from clip_flip ..]
 cases clipV ⟨PQ lo, PQ hi⟩ e.1 e.2 with
 | none => rfl
 | some p =>
   obtain ⟨c, d⟩ := p
   simp only [Option.map_some]
   by_cases h : c = d
   · rw [if_pos h, if_pos h.symm]
   · rw [if_neg h, if_neg (fun k => h k.symm), ordV_flip]
theorem pcB_ord (lo hi : V) (e : V × V) : pcB lo hi (ordV e.1 e.2) = pcB lo hi e := by
 unfold ordV
 split
 · exact pcB_flip lo hi e
 · rfl
theorem pcsO_B (lo hi : V) (e : V × V) (i : Nat) : (pcsO lo hi e i).map (fun p => (p.a, p.b)) = pcB lo hi e := by
 unfold pcsO pcB
 cases clipV ⟨PQ lo, PQ hi⟩ e.1 e.2 with
 | none => rfl
 | some p =>
   obtain ⟨c, d⟩ := p
   simp only
   by_cases h : c = d
   · rw [if_pos h, if_pos h]; rfl
   · rw [if_neg h, if_neg h]; rfl
theorem pcs_B (lo hi : V) (E : List (V × V)) : (pcsL lo hi E).map (fun p => (p.a, p.b)) = E.filterMap (pcB lo hi) := by
 have : ∀ (l : List (V × V)) (i : Nat), (pcsF lo hi i l).map (fun p => (p.a, p.b)) = l.filterMap (pcB lo hi) := fun l => by
   induction l with
   | nil => intro i; rfl
   | cons e r ih =>
     intro i
     have h := pcsO_B lo hi e i
     rw [pcsF, List.map_append, ih, List.filterMap_cons, ← h]
     cases pcsO lo hi e i <;> rfl
 exact this E 0
def Sim (E F : List (V × V)) : Prop := (E.map fun e => ordV e.1 e.2).Perm (F.map fun e => ordV e.1 e.2)
theorem pcs_sim {lo hi : V} {E F : List (V × V)} (h : Sim E F) : ((pcsL lo hi E).map fun p => (p.a, p.b)).Perm ((pcsL lo hi F).map fun p => (p.a, p.b)) := by
 have key : ∀ E : List (V × V), E.filterMap (pcB lo hi) = (E.map fun e => ordV e.1 e.2).filterMap (pcB lo hi) := fun E => by
   rw [List.filterMap_map]
   congr 1; funext e; exact (pcB_ord lo hi e).symm
 rw [pcs_B, pcs_B, key E, key F]
 exact h.filterMap _
theorem mem_sim {lo hi : V} {E F : List (V × V)} (h : Sim E F) {p : Pc} (hp : p ∈ pcsL lo hi E) : ∃ q ∈ pcsL lo hi F, q.a = p.a ∧ q.b = p.b := by
 have h1 := (pcs_sim (lo := lo) (hi := hi) h).mem_iff.1 (List.mem_map.2 ⟨p, hp, rfl⟩)
 obtain ⟨q, hq, e⟩ := List.mem_map.1 h1
 exact ⟨q, hq, congrArg Prod.fst e, congrArg Prod.snd e⟩
theorem meet_comm {a b c d : V} (hab : a ≠ b) (hcd : c ≠ d) : meetV c d a b = meetV a b c d := by
 obtain ⟨s1, n1⟩ := meet_pts hab hcd
 obtain ⟨s2, n2⟩ := meet_pts hcd hab
 cases h1 : meetV a b c d with
 | none =>
   cases h2 : meetV c d a b with
   | none => rfl
   | some y => obtain ⟨k1, k2, _⟩ := s2 y h2; exact (n1 h1 y.1 k2 k1).elim
 | some x =>
   obtain ⟨x1, x2, x3, x4, x5, x6⟩ := s1 x h1
   cases h2 : meetV c d a b with
   | none => exact (n2 h2 x.1 x2 x1).elim
   | some y =>
     obtain ⟨y1, y2, y3, y4, y5, y6⟩ := s2 y h2
     have a1 := (x6 y.1 y2 y1).1
     have a2 := (y6 x.1 x2 x1).1
     have b1 := (x6 y.2 y4 y3).2
     have b2 := (y6 x.2 x4 x3).2
     rw [show y = x from Prod.ext (leP2_anti a2 a1) (leP2_anti b1 b2)]
theorem meet_self {a b : V} (hab : a ≠ b) (h : leP2 a b) : meetV a b a b = some (a, b) := by
 obtain ⟨s1, n1⟩ := meet_pts hab hab
 cases h1 : meetV a b a b with
 | none => exact (n1 h1 a (onS_left a b) (onS_left a b)).elim
 | some x =>
   obtain ⟨x1, x2, x3, x4, x5, x6⟩ := s1 x h1
   have a1 := (x6 a (onS_left a b) (onS_left a b)).1
   have b1 := (x6 b (onS_right a b) (onS_right a b)).2
   have a2 := (onS_le h x1).1
   have b2 := (onS_le h x3).2
   rw [show x = (a, b) from Prod.ext (leP2_anti a1 a2) (leP2_anti b2 b1)]
theorem ordV_le (a b : V) : leP2 (ordV a b).1 (ordV a b).2 := by
 unfold ordV
 split
 · rename_i h; show leP2 b a; exact cmpV_le.1 (by rw [cmpV_neg a b]; omega)
 · rename_i h; show leP2 a b; exact cmpV_le.1 (by omega)
theorem pcs_le {lo hi : V} {E : List (V × V)} {p : Pc} (hp : p ∈ pcsL lo hi E) : leP2 p.a p.b := by
 have h1 : (p.a, p.b) ∈ (pcsL lo hi E).map fun p => (p.a, p.b) := List.mem_map.2 ⟨p, hp, rfl⟩
 rw [pcs_B] at h1
 obtain ⟨e, _, he⟩ := List.mem_filterMap.1 h1
 unfold pcB at he
 split at he
 · cases he
 · rename_i c d _
   split at he
   · cases he
   · have := ordV_le c d
     rw [Option.some.inj he] at this; exact this
theorem xs_mem {lo hi : V} {E : List (V × V)} {x : Rat} : x ∈ xsL lo hi (pcsL lo hi E) ↔ x = lo.x ∨ x = hi.x ∨ (∃ p ∈ pcsL lo hi E, x = p.a.x ∨ x = p.b.x) ∨ ∃ p ∈ pcsL lo hi E, ∃ q ∈ pcsL lo hi E, x ∈ meetX p q := by
 obtain ⟨ps, hps⟩ : ∃ ps, ps = pcsL lo hi E := ⟨_, rfl⟩
 have hne : ∀ p ∈ ps, p.a ≠ p.b := fun p hp => by rw [hps] at hp; obtain ⟨e, h⟩ := pcs_of hp; exact h.ne
 have hle : ∀ p ∈ ps, leP2 p.a p.b := fun p hp => by rw [hps] at hp; exact pcs_le hp
 rw [← hps, xsL, ascL_mem, List.mem_cons, List.mem_cons]
 have key : ∀ i, x ∈ absG ps i ↔ ∃ j p, j < i ∧ ps[j]? = some p ∧ x ∈ absP ps j p := fun i => by
   induction i with
   | zero => exact ⟨fun h => (by cases h), fun ⟨j, _, h, _⟩ => absurd h (Nat.not_lt_zero j)⟩
   | succ i ih =>
     rw [absG, List.mem_append, ih]
     constructor
     · rintro (⟨j, p, h1, h2, h3⟩ | h)
       · exact ⟨j, p, by omega, h2, h3⟩
       · split at h
         · rename_i p hp; exact ⟨i, p, by omega, hp, h⟩
         · cases h
     · rintro ⟨j, p, h1, h2, h3⟩
       by_cases hji : j = i
       · right; subst hji; rw [h2]; exact h3
       · left; exact ⟨j, p, by omega, h2, h3⟩
 rw [key]
 constructor
 · rintro (h | h | ⟨j, p, h1, h2, h3⟩)
   · exact .inl h
   · exact .inr (.inl h)
   · have hp := List.mem_of_getElem? h2
     rcases List.mem_cons.1 h3 with h | h
     · exact .inr (.inr (.inl ⟨p, hp, .inl h⟩))
     rcases List.mem_cons.1 h with h | h
     · exact .inr (.inr (.inl ⟨p, hp, .inr h⟩))
     obtain ⟨q, hq, h⟩ := List.mem_flatMap.1 h
     exact .inr (.inr (.inr ⟨p, hp, q, List.mem_of_mem_take hq, h⟩))
 · have own : ∀ p ∈ ps, (x = p.a.x ∨ x = p.b.x) → ∃ j p, j < ps.length ∧ ps[j]? = some p ∧ x ∈ absP ps j p := fun p hp h => by
     obtain ⟨j, hj⟩ := List.getElem?_of_mem hp
     refine ⟨j, p, (List.getElem?_eq_some_iff.1 hj).1, hj, ?_⟩
     rcases h with h | h
     · rw [h]; exact List.mem_cons_self ..
     · rw [h]; exact List.mem_cons_of_mem _ (List.mem_cons_self ..)
   have less : ∀ (i j : Nat) (p q : Pc), ps[i]? = some p → ps[j]? = some q → j < i → x ∈ meetX p q → ∃ j p, j < ps.length ∧ ps[j]? = some p ∧ x ∈ absP ps j p := fun i j p q hi hj hji h => by
     refine ⟨i, p, (List.getElem?_eq_some_iff.1 hi).1, hi, List.mem_cons_of_mem _ (List.mem_cons_of_mem _ (List.mem_flatMap.2 ⟨q, ?_, h⟩))⟩
     exact List.mem_of_getElem? (i := j) (by rw [List.getElem?_take, if_pos hji]; exact hj)
   rintro (h | h | ⟨p, hp, h⟩ | ⟨p, hp, q, hq, h⟩)
   · exact .inl h
   · exact .inr (.inl h)
   · exact .inr (.inr (own p hp h))
   · right; right
     obtain ⟨i, hi⟩ := List.getElem?_of_mem hp
     obtain ⟨j, hj⟩ := List.getElem?_of_mem hq
     rcases Nat.lt_trichotomy i j with hij | hij | hij
     · refine less j i q p hj hi hij ?_
       unfold meetX at h ⊢
       rw [meet_comm (hne p hp) (hne q hq)]; exact h
     · subst hij
       rw [hi] at hj; cases hj
       unfold meetX at h
       rw [meet_self (hne p hp) (hle p hp)] at h
       simp only [List.mem_cons, List.not_mem_nil, or_false] at h
       exact own p hp h
     · exact less i j p q hi hj hij h
theorem xs_sim {lo hi : V} {E F : List (V × V)} (h : Sim E F) : xsL lo hi (pcsL lo hi E) = xsL lo hi (pcsL lo hi F) := by
 refine asc_eq (ascL_asc _) (ascL_asc _) fun x => ?_
 have one : ∀ {E F : List (V × V)}, Sim E F → x ∈ xsL lo hi (pcsL lo hi E) → x ∈ xsL lo hi (pcsL lo hi F) := fun {E F} h hx => by
   rw [xs_mem] at hx ⊢
   rcases hx with hx | hx | ⟨p, hp, hx⟩ | ⟨p, hp, q, hq, hx⟩
   · exact .inl hx
   · exact .inr (.inl hx)
   · obtain ⟨p', hp', e1, e2⟩ := mem_sim h hp
     exact .inr (.inr (.inl ⟨p', hp', by rw [e1, e2]; exact hx⟩))
   · obtain ⟨p', hp', e1, e2⟩ := mem_sim h hp
     obtain ⟨q', hq', f1, f2⟩ := mem_sim h hq
     exact .inr (.inr (.inr ⟨p', hp', q', hq', by unfold meetX at hx ⊢; rw [e1, e2, f1, f2]; exact hx⟩))
 exact ⟨one h, one h.symm⟩
theorem hgtO_ab {p q : Pc} (h1 : q.a = p.a) (h2 : q.b = p.b) (x : Rat) : hgtO q x = hgtO p x := by unfold hgtO; rw [h1, h2]
theorem ys_sim {lo hi : V} {E F : List (V × V)} (h : Sim E F) (x : Rat) : ysL lo hi (pcsL lo hi E) x = ysL lo hi (pcsL lo hi F) x := by
 refine asc_eq (ascL_asc _) (ascL_asc _) fun y => ?_
 have one : ∀ {E F : List (V × V)}, Sim E F → y ∈ ysL lo hi (pcsL lo hi E) x → y ∈ ysL lo hi (pcsL lo hi F) x := fun {E F} h hy => by
   rw [ysL, ascL_mem, List.mem_cons, List.mem_cons, List.mem_flatMap] at hy ⊢
   rcases hy with hy | hy | ⟨p, hp, hy⟩
   · exact .inl hy
   · exact .inr (.inl hy)
   · obtain ⟨p', hp', e1, e2⟩ := mem_sim h hp
     exact .inr (.inr ⟨p', hp', by unfold ordP at hy ⊢; rw [e1, e2, hgtO_ab e1 e2]; exact hy⟩)
 exact ⟨one h, one h.symm⟩
theorem fstG_len (p : Rat) : ∀ l : List (Rat × Nat), (fstG p l).length = (ddpG p (l.map (·.1))).length
 | [] => rfl
 | (y, i) :: r => by
   simp only [fstG, List.map_cons, ddpG]
   by_cases h : p = y
   · rw [if_pos h, if_pos h.symm, fstG_len y r]
   · rw [if_neg h, if_neg (fun k => h k.symm), List.length_cons, List.length_cons, fstG_len y r]
theorem fstL_len' : ∀ l : List (Rat × Nat), (fstL l).length = (ddp (l.map (·.1))).length
 | [] => rfl
 | (y, i) :: r => by simp only [fstL, List.map_cons, ddp, List.length_cons, fstG_len y r]
theorem strp_len (lo hi : V) (ps : List Pc) (l r : Rat) : (strpL lo hi ps l r).length = (ascL ((crsL lo hi ps l r).map (·.1))).length := by
 rw [strpL, fstL_len']
 congr 1
 refine asc_eq (ddp_asc ?_) (ascL_asc _) fun z => ?_
 · rw [List.pairwise_map]
   exact (sortC_srt _).imp fun h => (ltC_false.1 h).1
 · rw [ddp_mem, ascL_mem, ((sortC_perm (crsL lo hi ps l r)).map _).mem_iff]
theorem crs_ab {lo hi : V} {p q : Pc} (h1 : q.a = p.a) (h2 : q.b = p.b) {l r : Rat} {x : Rat × Nat} (h : crsO lo hi l r p = some x) : ∃ j, crsO lo hi l r q = some (x.1, j) := by
 unfold crsO at h ⊢
 rw [hgtO_ab h1 h2, hgtO_ab h1 h2]
 cases hA : hgtO p l with
 | none => rw [hA] at h; cases h
 | some a =>
   cases hB : hgtO p r with
   | none => rw [hA, hB] at h; cases h
   | some b =>
     rw [hA, hB] at h
     simp only at h ⊢
     split at h
     · cases h
     · rename_i hc; cases h; rw [if_neg hc]; exact ⟨_, rfl⟩
theorem strp_sim {lo hi : V} {E F : List (V × V)} (h : Sim E F) (l r : Rat) : (strpL lo hi (pcsL lo hi E) l r).length = (strpL lo hi (pcsL lo hi F) l r).length := by
 rw [strp_len, strp_len]
 congr 1
 refine asc_eq (ascL_asc _) (ascL_asc _) fun y => ?_
 have one : ∀ {E F : List (V × V)}, Sim E F → y ∈ ascL ((crsL lo hi (pcsL lo hi E) l r).map (·.1)) → y ∈ ascL ((crsL lo hi (pcsL lo hi F) l r).map (·.1)) := fun {E F} h hy => by
   rw [ascL_mem] at hy ⊢
   obtain ⟨x, hx, rfl⟩ := List.mem_map.1 hy
   obtain ⟨p, hp, hx⟩ := List.mem_filterMap.1 hx
   obtain ⟨q, hq, e1, e2⟩ := mem_sim h hp
   obtain ⟨j, hj⟩ := crs_ab e1 e2 hx
   exact List.mem_map.2 ⟨(x.1, j), List.mem_filterMap.2 ⟨q, hq, hj⟩, rfl⟩
 exact ⟨one h, one h.symm⟩
theorem strips_len_sim {f g : Rat → Rat → List Nat} (h : ∀ x y, (f x y).length = (g x y).length) : ∀ l : List Rat, (stripsL f l).map List.length = (stripsL g l).map List.length
 | [] => rfl
 | [_] => rfl
 | x :: y :: r => by
   have := strips_len_sim h (y :: r)
   simp only [stripsL, List.map_cons, h, this]
theorem Sim.refl (E : List (V × V)) : Sim E E := List.Perm.refl _
theorem Sim.swap {E M : List (V × V)} {j k : Nat} {a b : V × V} (h : Sim E M) (hj : M[j]? = some a) (hk : M[k]? = some b) : Sim E ((M.set j b).set k a) := by
 obtain ⟨h1, rfl⟩ := List.getElem?_eq_some_iff.1 hj
 obtain ⟨h2, rfl⟩ := List.getElem?_eq_some_iff.1 hk
 exact h.trans ((List.set_set_perm h1 h2).map _).symm
theorem Sim.flip {E M : List (V × V)} {k : Nat} {a : V × V} (h : Sim E M) (hk : M[k]? = some a) : Sim E (M.set k (a.2, a.1)) := by
 obtain ⟨h2, rfl⟩ := List.getElem?_eq_some_iff.1 hk
 unfold Sim at h ⊢
 rw [List.map_set, show ordV (M[k].2, M[k].1).1 (M[k].2, M[k].1).2 = ordV M[k].1 M[k].2 from ordV_flip _ _]
 have : (M.map fun e => ordV e.1 e.2).set k (ordV M[k].1 M[k].2) = M.map fun e => ordV e.1 e.2 := by
   have h3 : (M.map fun e => ordV e.1 e.2)[k]'(by rw [List.length_map]; exact h2) = ordV M[k].1 M[k].2 := by rw [List.getElem_map]
   rw [← h3, List.set_getElem_self]
 rw [this]; exact h
end Go.Sx
end
section
set_option maxRecDepth 10000
set_option maxHeartbeats 2000000
namespace Go.Sx
open Go Go.Proofs
end Go.Sx
end
section
/- A symbolic executor over loaded Go code: a region whose order is drawn, walked by a tree of the orders that matter. -/
namespace Go.Sx
open Go Go.RowKit
inductive OT
 | walk (r : List Nat)
 | q (k : Nat) (t : OT)
 | fork (u : OT)
 | alt (k : Nat) (t u : OT)
 | nil
section
variable {P : Program} {T : TT} {C : Cx}
def headB : OT → Bool
 | .alt _ _ _ => false
 | .nil => false
 | _ => true
def keysT : OT → List Nat
 | .alt k _ u => k :: keysT u
 | _ => []
def fuelT : OT → Nat
 | .walk r => r.length
 | .q _ t => fuelT t + 1
 | .fork u => fuelT u
 | .alt _ t _ => fuelT t + 1
 | .nil => 0
def chkT (ops : Array Oper) (late : Late) (m : Nat) : OT → Array Bool → Bool
 | .walk r, L => bodyFrom ops late m r L && Nat.beq (pick ops.toList r).length r.length
 | .q k t, L => (isQ late m k && ((Region.ready .any ops L).contains k && Region.free .any ops L k && waits ops late m k L)) && (headB t && chkT ops late m t (L.setIfInBounds k true))
 | .fork u, L => (Region.ready .any ops L).all (fun i => (keysT u).any (Nat.beq i)) && ((keysT u).any (fun k => (Region.ready .any ops L).contains k) && chkT ops late m u L)
 | .alt k t u, L => ((Region.ready .any ops L).contains k && (headB t && chkT ops late m t (L.setIfInBounds k true))) && ((isQ late m k || (lateOf late k).isNone) && ((keysT u).isEmpty || (Nat.beq (fuelT u) (fuelT t + 1) && chkT ops late m u L)))
 | .nil, _ => true
def runT (P : Program) (T : TT) (C : Cx) (ops : Array Oper) (late : Late) (m : Nat) (K : SS → Prop) : OT → SS → Prop
 | .walk r, st => dops P T C ops.toList late m (pick ops.toList r) st K
 | .q k t, st => atOp ops.toList k (fun o => bif lateOk late k st o then dsopG P T C ops.toList o st (fun s => runT P T C ops late m K t s) else False)
 | .fork u, st => runT P T C ops late m K u st
 | .alt k t u, st => atOp ops.toList k (fun o => bif isQ late m k then dsopG P T C ops.toList o st (fun s => runT P T C ops late m K t s) else sopG P T C ops.toList o st (fun s => runT P T C ops late m K t s)) ∧ runT P T C ops late m K u st
 | .nil, _ => True
theorem atOp_inv {ops : Array Oper} {k : Nat} {f : Oper → Prop} (h : atOp ops.toList k f) : ∃ o, ops[k]? = some o ∧ f o := by
 unfold atOp at h
 split at h
 · rename_i o ho; exact ⟨o, by rw [nth_eq, Array.getElem?_toList] at ho; exact ho, h⟩
 · exact h.elim
theorem fuel_keys : ∀ {u : OT} {i : Nat}, i ∈ keysT u → ∃ f, fuelT u = f + 1
 | .alt k t u, i, _ => ⟨_, rfl⟩
 | .walk _, i, h => by cases h
 | .q _ _, i, h => by cases h
 | .fork _, i, h => by cases h
 | .nil, i, h => by cases h
theorem runT_any {ops : Array Oper} {late : Late} {m : Nat} {K : SS → Prop} : ∀ (t : OT),
   (∀ L st, headB t = true → chkT ops late m t L = true → Closed ops L → runT P T C ops late m K t st → SAny P T C ops late m K (fuelT t) L st) ∧
   (∀ L st i f, i ∈ keysT t → fuelT t = f + 1 → chkT ops late m t L = true → Closed ops L → runT P T C ops late m K t st → SOp P T C ops late m i (SAny P T C ops late m K f (L.setIfInBounds i true)) st)
 | .walk r => ⟨fun L st _ hb hcl hs => by
     simp only [chkT, Bool.and_eq_true] at hb
     have hn := Nat.eq_of_beq_eq_true hb.2
     have := body_any (P := P) (T := T) (C := C) (K := K) (late := late) (m := m) (pick ops.toList r) L st (fun x hx => pick_mem x hx) (by rw [pick_map hn]; exact hb.1) hcl hs
     rwa [hn] at this, fun L st i f hi => (by cases hi)⟩
 | .q k t => ⟨fun L st _ hb hcl hs => by
     simp only [chkT, Bool.and_eq_true] at hb
     obtain ⟨⟨hkm, ⟨hready, hfree⟩, hwait⟩, hhd, hb⟩ := hb
     obtain ⟨o, h0, hs⟩ := atOp_inv hs
     cases hlo : lateOk late k st o with
     | false => rw [hlo] at hs; exact hs.elim
     | true =>
     rw [hlo] at hs
     simp only [cond_true] at hs
     obtain ⟨hd, x, q, st1, he, hg, hK'⟩ := dsopG_inv hs
     have hspec := Region.free_spec h0 hfree
     have hrd : k ∈ Region.ready .any ops L := by simpa using hready
     refine SAny.first (q := q) h0 hkm hd (fuelT t) L st ?_ hcl hrd hg ?_
     · intro j oj hoj hne hun hno
       refine ⟨hspec j oj hoj hne hun hno, ?_⟩
       unfold waits at hwait
       rw [List.all_eq_true] at hwait
       have hj := hwait j (List.mem_range.2 (Array.getElem?_eq_some_iff.1 hoj).1)
       rw [hun] at hj
       simp only [Bool.or_eq_true, Bool.false_eq_true, false_or] at hj
       rcases hj with (hj | hj) | hj
       · exact .inl hj
       · exact .inr (.inl ⟨_, hj⟩)
       · obtain ⟨κ, fr, hκ, hm, hfr⟩ := lateFree_mem hj
         unfold lateOk at hlo
         rw [List.all_eq_true] at hlo
         have := hlo _ hm
         simp only [hfr, Bool.not_true, Bool.false_or] at this
         exact .inr (.inr ⟨κ, hκ, this⟩)
     · exact ((runT_any t).1 _ _ hhd hb (hcl.set h0 (ready_pre h0 hrd)) hK').eqv (he.symm.upd o x q), fun L st i f hi => (by cases hi)⟩
 | .fork u => ⟨fun L st _ hb hcl hs => by
     simp only [chkT, Bool.and_eq_true] at hb
     obtain ⟨hall, hex, hb⟩ := hb
     obtain ⟨k, hk, hkr⟩ := List.any_eq_true.1 hex
     obtain ⟨f, hf⟩ := fuel_keys hk
     have hkm : k ∈ Region.ready .any ops L := by simpa using hkr
     show SAny P T C ops late m K (fuelT u) L st
     rw [hf]
     refine ⟨fun h => (by rw [h] at hkm; cases hkm), fun i hi => ?_⟩
     rw [List.all_eq_true] at hall
     obtain ⟨j, hj, hji⟩ := List.any_eq_true.1 (hall i hi)
     have hij := Nat.eq_of_beq_eq_true hji
     subst hij
     exact (runT_any u).2 L st i f hj hf hb hcl hs, fun L st i f hi => (by cases hi)⟩
 | .alt k t u => ⟨fun L st h => (by cases h), fun L st i f hi hf hb hcl hs => by
     simp only [chkT, Bool.and_eq_true] at hb
     obtain ⟨⟨hready, hhd, hbt⟩, hq, hu⟩ := hb
     have hrd : k ∈ Region.ready .any ops L := by simpa using hready
     obtain ⟨h1, h2⟩ := hs
     rcases List.mem_cons.1 hi with rfl | hi
     · obtain ⟨o, h0, h1⟩ := atOp_inv h1
       have hft : fuelT t = f := by
         have : fuelT t + 1 = f + 1 := hf
         omega
       have next : ∀ s, runT P T C ops late m K t s → SAny P T C ops late m K f (L.setIfInBounds i true) s := fun s hs' => by
         rw [← hft]; exact (runT_any t).1 _ _ hhd hbt (hcl.set h0 (ready_pre h0 hrd)) hs'
       unfold SOp
       simp only [h0]
       cases hqi : isQ late m i with
       | true =>
         rw [if_pos rfl]
         rw [hqi] at h1
         obtain ⟨hd, x, q, st1, he, hg, hK'⟩ := dsopG_inv h1
         exact ⟨hd, x, q, hg, (next _ hK').eqv (he.symm.upd o x q)⟩
       | false =>
         rw [if_neg (by simp)]
         rw [hqi] at h1
         have hl : lateOf late i = none := by
           rw [hqi] at hq
           simpa using hq
         simp only [hl]
         exact ⟨st, fun _ _ h => h, sopG_mono next h1⟩
     · have hne : (keysT u).isEmpty = false := by
         cases hk : keysT u with
         | nil => rw [hk] at hi; cases hi
         | cons a b => rfl
       rw [hne] at hu
       simp only [Bool.false_or, Bool.and_eq_true] at hu
       have hfu := Nat.eq_of_beq_eq_true hu.1
       have hf' : fuelT t + 1 = f + 1 := hf
       exact (runT_any u).2 L st i f hi (by omega) hu.2 hcl h2⟩
 | .nil => ⟨fun L st h => (by cases h), fun L st i f hi => (by cases hi)⟩
theorem WPS.drawT (hT : TTgood P T) (hmix : P.follows .mixedOrders = true) {id : Nat} {ops : Array Oper} {st : SS} {K : SS → Prop} {Q : Exit → SS → Prop} (late : Late) (m : Nat) (t : OT)
   (hb : (headB t && (chkT ops late m t (Array.replicate ops.size false) && Nat.beq (fuelT t) ops.size)) = true) (hs : runT P T C ops late m K t st) (hQ : ∀ s, K s → Q .normal s) : WPS P C (.region id ops true) st Q := ⟨fun a w h => by
 refine wpIn_region_any hmix ?_
 have h' : SR C st a { w with drawn := w.drawn + 1 } := by
   obtain ⟨E, hE⟩ := h
   exact ⟨E, hE.world ⟨rfl, rfl, rfl, Nat.le_refl _, fun _ _ => rfl, Nat.le_succ _⟩⟩
 simp only [Bool.and_eq_true] at hb
 obtain ⟨h1, h2, h3⟩ := hb
 have hcl0 : Closed ops (Array.replicate ops.size false) := fun k ok hk => by simp [Array.getElem?_replicate] at hk
 have key := (runT_any (P := P) (T := T) (C := C) (K := K) t).1 _ st h1 h2 hcl0 hs
 rw [Nat.eq_of_beq_eq_true h3] at key
 have h4 := key.sound (ro := none) (n := 0) hT (Q := lift C Q) (fun st' a' w' hk hr => ⟨st', hr, hQ st' hk⟩) h'
 simpa using h4⟩
theorem WPS.cond {c : Operand} {x y : Code} {st : SS} {Q : Exit → SS → Prop} {b : Bool} (hb : ev st c = some (.o (.v (.bool b)))) (ht : b = true → WPS P C x st Q) (hf : b = false → WPS P C y st Q) : WPS P C (.cond c x y) st Q := ⟨fun a w h => by
 obtain ⟨E, hE⟩ := h
 have hev : a.eval c = .bool b := ev_ok hE hb
 exact wpIn_cond_split hev (fun hb => (ht hb).wp a w ⟨E, hE⟩) (fun hb => (hf hb).wp a w ⟨E, hE⟩)⟩
end
end Go.Sx
end
section
set_option maxRecDepth 10000
set_option maxHeartbeats 2000000
namespace Go.Sx
open Go Go.Proofs
theorem sgq_one (e : V × V) : ∀ v ∈ sgq e, v.oneCell' = true := sgC_one _
theorem c_CloneSg (A : Option Addr) (c : Nat) (E : List (V × V)) (h0 : 0 < E.length) (hl : E.length ≤ 1000) :
   FnM PP f_slices_Clone_sl_api_Segment_api_Segment [.slice A E.length c] (facts [SlRes A (rowV sgq E)]) (retsO t_api_Segment 12 E.length (rowV sgq E)) := by
 refine FnO.of TBgood mixed h_slices_Clone_sl_api_Segment_api_Segment rfl rfl (Nat.le_of_ble_eq_true rfl) (by simp [SlRes.ok]) ?_
 intro w hw
 have hA : A.isSome = true := slres_some (facts_one hw) (by rw [rowV_length sgq_len]; omega)
 conv => whnf
 refine br_false (show A.isNone = false by cases A with | none => cases hA | some a => rfl) ?_
 conv => whnf
 refine HookVC.of (SLX.of ((SLe.own 5 5 4 t_api_Segment 12 0 (xs := []) rfl rfl rfl rfl (by decide) rfl rfl).trans (SLe.id (st' := ⟨[(5, .o (.w 4)), (6, .o (.v (.slice A E.length c)))], [(4, .own t_api_Segment 12 0 [])], [SlRes A (rowV sgq E)]⟩) ⟨rfl, rfl, trivial⟩ ⟨⟨_, rfl, .refl _⟩, trivial⟩ (fun R hR => hR))) ?_)
 conv => whnf
 refine SrcVC.row0 (List.mem_singleton.2 rfl) (by rw [rowV_length sgq_len]; rfl) (by rw [rowV_length sgq_len]; omega) (rowV_all sgq_one _) ?_
 conv => whnf
 refine ⟨⟨by show 0 + E.length ≤ _; omega, by show (0 + E.length) * 160 ≤ _; omega⟩, ?_⟩
 conv => whnf
 refine ⟨7, rfl, ?_⟩
 show some (ME.own t_api_Segment 12 (0 + E.length) (app [] (rowV sgq E))) = _
 rw [app_eq, List.nil_append, Nat.zero_add]
theorem c_EqRat (A B : Option Addr) (c d : Nat) (xs ys : List Rat) (hx : xs.length ≤ 1000000) :
   FnM PP f_slices_Equal_sl_api_Rat_api_Rat [.slice A xs.length c, .slice B ys.length d] (facts [SlRes A (rowV ratQ xs), SlRes B (rowV ratQ ys)]) (retsV (.bool (decide (xs = ys)))) := by
 refine FnS.of TBgood mixed h_slices_Equal_sl_api_Rat_api_Rat rfl rfl (Nat.le_of_ble_eq_true rfl) (fun R hR => by simp only [List.mem_cons, List.not_mem_nil, or_false] at hR; rcases hR with rfl | rfl <;> exact SlRes.ok _ _) ?_
 intro w hw
 have hA : 0 < xs.length → A.isSome = true := fun h => slres_some (facts_two hw).1 (by rw [rowV_length ratQ_len]; omega)
 have hB : 0 < ys.length → B.isSome = true := fun h => slres_some (facts_two hw).2 (by rw [rowV_length ratQ_len]; omega)
 conv => whnf
 by_cases hl : xs.length = ys.length
 rotate_left
 · refine br_true (show (!((xs.length : Int) == (ys.length : Int))) = true by rw [Bool.not_eq_true', beq_eq_false_iff_ne]; omega) ?_
   conv => whnf
   refine postV_one (congrArg Value.bool ?_)
   rw [decide_eq_false (fun h => hl (by rw [h]))]
 refine br_false (show (!((xs.length : Int) == (ys.length : Int))) = false by rw [Bool.not_eq_false', beq_iff_eq]; omega) ?_
 conv => whnf
 refine sexec_loop (ι := Nat) (fun i => ⟨[(0, .o (.v (.slice A xs.length c))), (1, .o (.v (.slice B ys.length d))), (12, .o (.v (.int .i64 xs.length))), (13, .o (.v (.int .i64 i)))], [], [SlRes A (rowV ratQ xs), SlRes B (rowV ratQ ys)]⟩)
   (fun i => i ≤ xs.length ∧ xs.take i = ys.take i) (fun i => xs.length - i) 0 ⟨Nat.zero_le _, rfl⟩
   (SLe.id ⟨rfl, rfl, rfl, rfl, trivial⟩ trivial (fun R hR => hR)) ?_
 rintro i ⟨hi0, hi1⟩
 conv => whnf
 by_cases hi : i < xs.length
 rotate_left
 · refine br_false (decide_eq_false (show ¬ (i : Int) < (xs.length : Int) by omega)) ?_
   rw [List.take_of_length_le (by omega), List.take_of_length_le (by omega)] at hi1
   conv => whnf
   exact postV_one (congrArg Value.bool (decide_eq_true hi1).symm)
 refine br_true (decide_eq_true (show (i : Int) < (xs.length : Int) by omega)) ?_
 obtain ⟨x, hx1⟩ : ∃ x, xs[i]? = some x := ⟨_, List.getElem?_eq_getElem hi⟩
 obtain ⟨y, hy1⟩ : ∃ y, ys[i]? = some y := ⟨_, List.getElem?_eq_getElem (by omega)⟩
 conv => whnf
 refine DrawVC.quiet (by kernel_rfl) ?_
 conv => whnf
 refine ⟨⟨by omega, by omega, hA (by omega)⟩, ?_⟩
 conv => whnf
 refine LoadVC.elem (A := A) (xs := xs) (j := (i : Int)) ratQ ratQ_len (List.mem_cons_self ..) rfl (by rw [Int.toNat_natCast]; omega) (by decide) (fun h => by cases h) ?_
 intro x' hx'
 obtain rfl : x' = x := by rw [Int.toNat_natCast, hx1] at hx'; exact (Option.some.inj hx').symm
 conv => whnf
 refine ⟨⟨by omega, by omega, hB (by omega)⟩, ?_⟩
 conv => whnf
 refine LoadVC.elem (A := B) (xs := ys) (j := (i : Int)) ratQ ratQ_len (List.mem_cons_of_mem _ (List.mem_cons_self ..)) rfl (by rw [Int.toNat_natCast]; omega) (by decide) (fun h => by cases h) ?_
 intro y' hy'
 obtain rfl : y' = y := by rw [Int.toNat_natCast, hy1] at hy'; exact (Option.some.inj hy').symm
 conv => whnf
 by_cases hxy : x' = y'
 rotate_left
 · refine br_true (congrArg (!·) ((eqR (Q x') (Q y')).trans (decide_eq_false (fun h => hxy (Q_inj.1 h))))) ?_
   conv => whnf
   refine postV_one (congrArg Value.bool (decide_eq_false (fun h => hxy ?_)).symm)
   rw [h] at hx1; rw [hx1] at hy1; exact Option.some.inj hy1
 refine br_false (congrArg (!·) ((eqR (Q x') (Q y')).trans (decide_eq_true (by rw [hxy])))) ?_
 conv => whnf
 exact ⟨i + 1, ⟨by omega, by rw [take_snoc' hx1, take_snoc' hy1, hi1, hxy]⟩, by show xs.length - (i + 1) < xs.length - i; omega, SLe.id ⟨rfl, rfl, rfl, some_wrap hi (by omega), trivial⟩ trivial (fun S hS => hS)⟩
theorem c_EqFuncRat (A B : Option Addr) (c d : Nat) (ls ms : List (Ln Rat)) (hl : ls.length ≤ 1000000) (hx : ∀ l ∈ ls, l.xs.length ≤ 1000000) :
   FnM PP f_slices_EqualFunc_sl_sl_api_Rat_sl_sl_api_Rat_sl_api_Rat_sl_api_Rat [.slice A ls.length c, .slice B ms.length d, fnV f_slices_Equal_sl_api_Rat_api_Rat]
     (facts ([SlRes A (rowV Ln.C ls), SlRes B (rowV Ln.C ms)] ++ (ls.map (Ln.R ratQ) ++ ms.map (Ln.R ratQ)))) (retsV (.bool (decide (ls.map (·.xs) = ms.map (·.xs))))) := by
 obtain ⟨re, hre⟩ : ∃ re, re = [SlRes A (rowV Ln.C ls), SlRes B (rowV Ln.C ms)] ++ (ls.map (Ln.R ratQ) ++ ms.map (Ln.R ratQ)) := ⟨_, rfl⟩
 have m1 : SlRes A (rowV Ln.C ls) ∈ re := by rw [hre]; exact List.mem_cons_self ..
 have m2 : SlRes B (rowV Ln.C ms) ∈ re := by rw [hre]; exact List.mem_cons_of_mem _ (List.mem_cons_self ..)
 have m3 : ∀ l ∈ ls, SlRes l.A (rowV ratQ l.xs) ∈ re := fun l h => by rw [hre]; exact List.mem_append_right _ (List.mem_append_left _ (List.mem_map.2 ⟨l, h, rfl⟩))
 have m4 : ∀ l ∈ ms, SlRes l.A (rowV ratQ l.xs) ∈ re := fun l h => by rw [hre]; exact List.mem_append_right _ (List.mem_append_right _ (List.mem_map.2 ⟨l, h, rfl⟩))
 have hok : ∀ R ∈ re, R.ok := fun R hR => by
   rw [hre] at hR
   rcases List.mem_append.1 hR with hR | hR
   · simp only [List.mem_cons, List.not_mem_nil, or_false] at hR
     rcases hR with rfl | rfl <;> exact SlRes.ok _ _
   · rcases List.mem_append.1 hR with hR | hR
     · obtain ⟨l, _, rfl⟩ := List.mem_map.1 hR; exact SlRes.ok _ _
     · obtain ⟨l, _, rfl⟩ := List.mem_map.1 hR; exact SlRes.ok _ _
 rw [← hre]
 refine FnS.of TBgood mixed h_slices_EqualFunc_sl_sl_api_Rat_sl_sl_api_Rat_sl_api_Rat_sl_api_Rat rfl rfl (Nat.le_of_ble_eq_true rfl) hok ?_
 intro w hw
 have hA : 0 < ls.length → A.isSome = true := fun h => slres_some (hw _ m1) (by rw [rowV_length Ln.C_len]; omega)
 have hB : 0 < ms.length → B.isSome = true := fun h => slres_some (hw _ m2) (by rw [rowV_length Ln.C_len]; omega)
 conv => whnf
 by_cases hlen : ls.length = ms.length
 rotate_left
 · refine br_true (show (!((ls.length : Int) == (ms.length : Int))) = true by rw [Bool.not_eq_true', beq_eq_false_iff_ne]; omega) ?_
   conv => whnf
   refine postV_one (congrArg Value.bool ?_)
   rw [decide_eq_false (fun h => hlen (by have := congrArg List.length h; simpa using this))]
 refine br_false (show (!((ls.length : Int) == (ms.length : Int))) = false by rw [Bool.not_eq_false', beq_iff_eq]; omega) ?_
 conv => whnf
 refine sexec_loop (ι := Nat) (fun i => ⟨[(1, .o (.v (.slice B ms.length d))), (2, .o (.v (fnV f_slices_Equal_sl_api_Rat_api_Rat))), (15, .o (.v (.slice A ls.length c))), (16, .o (.v (.int .i64 ls.length))), (17, .o (.v (.int .i64 i)))], [], re⟩)
   (fun i => i ≤ ls.length ∧ (ls.map (·.xs)).take i = (ms.map (·.xs)).take i) (fun i => ls.length - i) 0 ⟨Nat.zero_le _, rfl⟩
   (SLe.id ⟨rfl, rfl, rfl, rfl, rfl, trivial⟩ trivial (fun R hR => hR)) ?_
 rintro i ⟨hi0, hi1⟩
 conv => whnf
 by_cases hi : i < ls.length
 rotate_left
 · refine br_false (decide_eq_false (show ¬ (i : Int) < (ls.length : Int) by omega)) ?_
   rw [List.take_of_length_le (by rw [List.length_map]; omega), List.take_of_length_le (by rw [List.length_map]; omega)] at hi1
   conv => whnf
   exact postV_one (congrArg Value.bool (decide_eq_true hi1).symm)
 refine br_true (decide_eq_true (show (i : Int) < (ls.length : Int) by omega)) ?_
 obtain ⟨x, hx1⟩ : ∃ x, ls[i]? = some x := ⟨_, List.getElem?_eq_getElem hi⟩
 obtain ⟨y, hy1⟩ : ∃ y, ms[i]? = some y := ⟨_, List.getElem?_eq_getElem (by omega)⟩
 conv => whnf
 refine ⟨⟨by omega, by omega, hA (by omega)⟩, ?_⟩
 conv => whnf
 refine LoadVC.elem (A := A) (xs := ls) (j := (i : Int)) Ln.C Ln.C_len m1 rfl (by rw [Int.toNat_natCast]; omega) (by decide) (fun _ => rfl) ?_
 intro x' hx'
 obtain rfl : x' = x := by rw [Int.toNat_natCast, hx1] at hx'; exact (Option.some.inj hx').symm
 conv => whnf
 refine ⟨⟨by omega, by omega, hB (by omega)⟩, ?_⟩
 conv => whnf
 refine LoadVC.elem (A := B) (xs := ms) (j := (i : Int)) Ln.C Ln.C_len m2 rfl (by rw [Int.toNat_natCast]; omega) (by decide) (fun _ => rfl) ?_
 intro y' hy'
 obtain rfl : y' = y := by rw [Int.toNat_natCast, hy1] at hy'; exact (Option.some.inj hy').symm
 have heq := c_EqRat x'.A y'.A x'.c y'.c x'.xs y'.xs (hx x' (List.mem_of_getElem? hx1))
 conv => whnf
 refine cfs heq ?_ rfl (fun R hR => ?_)
 rotate_left
 · simp only [List.mem_cons, List.not_mem_nil, or_false] at hR
   rcases hR with rfl | rfl
   · exact m3 _ (List.mem_of_getElem? hx1)
   · exact m4 _ (List.mem_of_getElem? hy1)
 have h1 : (ls.map (·.xs))[i]? = some x'.xs := by rw [List.getElem?_map, hx1]; rfl
 have h2 : (ms.map (·.xs))[i]? = some y'.xs := by rw [List.getElem?_map, hy1]; rfl
 by_cases hxy : x'.xs = y'.xs
 rotate_left
 · rw [decide_eq_false hxy]
   conv => whnf
   refine postV_one (congrArg Value.bool (decide_eq_false (fun h => hxy ?_)).symm)
   rw [h, h2] at h1; exact (Option.some.inj h1).symm
 rw [decide_eq_true hxy]
 conv => whnf
 exact ⟨i + 1, ⟨by omega, by rw [take_snoc' h1, take_snoc' h2, hi1, hxy]⟩, by show ls.length - (i + 1) < ls.length - i; omega, SLe.id ⟨rfl, rfl, rfl, rfl, some_wrap hi (by omega), trivial⟩ trivial (fun S hS => hS)⟩
theorem c_lengths (A : Option Addr) (c : Nat) (ls : List (Ln Nat)) (hl : ls.length ≤ 1000000) (hx : ∀ l ∈ ls, l.xs.length ≤ 1000000) :
   FnM PP f_narrowslaw16_lengths [.slice A ls.length c] (facts [SlRes A (rowV Ln.C ls)]) (retsO t_int 1 ls.length (rowV intC (ls.map (·.xs.length)))) := by
 refine FnO.of TBgood mixed h_narrowslaw16_lengths rfl rfl (Nat.le_of_ble_eq_true rfl) (by simp [SlRes.ok]) ?_
 intro w hw
 have hA : 0 < ls.length → A.isSome = true := fun h => slres_some (facts_one hw) (by rw [rowV_length Ln.C_len]; omega)
 conv => whnf
 refine sexec_loop (ι := Nat) (fun i => ⟨[(3, .o (.w 4)), (6, .o (.v (.slice A ls.length c))), (7, .o (.v (.int .i64 ls.length))), (8, .o (.v (.int .i64 i)))], [(4, .own t_int 1 i (rowV intC ((ls.take i).map (·.xs.length))))], [SlRes A (rowV Ln.C ls)]⟩)
   (fun i => i ≤ ls.length) (fun i => ls.length - i) 0 (Nat.zero_le _)
   ((SLe.nil 3 4 t_int 1 rfl rfl).trans (SLe.id ⟨rfl, rfl, rfl, rfl, trivial⟩ ⟨⟨_, rfl, .refl _⟩, trivial⟩ (fun R hR => hR))) ?_
 intro i hi0
 have hi0 : i ≤ ls.length := hi0
 conv => whnf
 by_cases hi : i < ls.length
 rotate_left
 · refine br_false (decide_eq_false (show ¬ (i : Int) < (ls.length : Int) by omega)) ?_
   conv => whnf
   refine ⟨4, rfl, ?_⟩
   show some (ME.own t_int 1 i (rowV intC ((ls.take i).map (·.xs.length)))) = _
   rw [List.take_of_length_le (by omega), show i = ls.length by omega]
 refine br_true (decide_eq_true (show (i : Int) < (ls.length : Int) by omega)) ?_
 obtain ⟨x, hx1⟩ : ∃ x, ls[i]? = some x := ⟨_, List.getElem?_eq_getElem hi⟩
 conv => whnf
 refine ⟨⟨by omega, by omega, hA (by omega)⟩, ?_⟩
 conv => whnf
 refine LoadVC.elem (A := A) (xs := ls) (j := (i : Int)) Ln.C Ln.C_len (List.mem_cons_self ..) rfl (by rw [Int.toNat_natCast]; omega) (by decide) (fun _ => rfl) ?_
 intro x' hx'
 obtain rfl : x' = x := by rw [Int.toNat_natCast, hx1] at hx'; exact (Option.some.inj hx').symm
 conv => whnf
 refine ⟨by show i + 1 ≤ 9223372036854775807 ∧ (i + 1) * 8 ≤ 140737488355328; omega, ?_⟩
 conv => whnf
 refine ⟨i + 1, by show i + 1 ≤ ls.length; omega, by show ls.length - (i + 1) < ls.length - i; omega, SLe.mk (fun k => bif Nat.beq k 4 then 16 else k) ⟨rfl, rfl, rfl, some_wrap hi (by omega), trivial⟩ ⟨⟨_, rfl, ?_⟩, trivial⟩ rfl (fun R hR => hR)⟩
 rw [take_snoc' hx1, List.map_append, show List.map (fun l : Ln Nat => l.xs.length) [x'] = [x'.xs.length] from rfl, ← int1]; exact .refl _
end Go.Sx
end
section
/- A symbolic executor over loaded Go code: literal slices that a call writes, or that are returned. -/
namespace Go.Sx
open Go Go.RowKit
section
variable {P : Program} {T : TT} {C : Cx} {E : Env} {st : SS}
def rowAt (st : SS) (k : Nat) (t : TypeId) (ys : List Value) : Prop := lk k st.me = some (.sym ys t) ∨ ∃ cs, lk k st.me = some (.box cs t) ∧ allV cs = some ys
theorem rowAt_ent {k t : Nat} {ys : List Value} (h : rowAt st k t ys) {w : World} (hm : MemOk C E st.me st.re w) : ∃ b mm, lk k st.me = some mm ∧ E.β k = some b ∧ w.heap[b]? = some (.cells ys.toArray t (0, 0)) := by
 rcases h with h | ⟨cs, h, hx⟩
 · obtain ⟨b, h1, h2⟩ := hm.ent _ _ h
   exact ⟨b, _, h, h1, h2⟩
 · obtain ⟨b, h1, h2⟩ := hm.ent _ _ h
   rw [allV_real E hx] at h2
   exact ⟨b, _, h, h1, h2⟩
theorem CallVC.cb {g : FuncId} {vs : List Value} {re : List Res} {t n m c k : Nat} {xs ys : List Value} {K : SV → SS → Prop} (h : FnC P g vs re t n xs m ys) (hk : rowAt st k t xs) (hnc : n ≤ c)
   (hre : ∀ R ∈ re, R ∈ st.re) (hK : ∀ jk, (ys ++ jk).length = xs.length → K (.o (.s k 0 m c)) { st with me := setL k (.sym (ys ++ jk) t) st.me }) {args : List SV} (ha : args = .o (.s k 0 n c) :: vsv vs) : CallVC P C g args st K := by
 subst ha
 refine ⟨h.enters, fun E w hm => ?_⟩
 obtain ⟨b, mm, hkk, hβ, hheap⟩ := rowAt_ent hk hm
 have hreal : ∀ n, (SV.o (.s k 0 n c)).real E = .slice (some ⟨b, 0, none⟩) n c := fun n => by simp [SV.real, AV.real, hβ]
 rw [List.map_cons, vsv_real, hreal]
 have hheap' : w.heap[b]? = some (.cells (xs ++ []).toArray t (0, 0)) := by rw [List.append_nil]; exact hheap
 refine (h.calls w b c [] hheap' hnc (fun R hR => (hm.res R (hre R hR)).2.1) (fun R hR hb => ((hm.res R (hre R hR)).2.2 b hb).2 k _ hkk hβ)).mono ?_
 rintro e w' ⟨rfl, ⟨jk, hnew, hl⟩, hg, hdr⟩
 exact ⟨E, { st with me := setL k (.sym (ys ++ jk) t) st.me }, .o (.s k 0 m c), by rw [hreal], hm.wrote hkk hβ hg hdr ⟨b, hβ, hnew⟩, KD.wrote hg hheap', fun i sv hi => ⟨sv, hi, rfl⟩, hK jk (by rw [hl, List.append_nil])⟩
end
end Go.Sx
end
section
set_option maxRecDepth 10000
set_option maxHeartbeats 2000000
namespace Go.Sx
open Go Go.Proofs
abbrev ptQ (p : V) : List Value := ptC (PQ p)
theorem ptQ_len (p : V) : (ptQ p).length = 6 := rfl
end Go.Sx
end
section
/- The law of order. -/
set_option maxRecDepth 10000
set_option maxHeartbeats 2000000
namespace Go.Sx
open Go Go.Proofs
theorem w_SlabOrder (b : Bx) (A : Option Addr) (c : Nat) (l : List (Pt × Pt)) (hlc : l.length ≤ c) (B : Option Addr) (cb : Nat) (o : List (Fin 256)) (hob : o.length ≤ cb ∧ cb ≤ maxLen) :
   FnM PP f_narrowslaw16_SlabOrder [bxV b, .slice A l.length c, .slice B o.length cb] (facts [SlRes A (rowV sgC l), SlRes B (rowV u8C o)]) (retsV (.bool true)) := by
 refine FnM.ofS TBgood mixed h_narrowslaw16_SlabOrder rfl rfl (Nat.le_of_ble_eq_true rfl) (fun R hR => by simp only [List.mem_cons, List.not_mem_nil, or_false] at hR; rcases hR with rfl | rfl <;> exact SlRes.ok _ _) (fun w l st E w' hp hm => postV_ok hp hm) ?_
 intro w hw
 refine WPS.peel TBgood mixed ?_
 conv => whnf
 refine WPS.peel TBgood mixed ?_
 conv => whnf
 by_cases hno : grt16 b l = true ∨ 8 < l.length ∨ bldE b l ≠ 0
 · have hn := c_lbuildNo b A c l hno
   refine cfs hn ?_ rfl (fun R h => by rw [List.mem_singleton.1 h]; exact List.mem_cons_self ..)
   conv => whnf
   refine WPS.of TBgood mixed ?_
   conv => whnf
   refine cf c_awake16 ?_
   conv => whnf
   exact postV_one rfl
 obtain ⟨lo, hi, E, hB⟩ := Bld.of hno
 obtain ⟨rfl, rfl, hg, hlen, hx, hy, hlo, hhi, hE⟩ := hB
 have hb := c_lbuildOk lo hi E A c hg hlen hx hy hE hlo hhi
 rw [List.length_map, show rowV sgC (E.map fun e => (PQ e.1, PQ e.2)) = rowV sgq E from rowV_map ..]
 refine CallVC.e hb.enters (CallV.facts hb rfl (fun R h => by rw [List.mem_singleton.1 h]; exact List.mem_cons_self ..)) (fun i => F'_ok i) (fun d _ => ?_)
 obtain ⟨d, e1, e2, e3, his, e5⟩ := d
 conv => whnf
 refine WPS.peel TBgood mixed ?_
 conv => whnf
 by_cases h0 : E.length = 0
 · refine br_true (show ((E.length : Int) == 0) = true by rw [beq_iff_eq]; omega) ?_
   conv => whnf
   refine cf c_awake16 ?_
   conv => whnf
   exact postV_one rfl
 refine br_false (show ((E.length : Int) == 0) = false by rw [beq_eq_false_iff_ne]; omega) ?_
 have hcl := c_CloneSg A c E (by omega) (by omega)
 conv => whnf
 refine WPS.peel TBgood mixed ?_
 conv => whnf
 refine CallVC.o 31 hcl.enters (CallV.facts hcl rfl (fun R h => by rw [List.mem_singleton.1 h]; exact List.mem_append_right _ (List.mem_cons_self ..))) rfl rfl ?_
 conv => whnf
 refine WPS.seq ?_
 refine WPS.peel TBgood mixed ?_
 conv => whnf
 refine WPS.block ?_
 obtain ⟨n, hn⟩ : ∃ n, n = E.length := ⟨_, rfl⟩
 obtain ⟨no, hno'⟩ : ∃ n, n = o.length := ⟨_, rfl⟩
 have hmx : no ≤ maxLen := by rw [hno']; exact Nat.le_trans hob.1 hob.2
 refine WPS.loop (ι := Nat × List (V × V)) (fun ⟨i, M⟩ => ⟨[(3, .o (.p 3 0)), (7, .o (.p 7 0)), (9, .o (.w 31)), (32, .o (.v (.slice B no cb))), (33, .o (.v (.int .i64 no))), (34, .o (.v (.int .i64 i)))],
     [(3, .box ((boxC ⟨PQ lo, PQ hi⟩).map AV.v) t_api_Box), (7, slM d), (31, .own t_api_Segment 12 n (rowV sgq M))], d.F' ++ [SlRes A (rowV sgq E), SlRes B (rowV u8C o)]⟩)
   (fun ⟨i, M⟩ => i ≤ no ∧ Sim E M ∧ M.length = n ∧ ∀ e ∈ M, (SzV K0 e.1 ∧ SzV K0 e.2) ∧ e.1 ≠ e.2) (fun ⟨i, _⟩ => no - i) (0, E) ⟨Nat.zero_le _, Sim.refl E, hn.symm, hE⟩
   (SLe.id ⟨rfl, rfl, rfl, by rw [hno']; rfl, by rw [hno']; rfl, rfl, trivial⟩ ⟨⟨_, rfl, .refl _⟩, ⟨_, rfl, .refl _⟩, ⟨_, rfl, by rw [hn]; exact .refl _⟩, trivial⟩ (fun R hR => hR)) ?_
 rintro ⟨i, M⟩ ⟨hi0, hS, hM, hMv⟩
 refine WPS.peel TBgood mixed ?_
 conv => whnf
 refine WPS.seq ?_
 refine WPS.cond rfl ?_ ?_
 · intro hlt
   have hi1 : i < no := by have : (i : Int) < (no : Int) := of_decide_eq_true hlt; omega
   have hwi : some (SV.o (.v (.int .i64 (IntKind.i64.wrap ((i : Int) + 1))))) = some (SV.o (.v (.int .i64 ((i + 1 : Nat) : Int)))) := by rw [wrap_i64 (by omega) (by unfold maxLen at hmx; omega)]; rfl
   obtain ⟨u, hu⟩ : ∃ u, o[i]? = some u := ⟨_, List.getElem?_eq_getElem (by omega)⟩
   refine WPS.of TBgood mixed ?_
   conv => whnf
   refine WPS.seq ?_
   refine WPS.block ?_
   refine WPS.pure (p := B.isSome = true) (fun w' hR => slres_some (hR (SlRes B (rowV u8C o)) (List.mem_append_right _ (List.mem_cons_of_mem _ (List.mem_cons_self ..)))) (by rw [rowV_length u8C_len]; omega)) (fun hBs => ?_)
   refine WPS.peel TBgood mixed ?_
   conv => whnf
   refine ⟨⟨by omega, by omega, hBs⟩, ?_⟩
   conv => whnf
   refine LoadVC.elem (A := B) (xs := o) (j := (i : Int)) u8C u8C_len (List.mem_append_right _ (List.mem_cons_of_mem _ (List.mem_cons_self ..))) rfl (by rw [Int.toNat_natCast]; omega) (by decide) (fun _ => rfl) ?_
   intro u' hu'
   obtain rfl : u' = u := by rw [Int.toNat_natCast, hu] at hu'; exact (Option.some.inj hu').symm
   conv => whnf
   refine WPS.peel TBgood mixed ?_
   conv => whnf
   refine DrawVC.quiet (by kernel_rfl) ?_
   conv => whnf
   refine ⟨by omega, ?_⟩
   conv => whnf
   refine ⟨by omega, ?_⟩
   conv => whnf
   refine WPS.seq ?_
   obtain ⟨j, hj⟩ : ∃ j, j = i % n := ⟨_, rfl⟩
   obtain ⟨k, hk⟩ : ∃ k, k = u'.val % n := ⟨_, rfl⟩
   have hjn : j < n := by rw [hj]; exact Nat.mod_lt _ (by omega)
   have hkn : k < n := by rw [hk]; exact Nat.mod_lt _ (by omega)
   obtain ⟨x, hx⟩ : ∃ x, M[j]? = some x := ⟨_, List.getElem?_eq_getElem (by omega)⟩
   obtain ⟨y, hy⟩ : ∃ y, M[k]? = some y := ⟨_, List.getElem?_eq_getElem (by omega)⟩
   refine WPS.drawT TBgood mixed [] 13 (.q 0 (.q 1 (.q 4 (.q 5 (.q 6 (.q 7 (.q 8 (.q 9 (.q 10 (.q 11 (.q 12 (.fork (.alt 13 (.q 2 (.q 3 (.walk [14, 15]))) (.alt 2 (.fork (.alt 13 (.q 3 (.walk [14, 15])) (.alt 3 (.walk [13, 14, 15]) .nil))) (.alt 3 (.fork (.alt 13 (.q 2 (.walk [14, 15])) (.alt 2 (.walk [13, 14, 15]) .nil))) .nil)))))))))))))))
     (K := fun st => SLe ⟨w, [], b_narrowslaw16_SlabOrder.ntmps⟩ st ⟨[(3, .o (.p 3 0)), (7, .o (.p 7 0)), (9, .o (.w 31)), (11, .o (.v (.int .u8 u'.val))), (13, .o (.v (.int .i64 k))), (32, .o (.v (.slice B no cb))), (33, .o (.v (.int .i64 no))), (34, .o (.v (.int .i64 i)))],
     [(3, .box ((boxC ⟨PQ lo, PQ hi⟩).map AV.v) t_api_Box), (7, slM d), (31, .own t_api_Segment 12 n (rowV sgq ((M.set j y).set k x)))], d.F' ++ [SlRes A (rowV sgq E), SlRes B (rowV u8C o)]⟩) (by kernel_rfl) ?_ ?_
   · have ej : (i : Int).tmod (n : Int) = (j : Int) := by rw [hj]; exact (Int.ofNat_tmod i n).symm
     have ek : (IntKind.i64.wrap (u'.val : Int)).tmod (n : Int) = (k : Int) := by
       have := u'.isLt
       rw [wrap_i64 (by omega) (by omega), hk]; exact (Int.ofNat_tmod u'.val n).symm
     conv => whnf
     refine ⟨by rw [ek]; omega, ?_⟩
     conv => whnf
     refine RowVC.elem sgq sgq_len (k := k) (by show ((IntKind.i64.wrap (u'.val : Int)).tmod (n : Int)).toNat * 12 = k * 12; rw [ek, Int.toNat_natCast]) (by omega) (by decide) (fun h => by cases h) ?_
     intro y' hy'
     obtain rfl : y' = y := by rw [hy] at hy'; exact (Option.some.inj hy').symm
     conv => whnf
     refine ⟨by rw [ej]; omega, ?_⟩
     conv => whnf
     refine RowVC.elem sgq sgq_len (k := j) (by show ((i : Int).tmod (n : Int)).toNat * 12 = j * 12; rw [ej, Int.toNat_natCast]) (by omega) (by decide) (fun h => by cases h) ?_
     intro x' hx'
     obtain rfl : x' = x := by rw [hx] at hx'; exact (Option.some.inj hx').symm
     conv => whnf
     refine ⟨by rw [ej]; omega, ?_⟩
     conv => whnf
     obtain ⟨ju, hju⟩ : ∃ ju : Nat, ju = ((i : Int).tmod (n : Int)).toNat := ⟨_, rfl⟩
     obtain ⟨ku, hku⟩ : ∃ ku : Nat, ku = ((IntKind.i64.wrap (u'.val : Int)).tmod (n : Int)).toNat := ⟨_, rfl⟩
     have ejn : ju = j := by rw [hju, ej, Int.toNat_natCast]
     have ekn : ku = k := by rw [hku, ek, Int.toNat_natCast]
     have hp1 : putN (ju * 12) (sgq y') (rowV sgq M) = rowV sgq (M.set j y') := by rw [ejn]; exact rowV_put sgq_len y' (by omega)
     have hp2 : putN (ku * 12) (sgq x') (putN (ju * 12) (sgq y') (rowV sgq M)) = rowV sgq ((M.set j y').set k x') := by
       rw [hp1, ekn]; exact rowV_put sgq_len x' (by rw [List.length_set]; omega)
     have hb1 : ju * 12 + 12 ≤ (rowV sgq M).length ∧ 0 < 12 := by rw [ejn, rowV_length sgq_len]; omega
     have hb2 : ku * 12 + 12 ≤ (putN (ju * 12) (sgq y') (rowV sgq M)).length ∧ 0 < 12 := by rw [hp1, ekn, rowV_length sgq_len, List.length_set]; omega
     have hme : MEle (ME.own t_api_Segment 12 n (putN (ku * 12) (sgq x') (putN (ju * 12) (sgq y') (rowV sgq M)))) (ME.own t_api_Segment 12 n (rowV sgq ((M.set j y').set k x'))) := by rw [hp2]; exact .refl _
     have hk0 : 0 ≤ (IntKind.i64.wrap (u'.val : Int)).tmod (n : Int) ∧ (IntKind.i64.wrap (u'.val : Int)).tmod (n : Int) < (n : Int) := by rw [ek]; omega
     have hkv : some (SV.o (.v (.int .i64 ((IntKind.i64.wrap (u'.val : Int)).tmod (n : Int))))) = some (SV.o (.v (.int .i64 (k : Int)))) := by rw [ek]
     rw [hku, hju] at hb2 hme
     rw [hju] at hb1
     repeat' (first
       | exact True.intro
       | exact SLe.id ⟨rfl, rfl, rfl, rfl, hkv, rfl, rfl, rfl, trivial⟩ ⟨⟨_, rfl, .refl _⟩, ⟨_, rfl, .refl _⟩, ⟨_, rfl, hme⟩, trivial⟩ (fun R hR => hR)
       | (refine And.intro ?_ ?_ <;> (conv => whnf))
       | (refine ⟨hk0, ?_⟩; conv => whnf)
       | (refine ⟨hb1, ?_⟩; conv => whnf)
       | (refine ⟨hb2, ?_⟩; conv => whnf))
   intro s hs
   refine WPS.le ?_ hs
   have hlM : ((M.set j y).set k x).length = n := by rw [List.length_set, List.length_set]; exact hM
   have hSM : Sim E ((M.set j y).set k x) := hS.swap hx hy
   have hMM : ∀ e ∈ (M.set j y).set k x, (SzV K0 e.1 ∧ SzV K0 e.2) ∧ e.1 ≠ e.2 := fun e he => by
     rcases List.mem_or_eq_of_mem_set he with he | rfl
     · rcases List.mem_or_eq_of_mem_set he with he | rfl
       · exact hMv e he
       · exact hMv e (List.mem_of_getElem? hy)
     · exact hMv e (List.mem_of_getElem? hx)
   generalize (M.set j y).set k x = M1 at hlM hSM hMM
   refine WPS.peel TBgood mixed ?_
   conv => whnf
   refine ⟨by decide, ?_⟩
   conv => whnf
   refine WPS.cond rfl ?_ ?_
   rotate_left
   · intro _
     refine WPS.of TBgood mixed ?_
     conv => whnf
     refine WPS.of TBgood mixed ?_
     conv => whnf
     exact ⟨(i + 1, M1), ⟨hi1, hSM, hlM, hMM⟩, by show no - (i + 1) < no - i; omega, SLe.id ⟨rfl, rfl, rfl, rfl, rfl, hwi, trivial⟩ ⟨⟨_, rfl, .refl _⟩, ⟨_, rfl, .refl _⟩, ⟨_, rfl, .refl _⟩, trivial⟩ (fun R hR => hR)⟩
   · intro _
     obtain ⟨z, hz⟩ : ∃ z, M1[k]? = some z := ⟨_, List.getElem?_eq_getElem (by omega)⟩
     refine WPS.drawT TBgood mixed [] 16 (.q 0 (.q 1 (.q 4 (.q 5 (.q 6 (.q 7 (.q 8 (.q 9 (.q 10 (.q 11 (.q 12 (.q 13 (.q 14 (.q 15 (.fork (.alt 16 (.q 2 (.q 3 (.walk [17, 18, 19]))) (.alt 2 (.fork (.alt 16 (.q 3 (.walk [17, 18, 19])) (.alt 3 (.walk [16, 17, 18, 19]) .nil))) (.alt 3 (.fork (.alt 16 (.q 2 (.walk [17, 18, 19])) (.alt 2 (.walk [16, 17, 18, 19]) .nil))) .nil))))))))))))))))))
       (K := fun st => SLe ⟨w, [], b_narrowslaw16_SlabOrder.ntmps⟩ st ⟨[(3, .o (.p 3 0)), (7, .o (.p 7 0)), (9, .o (.w 31)), (32, .o (.v (.slice B no cb))), (33, .o (.v (.int .i64 no))), (34, .o (.v (.int .i64 i)))],
       [(3, .box ((boxC ⟨PQ lo, PQ hi⟩).map AV.v) t_api_Box), (7, slM d), (31, .own t_api_Segment 12 n (rowV sgq (M1.set k (z.2, z.1))))], d.F' ++ [SlRes A (rowV sgq E), SlRes B (rowV u8C o)]⟩) (by kernel_rfl) ?_ ?_
     · have hq1 : putN (k * 12 + 6) (ptQ z.1) (putN (k * 12) (ptQ z.2) (rowV sgq M1)) = rowV sgq (M1.set k (z.2, z.1)) := by
         rw [← rowV_put sgq_len (z.2, z.1) (show k < M1.length by omega), putN_eq (k * 12) (sgq (z.2, z.1)) _ (by rw [sgq_len, rowV_length sgq_len]; omega), putN_eq (k * 12) (ptQ z.2) _ (by rw [ptQ_len, rowV_length sgq_len]; omega),
           putN_eq _ _ _ (by rw [ptQ_len, List.length_append, List.length_append, List.length_take, List.length_drop, ptQ_len, rowV_length sgq_len]; omega), sgq_len, ptQ_len, ptQ_len]
         have h1 : ((rowV sgq M1).take (k * 12)).length = k * 12 := by rw [List.length_take, rowV_length sgq_len]; omega
         have h2 : ((rowV sgq M1).take (k * 12) ++ ptQ z.2).length = k * 12 + 6 := by rw [List.length_append, h1, ptQ_len]
         rw [List.take_append_of_le_length (by rw [h2]; omega), List.take_of_length_le (by rw [h2]; omega), List.drop_append, List.drop_of_length_le (by rw [h2]; omega), h2, List.nil_append, List.drop_drop, show k * 12 + 6 + (k * 12 + 6 + 6 - (k * 12 + 6)) = k * 12 + 12 by omega]
         show _ = (rowV sgq M1).take (k * 12) ++ (ptQ z.2 ++ ptQ z.1) ++ _
         simp only [List.append_assoc]
       have hc1 : 0 ≤ (k : Int) ∧ (k : Int) < (n : Int) := by omega
       have hn0 : 0 < n := by omega
       rw [show k = (k : Int).toNat by rw [Int.toNat_natCast]] at hq1
       have hb1 : (k : Int).toNat * 12 + 6 ≤ (rowV sgq M1).length ∧ 0 < 6 := by rw [rowV_length sgq_len, Int.toNat_natCast]; omega
       have hb2 : (k : Int).toNat * 12 + 6 + 6 ≤ (putN ((k : Int).toNat * 12) (ptQ z.2) (rowV sgq M1)).length ∧ 0 < 6 := by rw [putN_length, rowV_length sgq_len, Int.toNat_natCast]; omega
       have hme : MEle (ME.own t_api_Segment 12 n (putN ((k : Int).toNat * 12 + 6) (ptQ z.1) (putN ((k : Int).toNat * 12) (ptQ z.2) (rowV sgq M1)))) (ME.own t_api_Segment 12 n (rowV sgq (M1.set k (z.2, z.1)))) := by
         rw [hq1]; rw [Int.toNat_natCast]; exact .refl _
       conv => whnf
       refine ⟨hc1, ?_⟩
       conv => whnf
       refine ⟨by omega, ?_⟩
       conv => whnf
       refine RowVC.fld (o := 6) (m := 6) sgq sgq_len hz (by show (k : Int).toNat * 12 + 6 = k * 12 + 6; rw [Int.toNat_natCast]) (by decide) (by decide) (fun h => by cases h) ?_
       conv => whnf
       refine ⟨hc1, ?_⟩
       conv => whnf
       refine ⟨by omega, ?_⟩
       conv => whnf
       refine RowVC.fld (o := 0) (m := 6) sgq sgq_len hz (by show (k : Int).toNat * 12 + 0 = k * 12 + 0; rw [Int.toNat_natCast]) (by decide) (by decide) (fun h => by cases h) ?_
       conv => whnf
       refine ⟨hc1, ?_⟩
       conv => whnf
       refine ⟨by omega, ?_⟩
       conv => whnf
       repeat' (first
         | exact True.intro
         | exact SLe.id ⟨rfl, rfl, rfl, rfl, rfl, rfl, trivial⟩ ⟨⟨_, rfl, .refl _⟩, ⟨_, rfl, .refl _⟩, ⟨_, rfl, hme⟩, trivial⟩ (fun R hR => hR)
         | (refine And.intro ?_ ?_ <;> (conv => whnf))
         | (refine ⟨hc1, ?_⟩; conv => whnf)
         | (refine ⟨hb1, ?_⟩; conv => whnf)
         | (refine ⟨hb2, ?_⟩; conv => whnf)
         | (refine ⟨hn0, ?_⟩; conv => whnf))
     intro s hs
     refine WPS.le ?_ hs
     refine WPS.of TBgood mixed ?_
     conv => whnf
     exact ⟨(i + 1, M1.set k (z.2, z.1)), ⟨hi1, hSM.flip hz, by rw [List.length_set]; exact hlM, fun e he => by
       rcases List.mem_or_eq_of_mem_set he with he | rfl
       · exact hMM e he
       · have := hMM z (List.mem_of_getElem? hz); exact ⟨⟨this.1.2, this.1.1⟩, fun h => this.2 h.symm⟩⟩, by show no - (i + 1) < no - i; omega, SLe.id ⟨rfl, rfl, rfl, rfl, rfl, hwi, trivial⟩ ⟨⟨_, rfl, .refl _⟩, ⟨_, rfl, .refl _⟩, ⟨_, rfl, .refl _⟩, trivial⟩ (fun R hR => hR)⟩
 · intro hlt
   have hi1 : i = no := by have : ¬ (i : Int) < (no : Int) := of_decide_eq_false hlt; omega
   refine WPS.of TBgood mixed ?_
   conv => whnf
   refine WPS.ofX (SLX.freezeF 31 rfl (fun A' cp hcp _ => SLX.here ?_))
   have hb2 := c_BuildOk lo hi A' cp M hlo hhi hx hy hMv (by omega)
   rw [hM] at hb2
   refine WPS.peel TBgood mixed ?_
   conv => whnf
   refine CallVC.e hb2.enters (CallV.facts hb2 rfl (fun R h => by rw [List.mem_singleton.1 h]; exact List.mem_cons_self ..)) (fun i => F'_ok i) (fun d2 _ => ?_)
   obtain ⟨d2, f1, f2, f3, his2, f5⟩ := d2
   have q1 : d.X.xs = d2.X.xs := by rw [his.1, his2.1, e1, e2, f1, f2, e3, f3]; exact xs_sim hS
   have q2 : d.L.xs.map (·.xs) = d2.L.xs.map (·.xs) := by
     rw [his.2.1, his2.2.1, e1, e2, f1, f2, e3, f3, q1]
     exact List.map_congr_left fun x _ => ys_sim hS x
   have q3 : d.S.xs.map (·.xs.length) = d2.S.xs.map (·.xs.length) := by
     have key : ∀ s : Sl, s.S.xs.map (·.xs.length) = (s.S.xs.map (·.xs)).map List.length := fun s => by rw [List.map_map]; rfl
     rw [key d, key d2, his.2.2, his2.2.2, e1, e2, f1, f2, e3, f3, q1]
     exact strips_len_sim (fun x y => strp_sim hS x y) _
   have hsm := (Sl.is_small his (by rw [e3]; exact hlen)).1
   have hsm2 := (Sl.is_small his2 (by rw [f3]; show M.length ≤ 8; omega)).1
   have hX := c_EqRat d.X.A d2.X.A d.X.c d2.X.c d.X.xs d2.X.xs hsm.1
   rw [decide_eq_true q1] at hX
   have hLs := c_EqFuncRat d.L.A d2.L.A d.L.c d2.L.c d.L.xs d2.L.xs hsm.2.1 hsm.2.2.2.1
   rw [decide_eq_true q2] at hLs
   have hl1 := c_lengths d.S.A d.S.c d.S.xs hsm.2.2.1 hsm.2.2.2.2.1
   have hl2 := c_lengths d2.S.A d2.S.c d2.S.xs hsm2.2.2.1 hsm2.2.2.2.2.1
   have hle : ∀ A c B d', d.S.xs.length ≤ c → d2.S.xs.length ≤ d' → FnM PP f_slices_Equal_sl_int_int [.slice A d.S.xs.length c, .slice B d2.S.xs.length d'] (facts [SlRes A (rowV intC (d.S.xs.map (·.xs.length))), SlRes B (rowV intC (d2.S.xs.map (·.xs.length)))]) (retsV (.bool true)) := fun A c B d' _ _ => by
     have := c_EqInt A B c d' (d.S.xs.map (·.xs.length)) (d2.S.xs.map (·.xs.length)) (by rw [List.length_map]; exact hsm.2.2.1)
     rw [decide_eq_true q3, List.length_map, List.length_map] at this
     exact this
   have fX : ∀ s : Sl, SlRes s.X.A (rowV ratQ s.X.xs) ∈ s.F' := fun s => List.mem_append_right _ (List.mem_cons_of_mem _ (List.mem_cons_of_mem _ (List.mem_cons_self ..)))
   have fS : ∀ s : Sl, SlRes s.S.A (rowV Ln.C s.S.xs) ∈ s.F' := fun s => List.mem_append_right _ (List.mem_cons_of_mem _ (List.mem_cons_self ..))
   have fL : ∀ s : Sl, SlRes s.L.A (rowV Ln.C s.L.xs) ∈ s.F' := fun s => List.mem_append_right _ (List.mem_cons_self ..)
   have fl : ∀ s : Sl, ∀ R ∈ s.L.xs.map (Ln.R ratQ), R ∈ s.F' := fun s R h => List.mem_append_left _ (List.mem_append_left _ h)
   have i1 : ∀ {R : Res}, R ∈ d.F' → R ∈ d2.F' ++ SlRes A' (rowV sgq M) :: (d.F' ++ [SlRes A (rowV sgq E), SlRes B (rowV u8C o)]) := fun h => List.mem_append_right _ (List.mem_cons_of_mem _ (List.mem_append_left _ h))
   have i2 : ∀ {R : Res}, R ∈ d2.F' → R ∈ d2.F' ++ SlRes A' (rowV sgq M) :: (d.F' ++ [SlRes A (rowV sgq E), SlRes B (rowV u8C o)]) := fun h => List.mem_append_left _ h
   conv => whnf
   refine WPS.of TBgood mixed ?_
   conv => whnf
   refine DrawVC.quiet (by kernel_rfl) ?_
   conv => whnf
   refine cds hX ?_ rfl (fun R hR => ?_)
   rotate_left
   · simp only [List.mem_cons, List.not_mem_nil, or_false] at hR
     rcases hR with rfl | rfl
     · exact i1 (fX d)
     · exact i2 (fX d2)
   conv => whnf
   refine cds hLs ?_ rfl (fun R hR => ?_)
   rotate_left
   · rcases List.mem_append.1 hR with hR | hR
     · simp only [List.mem_cons, List.not_mem_nil, or_false] at hR
       rcases hR with rfl | rfl
       · exact i1 (fL d)
       · exact i2 (fL d2)
     · rcases List.mem_append.1 hR with hR | hR
       · exact i1 (fl d R hR)
       · exact i2 (fl d2 R hR)
   conv => whnf
   refine CallVCd.o hl1.enters (CallV.facts hl1 rfl (fun R hR => by rw [List.mem_singleton.1 hR]; exact i1 (fS d))) ?_
   conv => whnf
   refine CallVCd.o hl2.enters (CallV.facts hl2 rfl (fun R hR => by rw [List.mem_singleton.1 hR]; exact i2 (fS d2))) ?_
   conv => whnf
   refine CallVCd.v (hle none _ none _ (Nat.le_refl _) (Nat.le_refl _)).enters (CallV.sl2 (x := .o (.w 109)) (y := .o (.w 112)) (fun x y => [x, y]) (RdA.own rfl) (RdA.own rfl) (List.mem_cons_self ..) (List.mem_cons_of_mem _ (List.mem_cons_self ..)) (fun _ => rfl) hle) ?_
   conv => whnf
   refine cd c_awake16 ?_
   conv => whnf
   exact postV_one rfl
end Go.Sx
end
section
/-
 The law SlabOrder of the program answers true for every input and leaves its arguments as they were; no conditions.
-/
namespace Go.Proofs.YtjhgjniipoemgaaGreat
open Go.Sx Go.ChangeShapes Go.WideShapes Go.ChangeAt Go.RowKit
set_option maxRecDepth 100000 in
theorem lifted_slabOrder (os : Os) (started : os.Started) (H : Type) (enc : TypeId × Value → H) :
   ReturnsInHanded {} Tryz.checked os 6 .any (Rows.slabOrderSpec.pre6 enc Tryz.prog Tryz.f6 Rows.slabOrderRow.domain false) (Rows.slabOrderSpec.post enc Tryz.prog Tryz.f6 false true false false) := by
 refine returnsInHanded_of_change (C := Tryz.checked) ownP started (by kernel_rfl) Tryz.func6
   (ChangeSpec.witness6 (enc := enc) (C := Tryz.checked) false ⟨#[], #[.agg #[.bool false, .string ByteArray.empty, .string ByteArray.empty, .bool false, .string ByteArray.empty, .string ByteArray.empty, .bool false, .string ByteArray.empty, .string ByteArray.empty, .bool false, .string ByteArray.empty, .string ByteArray.empty], .slice none 0 0, .slice none 0 0], []⟩ 8 (by kernel_rfl) (by kernel_rfl) (by kernel_rfl) (by kernel_rfl)) ?_
 intro W base args ds gs before hval0 hW hcnd _
 have hval : ∀ (j : Nat) t v, Tryz.f6.params[j]? = some t → args[j]? = some v → Value.okWide Tryz.prog W .any base t v := hval0
 have hW' := hW
 obtain ⟨p, q, hA0, hV, rfl, hfz, hnd⟩ := hW
 have hA : DataW.TrodAll enc Tryz.prog W 0 (fun _ => true) true Tryz.f6.params.toList args.toList ds p := hA0
 rw [Tryz.params6] at hA hval
 obtain ⟨v0, vs0, d0, ds0, p0, q0, hargs, rfl, rfl, h0, r0⟩ := trodAll_cons hA
 obtain ⟨v1, vs1, d1, ds1, p1, q1, rfl, rfl, rfl, h1, r1⟩ := trodAll_cons r0
 obtain ⟨v2, vs2, d2, ds2, p2, q2, rfl, rfl, rfl, h2, r2⟩ := trodAll_cons r1
 obtain ⟨rfl, rfl, rfl⟩ := trodAll_nil r2
 obtain rfl : args = #[v0, v1, v2] := by cases args; simp_all
 obtain ⟨rfl, rfl⟩ := trodVars_none hV
 have lt0 : ∀ x ∈ p0, x.block < W.heap.size := by obtain ⟨m, hm⟩ := h0; exact DataW.trod_lt m _ _ _ hm
 have k0 : DataW.Trod enc PP W 0 (fun _ => true) true t_api_Box v0 d0 p0 := h0
 obtain ⟨a0, rfl⟩ := open_box (hval 0 _ v0 rfl rfl) k0
 have lt1 : ∀ x ∈ p1, x.block < W.heap.size := by obtain ⟨m, hm⟩ := h1; exact DataW.trod_lt m _ _ _ hm
 have k1 : DataW.Trod enc PP W 0 (fun _ => true) true t_sl_api_Segment v1 d1 p1 := h1
 obtain ⟨A1, c1, a1, rfl, l1, F1⟩ := open_sgs (hval 1 _ v1 rfl rfl) k1
 have lt2 : ∀ x ∈ p2, x.block < W.heap.size := by obtain ⟨m, hm⟩ := h2; exact DataW.trod_lt m _ _ _ hm
 have k2 : DataW.Trod enc PP W 0 (fun _ => true) true t_sl_uint8 v2 d2 p2 := h2
 obtain ⟨A2, c2, a2, rfl, l2, F2⟩ := open_u8s (hval 2 _ v2 rfl rfl) k2
 clear hA0 hval0
 refine ((w_SlabOrder a0 A1 c1 a1 l1 A2 c2 a2 l2).calls W (factsTwo F1 F2)).mono fun e W' ⟨he, bel0⟩ => ?_
 subst he
 have bel := bel0.b
 exact ⟨_, rfl, _, _, _, [], _, [], hW', trodAll_mk1 (shut_bool u_bool _), (trodAll_cons_mk (Below.trod laidOut (by kernel_rfl) (of_decide_eq_true (by kernel_rfl)) k0 bel lt0) (trodAll_cons_mk (Below.trod laidOut (by kernel_rfl) (of_decide_eq_true (by kernel_rfl)) k1 bel lt1) (trodAll_cons_mk (Below.trod laidOut (by kernel_rfl) (of_decide_eq_true (by kernel_rfl)) k2 bel lt2) trodAll_mk0))), rfl, bel.frame _, fun h => by cases h⟩
theorem slabOrder_holds : Rows.SlabOrderSaid :=
 OpenClaim.holds_of_wide 6 Tryz.f6 rfl rfl rfl rfl rfl rfl rfl ⟨rfl, rfl, rfl, rfl, rfl⟩ rfl rfl rfl rfl rfl (by kernel_rfl) Tryz.func6 (by kernel_rfl)
   (of_decide_eq_true (by kernel_rfl)) (by unfold Func.isWrapper; first | (rw [if_pos (by decide +kernel)]; kernel_rfl) | (rw [if_neg (by decide +kernel)]; exact ⟨rfl, rfl⟩))
   (fun os started H enc _ => lifted_slabOrder os started H enc)
end Go.Proofs.YtjhgjniipoemgaaGreat
end
#print axioms Go.Proofs.YtjhgjniipoemgaaGreat.slabOrder_holds
