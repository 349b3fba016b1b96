/- A part of the proof of a law: the symbolic executor, contracts of functions of the program, plain laws. No conditions. -/
import Derived.Test.YtlnandkcoliejaaGreatM4
import Derived.Test.YtlnandkcoliejaaGreatM2
set_option linter.unusedVariables false
set_option linter.unusedSimpArgs false
set_option linter.unusedSectionVars false
section
set_option maxRecDepth 10000
set_option maxHeartbeats 2000000
namespace Go.Sx
open Go Go.Proofs
theorem sumC_sz {m : Nat} : ∀ (l : List (Pt × Pt)) (s : Rat) (k : Nat), Sz k s → (∀ e ∈ l, Sz m (e.1.v.cross e.2.v)) → Sz (k + l.length * (m + 1)) (sumC s l)
 | [], s, k, h, _ => h.le (by simp)
 | e :: l, s, k, h, hl => by
   have := sumC_sz l _ _ (h.add (hl e (List.mem_cons_self ..))) (fun x hx => hl x (List.mem_cons_of_mem _ hx))
   refine this.le ?_
   rw [List.length_cons, Nat.add_mul]; omega
theorem edge_sz {l : List Pt} (hs : Lsm KS l) : ∀ e ∈ edgesL l, Sz (4 * KS + 1) (e.1.v.cross e.2.v) := fun e he =>
 (((edgesL_sm hs he).1.sz (by decide)).cross ((edgesL_sm hs he).2.sz (by decide))).le (by decide)
theorem areaL_sz {l : List Pt} (hl : l.length ≤ 1000) (hs : Lsm KS l) : Sz (KK / 2) (areaL l) := by
 have h1 := sumC_sz (edgesL l) 0 1 ⟨by decide, by decide⟩ (edge_sz hs)
 have h2 := h1.div (show Sz 1 (2 : Rat) from ⟨by decide, by decide⟩)
 refine h2.le ?_
 rw [edgesL_len]
 show 1 + l.length * (4 * 10000 + 1 + 1) + (1 + 1) ≤ 50000000
 omega
def chkL (l : List Pt) : Int := if l.length < 3 then 4 else if 64 < l.length then 4 else if canonL l = false then 1 else if 0 ≤ flatL l then 12 else if crossL l = true then 13 else if cmpQ (areaL l) 0 ≤ 0 then 8 else if firstL l ≠ 0 then 8 else 0
theorem c_ringCheck (A : Option Addr) (c : Nat) (l : List Pt) (hs : Lsm KS l) :
   FnM PP f_ring_Check [.slice A l.length c] (facts [SlRes A (rowV ptC l)]) (retsV (.int .i64 (chkL l))) := by
 refine FnS.of TBgood mixed h_ring_Check rfl rfl (Nat.le_of_ble_eq_true rfl) (by simp [SlRes.ok]) ?_
 intro w hw
 have hK : Lsm KK l := fun p hp => (hs p hp).le (by decide)
 conv => whnf
 refine br_split ?_ ?_
 · intro h
   have hlt : l.length < 3 := by have : (l.length : Int) < 3 := of_decide_eq_true h; omega
   conv => whnf
   refine postV_one ?_
   rw [chkL, if_pos hlt]
 intro h
 have hlt : ¬ l.length < 3 := by have : ¬ (l.length : Int) < 3 := of_decide_eq_false h; omega
 conv => whnf
 refine br_split ?_ ?_
 · intro h
   have hgt : 64 < l.length := by have : (l.length : Int) > 64 := of_decide_eq_true h; omega
   conv => whnf
   refine postV_one ?_
   rw [chkL, if_neg hlt, if_pos hgt]
 intro h
 have hgt : ¬ 64 < l.length := by have : ¬ (l.length : Int) > 64 := of_decide_eq_false h; omega
 conv => whnf
 refine CallVC.v (c_ringCanonical A c l (by omega) hK).enters (CallV.facts (c_ringCanonical A c l (by omega) hK) rfl (fun R hR => hR)) ?_
 cases hcan : canonL l with
 | false =>
   conv => whnf
   refine postV_one ?_
   rw [chkL, if_neg hlt, if_neg hgt, if_pos hcan]
 | true =>
 conv => whnf
 refine CallVC.v (c_flat A c l (by omega) hs).enters (CallV.facts (c_flat A c l (by omega) hs) rfl (fun R hR => hR)) ?_
 conv => whnf
 refine br_split ?_ ?_
 · intro h
   have hf : 0 ≤ flatL l := of_decide_eq_true h
   conv => whnf
   refine postV_one ?_
   rw [chkL, if_neg hlt, if_neg hgt, if_neg (by rw [hcan]; decide), if_pos hf]
 intro h
 have hf : ¬ 0 ≤ flatL l := of_decide_eq_false h
 conv => whnf
 refine CallVC.v (c_crossing A c l (by omega) hs).enters (CallV.facts (c_crossing A c l (by omega) hs) rfl (fun R hR => hR)) ?_
 cases hcr : crossL l with
 | true =>
   conv => whnf
   refine postV_one ?_
   rw [chkL, if_neg hlt, if_neg hgt, if_neg (by rw [hcan]; decide), if_neg hf, if_pos hcr]
 | false =>
 conv => whnf
 refine CallVC.v (c_Area A c l (by omega) hs).enters (CallV.facts (c_Area A c l (by omega) hs) rfl (fun R hR => hR)) ?_
 conv => whnf
 refine CallVC.fn (c_rSign (Q (areaL l)) ((areaL_sz (by omega) hs).q.le (by decide))) rfl ?_
 rw [Q_v]
 conv => whnf
 refine br_split ?_ ?_
 · intro h
   have ha : cmpQ (areaL l) 0 ≤ 0 := of_decide_eq_true h
   conv => whnf
   refine postV_one ?_
   rw [chkL, if_neg hlt, if_neg hgt, if_neg (by rw [hcan]; decide), if_neg hf, if_neg (by rw [hcr]; decide), if_pos ha]
 intro h
 have ha : ¬ cmpQ (areaL l) 0 ≤ 0 := of_decide_eq_false h
 conv => whnf
 refine CallVC.v (c_first A c l (by omega) (by omega) hK).enters (CallV.facts (c_first A c l (by omega) (by omega) hK) rfl (fun R hR => hR)) ?_
 conv => whnf
 refine br_split ?_ ?_
 · intro h
   have hf0 : firstL l ≠ 0 := by intro h0; rw [h0] at h; exact absurd h (by decide)
   conv => whnf
   refine postV_one ?_
   rw [chkL, if_neg hlt, if_neg hgt, if_neg (by rw [hcan]; decide), if_neg hf, if_neg (by rw [hcr]; decide), if_neg ha, if_pos hf0]
 · intro h
   have hf0 : ¬ firstL l ≠ 0 := by
     intro h0
     have : ((firstL l : Nat) : Int) = 0 := by simpa using h
     omega
   conv => whnf
   refine postV_one ?_
   rw [chkL, if_neg hlt, if_neg hgt, if_neg (by rw [hcan]; decide), if_neg hf, if_neg (by rw [hcr]; decide), if_neg ha, if_neg hf0]
def insL (l : List Pt) (p : Pt) : Int × Int := if chkL l ≠ 0 then (0, 1) else if ¬ p.ok then (0, 1) else if (edgesL l).any (fun e => betwB e.1.v e.2.v p.v) = true then (0, 0) else if oddL l p.v = true then (1, 0) else (-1, 0)
theorem chkL_len {l : List Pt} (h : chkL l = 0) : 3 ≤ l.length ∧ l.length ≤ 64 := by
 unfold chkL at h
 split at h
 · cases h
 · split at h
   · cases h
   · omega
abbrev insV (x : Int × Int) : Value := .tuple #[.int .i64 x.1, .int .i64 x.2]
theorem c_ringInside (A : Option Addr) (c : Nat) (l : List Pt) (p : Pt) (hc : l.length ≤ c) (hs : Lsm KS l) (hp : p.sm KS) :
   FnM PP f_ring_Inside [.slice A l.length c, pV p] (facts [SlRes A (rowV ptC l)]) (retsV (insV (insL l p))) := by
 refine FnM.ofS TBgood mixed h_ring_Inside rfl rfl (Nat.le_of_ble_eq_true rfl) (by simp [SlRes.ok]) (fun w l st E w' hp hm => postV_ok hp hm) ?_
 intro w hw
 refine WPS.peel TBgood mixed ?_
 conv => whnf
 refine WPS.peel TBgood mixed ?_
 conv => whnf
 refine CallVC.v (c_ringCheck A c l hs).enters (CallV.facts (c_ringCheck A c l hs) rfl (fun R hR => hR)) ?_
 conv => whnf
 refine br_split ?_ ?_
 · intro h
   have hc : chkL l ≠ 0 := by intro h0; rw [h0] at h; exact absurd h (by decide)
   conv => whnf
   refine postV_two ?_
   rw [insL, if_pos hc]
 intro h
 have hc : chkL l = 0 := by simpa using h
 obtain ⟨hl3, hl64⟩ := chkL_len hc
 conv => whnf
 have hcan := fun A c (hc : 1 ≤ c) => c_ringCanonical A c [p] (by simp) (fun q hq => by rw [List.mem_singleton.1 hq]; exact hp.le (by decide))
 refine CallVC.v (hcan none 1 (Nat.le_refl _)).enters (CallV.sl1 (x := .o (.s 13 0 1 1)) (fun z => [z]) (RdA.box rfl (Nat.le_refl _)) (List.mem_cons_self ..) (fun _ => rfl) hcan) ?_
 have hcp : canonL [p] = decide p.ok := by simp [canonL]
 rw [hcp]
 by_cases hok : p.ok
 · rw [decide_eq_true hok]
   conv => whnf
   refine WPS.seq ?_
   refine WPS.seq ?_
   refine WPS.of TBgood mixed ?_
   conv => whnf
   refine CallVC.f1 (c_edges A c l.length).enters (CallV.facts (c_edges A c l.length) rfl (by simp)) (fun a => ?_)
   conv => whnf
   refine WPS.block ?_
   refine WPS.range TBgood mixed rfl rfl (c_edges1 A c a l (by omega)) (fun S hS => hS) 3 [(0, .o (.v (.slice A l.length c))), (3, .o (.p 28 0)), (4, .o (.p 29 0)), (5, .o (.p 30 0))]
     (fun i (_ : Bool) => [(28, .box [.v (.bool p.x.neg), .v (.string (bs p.x.num)), .v (.string (bs p.x.den)), .v (.bool p.y.neg), .v (.string (bs p.y.num)), .v (.string (bs p.y.den))] t_api_Point), (29, .box [.v (.int .i64 0)] t_int), (30, .box [.v (.int .i64 0)] t_api_Errno)])
     (fun i _ => ((edgesL l).take i).any (fun e => betwB e.1.v e.2.v p.v) = false) false rfl (SLe.mk (fun k => bif Nat.beq k 28 then 3 else bif Nat.beq k 29 then 4 else bif Nat.beq k 30 then 5 else k) ⟨rfl, rfl, rfl, rfl, trivial⟩ ⟨⟨_, rfl, .refl _⟩, ⟨_, rfl, .refl _⟩, ⟨_, rfl, .refl _⟩, trivial⟩ rfl (fun R hR => hR)) rfl
     (fun i j _ => ⟨rfl, rfl⟩) rfl (fun x hx => by obtain ⟨e, _, rfl⟩ := List.mem_map.1 hx; rfl) rfl ?_ ?_
   · rintro W1 X i o Rx hi hv
     rw [edgeXs_len] at hi
     obtain ⟨e, he⟩ : ∃ e, (edgesL l)[i]? = some e := ⟨_, List.getElem?_eq_getElem (by rw [edgesL_len]; exact hi)⟩
     have hx : (edgeXs l).getD i [] = [pV e.1, pV e.2] := getD_of (by rw [List.getElem?_map, he]; rfl)
     rw [hx]
     have htake : (edgesL l).take (i + 1) = (edgesL l).take i ++ [e] := by rw [List.take_add_one, he]; rfl
     obtain ⟨he1, he2⟩ := edgesL_sm hs (List.mem_of_getElem? he)
     conv => whnf
     refine ⟨rfl, fun Ry => ?_⟩
     conv => whnf
     refine CallVC.fn (c_Between e.1 e.2 p (he1.le (by decide)) (he2.le (by decide)) (hp.le (by decide))) rfl ?_
     cases hb : betwB e.1.v e.2.v p.v with
     | true =>
       conv => whnf
       refine ⟨[(28, .box [.v (.bool p.x.neg), .v (.string (bs p.x.num)), .v (.string (bs p.x.den)), .v (.bool p.y.neg), .v (.string (bs p.y.num)), .v (.string (bs p.y.den))] t_api_Point), (29, .box [.v (.int .i64 0)] t_int), (30, .box [.v (.int .i64 0)] t_api_Errno)], rfl, rfl, SLe.id trivial ⟨⟨_, rfl, .refl _⟩, ⟨_, rfl, .refl _⟩, ⟨_, rfl, .refl _⟩, trivial⟩ (fun R hR => hR), ?_⟩
       conv => whnf
       refine postV_two ?_
       rw [insL, if_neg (by simp [hc]), if_neg (by simp [hok]), if_pos (List.any_eq_true.2 ⟨e, List.mem_of_getElem? he, hb⟩)]
     | false =>
       conv => whnf
       exact ⟨false, by rw [htake, List.any_append, hv]; simp [hb], SLe.id trivial ⟨⟨_, rfl, .refl _⟩, ⟨_, rfl, .refl _⟩, ⟨_, rfl, .refl _⟩, trivial⟩ (fun R hR => hR)⟩
   · rintro o hv
     rw [edgeXs_len, List.take_of_length_le (by rw [edgesL_len]; exact Nat.le_refl _)] at hv
     refine WPS.of TBgood mixed ?_
     conv => whnf
     refine CallVC.v (c_odd A c l p (by omega) hs hp).enters (CallV.facts (c_odd A c l p (by omega) hs hp) rfl (fun R hR => List.mem_cons_of_mem _ hR)) ?_
     cases ho : oddL l p.v with
     | true =>
       conv => whnf
       refine postV_two ?_
       rw [insL, if_neg (by simp [hc]), if_neg (by simp [hok]), if_neg (by simp [hv]), if_pos ho]
     | false =>
       conv => whnf
       refine postV_two ?_
       rw [insL, if_neg (by simp [hc]), if_neg (by simp [hok]), if_neg (by simp [hv]), if_neg (by simp [ho])]
 · rw [decide_eq_false hok]
   conv => whnf
   refine postV_two ?_
   rw [insL, if_neg (by simp [hc]), if_pos hok]
end Go.Sx
end
section
/- A symbolic executor over loaded Go code: memory that is only read from now on. -/
namespace Go.Sx
open Go Go.RowKit

def AV.fz (k b : Nat) : AV → AV
 | .p j off => bif Nat.beq j k then .v (.pointer (some ⟨b, off, none⟩)) else .p j off
 | .s j off n c => bif Nat.beq j k then .v (.slice (some ⟨b, off, none⟩) n c) else .s j off n c
 | x => x
def AV.fzO (k : Nat) (v : Value) : AV → AV
 | .w j => bif Nat.beq j k then .v v else .w j
 | x => x
def SV.mp (f : AV → AV) : SV → SV
 | .o x => .o (f x)
 | .a xs => .a (xs.map f)
def ME.mp (f : AV → AV) : ME → ME
 | .box cs t => .box (cs.map f) t
 | m => m
def mpT (f : AV → AV) : List (Nat × SV) → List (Nat × SV)
 | [] => []
 | (i, x) :: r => (i, x.mp f) :: mpT f r
def mpM (f : AV → AV) : List (Nat × ME) → List (Nat × ME)
 | [] => []
 | (i, x) :: r => (i, x.mp f) :: mpM f r
def SS.fz (st : SS) (k : Nat) (f : AV → AV) (R : Res) : SS := ⟨mpT f st.tm, mpM f (rmL k st.me), R :: st.re⟩
theorem lk_mpT {f : AV → AV} : ∀ {l : List (Nat × SV)} {i : Nat} {x : SV}, lk i (mpT f l) = some x → ∃ y, lk i l = some y ∧ x = y.mp f
 | [], i, x, h => by simp [mpT, lk] at h
 | (j, y) :: r, i, x, h => by
   simp only [mpT, lk_cons] at h ⊢
   split at h
   · rename_i e; cases h; exact ⟨y, if_pos e, rfl⟩
   · rename_i e; obtain ⟨z, h1, h2⟩ := lk_mpT h; exact ⟨z, (if_neg e).trans h1, h2⟩
theorem lk_mpM {f : AV → AV} : ∀ {l : List (Nat × ME)} {i : Nat} {x : ME}, lk i (mpM f l) = some x → ∃ y, lk i l = some y ∧ x = y.mp f
 | [], i, x, h => by simp [mpM, lk] at h
 | (j, y) :: r, i, x, h => by
   simp only [mpM, lk_cons] at h ⊢
   split at h
   · rename_i e; cases h; exact ⟨y, if_pos e, rfl⟩
   · rename_i e; obtain ⟨z, h1, h2⟩ := lk_mpM h; exact ⟨z, (if_neg e).trans h1, h2⟩
theorem SV.mp_real {E : Env} {f : AV → AV} (hf : ∀ x : AV, (f x).real E = x.real E) : ∀ x : SV, (x.mp f).real E = x.real E
 | .o x => hf x
 | .a xs => by
   show Value.agg ((xs.map f).map (AV.real E)).toArray = Value.agg (xs.map (AV.real E)).toArray
   rw [List.map_map]; congr 2; exact List.map_congr_left fun y _ => hf y

section
variable {P : Program} {T : TT} {C : Cx} {E : Env} {st : SS}
theorem SRE.fz {a : Act} {w : World} (h : SRE C E st a w) {k : Nat} {m0 : ME} (hk : lk k st.me = some m0) {f : AV → AV} (hf : ∀ x : AV, (f x).real E = x.real E) {R : Res} (hR : R.ok) (hφ : R.φ w) (hb : ∀ b ∈ R.bs, E.β k = some b) :
   SRE C E (st.fz k f R) a w := by
 have hsub : ∀ {j : Nat} {x : ME}, lk j (mpM f (rmL k st.me)) = some x → j ≠ k ∧ ∃ y, lk j st.me = some y ∧ x = y.mp f := by
   intro j x hj
   obtain ⟨y, h1, h2⟩ := lk_mpM hj
   rw [lk_rmL] at h1
   split at h1
   · cases h1
   · rename_i hne; exact ⟨hne, y, h1, h2⟩
 refine ⟨h.size, h.defers, fun i sv hi => ?_, ⟨fun j x hj => ?_, fun j x b hj hjb => ?_, fun j j' x x' b hj hj' hjb hjb' => ?_, fun S hS => ?_, h.mem.ext, fun q b x hX hj => ?_⟩⟩
 · obtain ⟨y, h1, rfl⟩ := lk_mpT hi
   rw [SV.mp_real hf]; exact h.tm i y h1
 · obtain ⟨_, y, h1, rfl⟩ := hsub hj
   have := h.mem.ent j y h1
   cases y with
   | box cs t =>
     obtain ⟨b, h2, h3⟩ := this
     refine ⟨b, h2, ?_⟩
     rw [h3, List.map_map]
     congr 3; symm; exact List.map_congr_left fun y _ => hf y
   | sym cs t => exact this
   | own t es n xs => exact this
 · obtain ⟨_, y, h1, _⟩ := hsub hj; exact h.mem.ge j y b h1 hjb
 · obtain ⟨_, y, h1, _⟩ := hsub hj; obtain ⟨_, y', h1', _⟩ := hsub hj'; exact h.mem.inj j j' y y' b h1 h1' hjb hjb'
 · rcases List.mem_cons.1 hS with rfl | hS
   · refine ⟨hR.1, hφ, fun b hbb => ⟨hR.2 w hφ b hbb, fun j x hj hjb => ?_⟩⟩
     obtain ⟨hne, y, h1, _⟩ := hsub hj
     exact hne (h.mem.inj j k y m0 b h1 hk hjb (hb b hbb))
   · obtain ⟨r1, r2, r3⟩ := h.mem.res S hS
     exact ⟨r1, r2, fun b hbb => ⟨(r3 b hbb).1, fun j x hj hjb => by obtain ⟨_, y, h1, _⟩ := hsub hj; exact (r3 b hbb).2 j y h1 hjb⟩⟩
 · obtain ⟨_, y, h1, _⟩ := hsub hj; exact h.mem.rig q b y hX h1
theorem fz_real {k b : Nat} (hb : E.β k = some b) (x : AV) : (x.fz k b).real E = x.real E := by
 cases x with
 | p j off =>
   simp only [AV.fz]
   cases h : Nat.beq j k with
   | false => rfl
   | true => have := Nat.eq_of_beq_eq_true h; subst this; simp [AV.real, hb]
 | s j off n c =>
   simp only [AV.fz]
   cases h : Nat.beq j k with
   | false => rfl
   | true => have := Nat.eq_of_beq_eq_true h; subst this; simp [AV.real, hb]
 | _ => rfl
theorem fzO_real {k : Nat} {v : Value} (hv : (AV.w k).real E = v) (x : AV) : (x.fzO k v).real E = x.real E := by
 cases x with
 | w j =>
   simp only [AV.fzO]
   cases h : Nat.beq j k with
   | false => rfl
   | true => have := Nat.eq_of_beq_eq_true h; subst this; exact hv.symm
 | _ => rfl
theorem SlB_sub {A : Option Addr} {xs : List Value} {b : Nat} (h : b ∈ (SlRes A xs).bs) : ∃ a, A = some a ∧ b = a.block := by
 have h2 : b ∈ SlB A xs := h
 cases xs with
 | nil => simp [SlB] at h2
 | cons x r =>
   cases A with
   | none => simp [SlB] at h2
   | some a => exact ⟨a, rfl, by simpa [SlB] using h2⟩
theorem WPS.freeze (k : Nat) {xs : List Value} {c : Code} {Q : Exit → SS → Prop} (hx : boxV st k = some xs) (h : ∀ b, WPS P C c (st.fz k (AV.fz k b) (SlRes (some ⟨b, 0, none⟩) xs)) Q) : WPS P C c st Q := ⟨fun a w hr => by
 obtain ⟨E, hE⟩ := hr
 have hb : ∃ b t m0, lk k st.me = some m0 ∧ E.β k = some b ∧ w.heap[b]? = some (.cells xs.toArray t (0, 0)) := by
   unfold boxV at hx
   split at hx
   · rename_i cs ty hl
     obtain ⟨b, hb, hc⟩ := hE.mem.ent _ _ hl
     rw [allV_real E hx] at hc
     exact ⟨b, ty, _, hl, hb, hc⟩
   · rename_i cs ty hl
     cases hx
     obtain ⟨b, hb, hc⟩ := hE.mem.ent _ _ hl
     exact ⟨b, ty, _, hl, hb, hc⟩
   · cases hx
 obtain ⟨b, t, m0, hl, hb, hc⟩ := hb
 refine (h b).wp a w ⟨E, hE.fz hl (fz_real hb) (SlRes.ok _ _) (.inr ⟨b, 0, rfl, fun j v hj => ?_⟩) (fun b' hb' => ?_)⟩
 · rw [cell_of hc, Nat.zero_add]; simpa using hj
 · obtain ⟨a', h1, h2⟩ := SlB_sub hb'
   cases h1; rw [h2]; exact hb⟩
theorem WPS.freezeO (k : Nat) {t es n : Nat} {xs : List Value} {c : Code} {Q : Exit → SS → Prop} (hx : lk k st.me = some (.own t es n xs)) (h : ∀ A cp, n ≤ cp → WPS P C c (st.fz k (AV.fzO k (.slice A n cp)) (SlRes A xs)) Q) : WPS P C c st Q := ⟨fun a w hr => by
 obtain ⟨E, hE⟩ := hr
 obtain ⟨A, cp, hr2, hn, hs⟩ := RdA.own hx E w (fun k' mm _ hk' => hE.mem.ent k' mm hk') (fun R hR => (hE.mem.res R hR).2.1)
 refine (h A cp hn).wp a w ⟨E, hE.fz hx (fzO_real hr2) (SlRes.ok _ _) hs (fun b' hb' => ?_)⟩
 obtain ⟨a', h1, h2⟩ := SlB_sub hb'
 subst h1
 have h4 : Value.slice ((E.β k).map fun b => ⟨b, 0, none⟩) (E.ω k).1 (E.ω k).2 = .slice (some a') n cp := hr2
 injection h4 with h5
 cases hβ : E.β k with
 | none => rw [hβ] at h5; cases h5
 | some d => rw [hβ] at h5; simp only [Option.map_some, Option.some.injEq] at h5; rw [h2, ← h5]⟩
theorem CallV.factsT {g : FuncId} {args : List SV} {vs : List Value} {re : List Res} {R : World → Ending → World → Prop} (h : FnM P g vs (Sx.facts re) R) (ha : args = vsv vs) (hre : ∀ R ∈ re, R ∈ st.re ∨ ∀ w, R.φ w) : CallV P g args st R := by
 subst ha
 intro E w _ hw
 rw [vsv_real]
 exact h.calls w (fun R hR => (hre R hR).elim (fun h => hw R h) (fun h => h w))
def SLX (C : Cx) (s : SS) (p : SS → Prop) : Prop := ∀ a w, SR C s a w → ∃ t, p t ∧ SR C t a w
theorem SLX.of {s t : SS} {p : SS → Prop} (h : SLe C s t) (hp : p t) : SLX C s p := fun a w hr => ⟨t, hp, h a w hr⟩
theorem SLX.freeze (k : Nat) {xs : List Value} {p : SS → Prop} (hx : boxV st k = some xs) (h : ∀ b, SLX C (st.fz k (AV.fz k b) (SlRes (some ⟨b, 0, none⟩) xs)) p) : SLX C st p := by
 rintro a w ⟨E, hE⟩
 have hb : ∃ b t m0, lk k st.me = some m0 ∧ E.β k = some b ∧ w.heap[b]? = some (.cells xs.toArray t (0, 0)) := by
   unfold boxV at hx
   split at hx
   · rename_i cs ty hl
     obtain ⟨b, hb, hc⟩ := hE.mem.ent _ _ hl
     rw [allV_real E hx] at hc
     exact ⟨b, ty, _, hl, hb, hc⟩
   · rename_i cs ty hl
     cases hx
     obtain ⟨b, hb, hc⟩ := hE.mem.ent _ _ hl
     exact ⟨b, ty, _, hl, hb, hc⟩
   · cases hx
 obtain ⟨b, t, m0, hl, hb, hc⟩ := hb
 refine h b a w ⟨E, hE.fz hl (fz_real hb) (SlRes.ok _ _) (.inr ⟨b, 0, rfl, fun j v hj => ?_⟩) (fun b' hb' => ?_)⟩
 · rw [cell_of hc, Nat.zero_add]; simpa using hj
 · obtain ⟨a', h1, h2⟩ := SlB_sub hb'
   cases h1; rw [h2]; exact hb
theorem SLX.freezeO (k : Nat) {t es n : Nat} {xs : List Value} {p : SS → Prop} (hx : lk k st.me = some (.own t es n xs)) (h : ∀ A cp, n ≤ cp → SLX C (st.fz k (AV.fzO k (.slice A n cp)) (SlRes A xs)) p) : SLX C st p := by
 rintro a w ⟨E, hE⟩
 obtain ⟨A, cp, hr2, hn, hs⟩ := RdA.own hx E w (fun k' mm _ hk' => hE.mem.ent k' mm hk') (fun R hR => (hE.mem.res R hR).2.1)
 refine h A cp hn a w ⟨E, hE.fz hx (fzO_real hr2) (SlRes.ok _ _) hs (fun b' hb' => ?_)⟩
 obtain ⟨a', h1, h2⟩ := SlB_sub hb'
 subst h1
 have h4 : Value.slice ((E.β k).map fun b => ⟨b, 0, none⟩) (E.ω k).1 (E.ω k).2 = .slice (some a') n cp := hr2
 injection h4 with h5
 cases hβ : E.β k with
 | none => rw [hβ] at h5; cases h5
 | some d => rw [hβ] at h5; simp only [Option.map_some, Option.some.injEq] at h5; rw [h2, ← h5]
theorem WPS.loopX {c : Code} {Q : Exit → SS → Prop} (J : Nat → SS → Prop) (m0 : Nat) (hi : SLX C st (J m0))
   (hround : ∀ m s, J m s → WPS P C c s (fun e s' => match e with
     | .normal => SLX C s' (fun t => ∃ m', m' < m ∧ J m' t)
     | e => Q e s')) : WPS P C (.loop c) st Q := ⟨fun a w h => by
 have key : ∀ (m : Nat) (s : SS) (a : Act) (w : World), J m s → SR C s a w → ∀ (b : Frame) (k : List Item) (cs : List Frame), b.roundOf = (FW none).round → (FW none).fn b.fn → (FW none).room (cs.length + 1 + 0) →
     ∃ e a' w', lift C Q e a' w' ∧ ArrivesIn (Machine.fenced P (FW none)) P (lone (b.atR a (.code c :: .inLoop c :: k)) cs w) b k cs e a' w' := by
   intro m
   induction m using Nat.strongRecOn with
   | _ m ih =>
     intro s a w hJ hI b k cs hro hb hr
     obtain ⟨e, a₁, w₁, ⟨st', hst, hq⟩, harr⟩ := (hround m s hJ).wp a w hI b (.inLoop c :: k) cs hro hb hr
     cases e with
     | normal =>
       obtain ⟨t, ⟨m', hlt, hj⟩, hsr⟩ := hq _ _ hst
       obtain ⟨e₂, a₂, w₂, hq₂, harr₂⟩ := ih m' hlt t a₁ w₁ hj hsr b k cs hro hb hr
       exact ⟨e₂, a₂, w₂, hq₂, .of_steps (StepsIn.trans harr (.one (fenced_calm hb hr rfl) stepR_inLoop)) harr₂⟩
     | exit id => exact ⟨_, a₁, w₁, ⟨st', hst, hq⟩, .pass (x := .inLoop c) rfl (fun _ _ => .inl (by simp)) harr⟩
     | goto l => exact ⟨_, a₁, w₁, ⟨st', hst, hq⟩, .pass (x := .inLoop c) rfl (fun _ _ => .inl (by simp)) harr⟩
     | ret => exact ⟨_, a₁, w₁, ⟨st', hst, hq⟩, .pass (x := .inLoop c) rfl (fun _ _ => .inl (by simp)) harr⟩
     | panic ch => exact ⟨_, a₁, w₁, ⟨st', hst, hq⟩, .pass (x := .inLoop c) rfl (fun _ _ => .inl (by simp)) harr⟩
     | outgrown => exact ⟨_, a₁, w₁, ⟨st', hst, hq⟩, .pass (x := .inLoop c) rfl (fun _ _ => .inl (by simp)) harr⟩
 intro b k cs hro hb hr
 obtain ⟨t, ht, hsr⟩ := hi _ _ h
 obtain ⟨e, a', w', hq, harr⟩ := key _ t a w ht hsr b k cs hro hb hr
 exact ⟨e, a', w', hq, .of_steps (.one (fenced_calm hb hr rfl) stepR_loop) harr⟩⟩
end
end Go.Sx
end
section
set_option maxRecDepth 10000
set_option maxHeartbeats 2000000
namespace Go.Sx
open Go Go.Proofs
structure Hd where
 A : Option Addr
 c : Nat
 l : List Pt
abbrev Hd.V (h : Hd) : Value := .slice h.A h.l.length h.c
abbrev Hd.F (h : Hd) : Res := SlRes h.A (rowV ptC h.l)
def Hd.C (h : Hd) : List Value := [h.V]
theorem hdC_len (h : Hd) : h.C.length = 1 := rfl
abbrev Hd.sm (k : Nat) (h : Hd) : Prop := Lsm k h.l
abbrev ptM (p : Pt) : List AV := [.v (.bool p.x.neg), .v (.string (bs p.x.num)), .v (.string (bs p.x.den)), .v (.bool p.y.neg), .v (.string (bs p.y.num)), .v (.string (bs p.y.den))]
abbrev sgM (e : Pt × Pt) : List AV := [.v (.bool e.1.x.neg), .v (.string (bs e.1.x.num)), .v (.string (bs e.1.x.den)), .v (.bool e.1.y.neg), .v (.string (bs e.1.y.num)), .v (.string (bs e.1.y.den)), .v (.bool e.2.x.neg), .v (.string (bs e.2.x.num)), .v (.string (bs e.2.x.den)), .v (.bool e.2.y.neg), .v (.string (bs e.2.y.num)), .v (.string (bs e.2.y.den))]
def meetL (a b : List Pt) : Bool := (edgesL a).any fun e => (edgesL b).any fun e' => meetB (sgE e) (sgE e')
theorem meetB_of {s t : Sg} (h : ¬ (degen s ∨ degen t)) : meetB s t = (meetV s.A.v s.B.v t.A.v t.B.v).isSome := by
 unfold meetB
 rw [decide_eq_false (fun h2 => h (.inl h2)), decide_eq_false (fun h2 => h (.inr h2))]; rfl
theorem meetB_deg {s t : Sg} (h : degen s ∨ degen t) : meetB s t = false := by
 unfold meetB
 rcases h with h | h
 · rw [decide_eq_true h]; rfl
 · rw [decide_eq_true h]; simp
theorem edgesL_getD {l : List Pt} {j : Nat} (hj : j < l.length) : (edgesL l)[j]? = some ((edgesL l).getD j (P0, P0)) := by
 rw [getD_of (List.getElem?_eq_getElem (by rw [edgesL_len]; exact hj))]; exact List.getElem?_eq_getElem _
theorem take_any {α : Type} {f : α → Bool} {l : List α} {i : Nat} {x : α} (h : (l.take i).any f = false) (hx : l[i]? = some x) (hf : f x = false) : (l.take (i + 1)).any f = false := by
 rw [List.take_add_one, hx, List.any_append, h]; simp [hf]
theorem any_of_get {α : Type} {f : α → Bool} {l : List α} {i : Nat} {x : α} (hx : l[i]? = some x) (hf : f x = true) : l.any f = true := List.any_eq_true.2 ⟨x, List.mem_of_getElem? hx, hf⟩
theorem any_of_take {α : Type} {f : α → Bool} {l : List α} {n : Nat} (hn : l.length ≤ n) (h : (l.take n).any f = false) : l.any f = false := by rw [List.take_of_length_le hn] at h; exact h
theorem c_meetL (a b : Hd) (hla : a.l.length ≤ 1000000) (hlb : b.l.length ≤ 1000000) (hsa : a.sm KS) (hsb : b.sm KS) :
   FnM PP f_polygon_meet [a.V, b.V] (facts [a.F, b.F]) (retsV (.bool (meetL a.l b.l))) := by
 refine FnS.of TBgood mixed h_polygon_meet rfl rfl (Nat.le_of_ble_eq_true rfl) (by simp [SlRes.ok]) ?_
 intro w hw
 conv => whnf
 refine CallVC.o 13 (c_Edges a.A a.c a.l hla).enters (CallV.facts (c_Edges a.A a.c a.l hla) rfl (fun R hR => by rw [List.mem_singleton.1 hR]; exact List.mem_cons_self ..)) rfl rfl ?_
 conv => whnf
 refine sexec_loop (ι := Nat) (fun i => ⟨[(1, .o (.v b.V)), (13, .o (.w 13)), (14, .o (.v (.int .i64 a.l.length))), (15, .o (.v (.int .i64 i)))], [(13, .own t_api_Segment 12 a.l.length (rowV sgC (edgesL a.l)))], [a.F, b.F]⟩)
   (fun i => i ≤ a.l.length ∧ ((edgesL a.l).take i).any (fun e => (edgesL b.l).any fun e' => meetB (sgE e) (sgE e')) = false) (fun i => a.l.length - i) 0 ⟨Nat.zero_le _, rfl⟩
   (SLe.id ⟨rfl, rfl, rfl, rfl, trivial⟩ ⟨⟨_, rfl, .refl _⟩, trivial⟩ (fun R hR => hR)) ?_
 rintro i ⟨hi, hall⟩
 conv => whnf
 refine br_split ?_ ?_
 · intro h
   have hi2 : i < a.l.length := by
     have : (i : Int) < (a.l.length : Int) := of_decide_eq_true h
     omega
   obtain ⟨e, he⟩ : ∃ e, (edgesL a.l)[i]? = some e := ⟨_, edgesL_getD hi2⟩
   obtain ⟨he1_, he2⟩ := edgesL_sm hsa (List.mem_of_getElem? he)
   conv => whnf
   refine ⟨⟨by omega, by omega⟩, ?_⟩
   conv => whnf
   refine RowVC.elem sgC sgC_len (k := i) (by show (i : Int).toNat * 12 = i * 12; rw [Int.toNat_natCast]) (by rw [edgesL_len]; exact hi2) (by decide) (fun h => by cases h) ?_
   intro e0 he0
   obtain rfl : e0 = e := by rw [he] at he0; exact (Option.some.inj he0).symm
   conv => whnf
   refine CallVC.o 20 (c_Edges b.A b.c b.l hlb).enters (CallV.facts (c_Edges b.A b.c b.l hlb) rfl (fun R hR => List.mem_cons_of_mem _ hR)) rfl rfl ?_
   conv => whnf
   refine sexec_loop (ι := Nat) (fun k => ⟨[(1, .o (.v b.V)), (13, .o (.w 13)), (14, .o (.v (.int .i64 a.l.length))), (15, .o (.v (.int .i64 i))), (6, .o (.p 6 0)), (20, .o (.w 20)), (21, .o (.v (.int .i64 b.l.length))), (22, .o (.v (.int .i64 k)))], [(13, .own t_api_Segment 12 a.l.length (rowV sgC (edgesL a.l))), (6, .box (sgM e0) t_api_Segment), (20, .own t_api_Segment 12 b.l.length (rowV sgC (edgesL b.l)))], [a.F, b.F]⟩)
     (fun k => k ≤ b.l.length ∧ ((edgesL b.l).take k).any (fun e' => meetB (sgE e0) (sgE e')) = false) (fun k => b.l.length - k) 0 ⟨Nat.zero_le _, rfl⟩
     (SLe.id ⟨rfl, rfl, rfl, rfl, rfl, rfl, rfl, rfl, trivial⟩ ⟨⟨_, rfl, .refl _⟩, ⟨_, rfl, .refl _⟩, ⟨_, rfl, .refl _⟩, trivial⟩ (fun R hR => hR)) ?_
   rintro k ⟨hk, hkk⟩
   conv => whnf
   refine br_split ?_ ?_
   · intro h2
     have hk2 : k < b.l.length := by
       have : (k : Int) < (b.l.length : Int) := of_decide_eq_true h2
       omega
     obtain ⟨e', he'⟩ : ∃ e, (edgesL b.l)[k]? = some e := ⟨_, edgesL_getD hk2⟩
     obtain ⟨he1', he2'⟩ := edgesL_sm hsb (List.mem_of_getElem? he')
     conv => whnf
     refine ⟨⟨by omega, by omega⟩, ?_⟩
     conv => whnf
     refine RowVC.elem sgC sgC_len (k := k) (by show (k : Int).toNat * 12 = k * 12; rw [Int.toNat_natCast]) (by rw [edgesL_len]; exact hk2) (by decide) (fun h => by cases h) ?_
     intro e1 he1
     obtain rfl : e1 = e' := by rw [he'] at he1; exact (Option.some.inj he1).symm
     conv => whnf
     refine CallVC.fn (c_Meet (sgE e0) (sgE e1) ⟨he1_, he2⟩ ⟨he1', he2'⟩) rfl ?_
     by_cases hd : degen (sgE e0) ∨ degen (sgE e1)
     · rw [MeetV, if_pos hd]
       conv => whnf
       exact ⟨k + 1, ⟨by omega, take_any hkk he' (meetB_deg hd)⟩, by omega, SLe.id ⟨rfl, rfl, rfl, rfl, rfl, rfl, rfl, some_wrap (n := 1000001) (by omega) (by omega), trivial⟩ ⟨⟨_, rfl, .refl _⟩, ⟨_, rfl, .refl _⟩, ⟨_, rfl, .refl _⟩, trivial⟩ (fun R hR => hR)⟩
     · rw [MeetV, if_neg hd]
       have hm : meetB (sgE e0) (sgE e1) = (meetV e0.1.v e0.2.v e1.1.v e1.2.v).isSome := meetB_of hd
       cases hmv : (meetV e0.1.v e0.2.v e1.1.v e1.2.v).isSome with
       | false =>
         conv => whnf
         exact ⟨k + 1, ⟨by omega, take_any hkk he' (by rw [hm, hmv])⟩, by omega, SLe.id ⟨rfl, rfl, rfl, rfl, rfl, rfl, rfl, some_wrap (n := 1000001) (by omega) (by omega), trivial⟩ ⟨⟨_, rfl, .refl _⟩, ⟨_, rfl, .refl _⟩, ⟨_, rfl, .refl _⟩, trivial⟩ (fun R hR => hR)⟩
       | true =>
         conv => whnf
         refine postV_one ?_
         rw [show meetL a.l b.l = true from any_of_get he (any_of_get he' (by rw [hm, hmv]))]
   · intro h2
     have hk2 : k = b.l.length := by
       have : ¬ (k : Int) < (b.l.length : Int) := of_decide_eq_false h2
       omega
     conv => whnf
     exact ⟨i + 1, ⟨by omega, take_any hall he (any_of_take (by rw [edgesL_len]; omega) hkk)⟩, by omega, SLe.id ⟨rfl, rfl, rfl, some_wrap (n := 1000001) (by omega) (by omega), trivial⟩ ⟨⟨_, rfl, .refl _⟩, trivial⟩ (fun R hR => hR)⟩
 · intro h
   have hi2 : i = a.l.length := by
     have : ¬ (i : Int) < (a.l.length : Int) := of_decide_eq_false h
     omega
   conv => whnf
   refine postV_one ?_
   rw [show meetL a.l b.l = false from any_of_take (by rw [edgesL_len]; omega) hall]
def withinL (a b : List Pt) (x : Pt) : Bool := decide ((insL b x).2 = 0) && decide ((insL b x).1 > 0)
abbrev fstP (l : List Pt) : Pt := l.getD 0 P0
theorem c_within (a b : Hd) (hla : 0 < a.l.length) (hcb : b.l.length ≤ b.c) (hsa : a.sm KS) (hsb : b.sm KS) :
   FnM PP f_polygon_within [a.V, b.V] (facts [a.F, b.F]) (retsV (.bool (withinL a.l b.l (fstP a.l)))) := by
 refine FnS.of TBgood mixed h_polygon_within rfl rfl (Nat.le_of_ble_eq_true rfl) (by simp [SlRes.ok]) ?_
 intro w hw
 have hA : a.A.isSome = true := slres_some (facts_two hw).1 (by rw [rowV_length ptC_len]; omega)
 have hpl : a.l[0]? = some (fstP a.l) := by rw [fstP, getD_of (List.getElem?_eq_getElem hla)]; exact List.getElem?_eq_getElem _
 conv => whnf
 refine ⟨⟨by decide, by omega, hA⟩, ?_⟩
 conv => whnf
 refine LoadVC.elem (A := a.A) (xs := a.l) (j := ((0 : Nat) : Int)) ptC ptC_len (List.mem_cons_self ..) rfl hla (by decide) (fun h => by cases h) ?_
 intro p hp
 obtain rfl : p = fstP a.l := elem_eq hp hpl
 conv => whnf
 have hin := c_ringInside b.A b.c b.l (fstP a.l) hcb hsb (getD_sm hsa 0)
 refine CallVC.v hin.enters (CallV.facts hin rfl (fun R hR => List.mem_cons_of_mem _ hR)) ?_
 conv => whnf
 refine br_split ?_ ?_
 · intro h
   have h2 : (insL b.l (fstP a.l)).2 = 0 := eq_of_beq h
   conv => whnf
   refine postV_one ?_
   rw [withinL, decide_eq_true h2]; rfl
 · intro h
   have h2 : ¬ (insL b.l (fstP a.l)).2 = 0 := ne_of_beq_false h
   conv => whnf
   refine postV_one ?_
   rw [withinL, decide_eq_false h2]; rfl
theorem CallV.c1 {P : Program} {st : SS} {g g0 : FuncId} {args : List SV} {R : World → Ending → World → Prop} {k : Nat} {xs : List Value} {re : List Res} (mk : Value → List Value) (hx : boxV st k = some xs) (hm : SV.o (.clo g0 [.l k]) ∈ args)
   (hargs : ∀ E, args.map (SV.real E) = mk ((SV.o (.clo g0 [.l k])).real E)) (hre : ∀ w, Sx.facts st.re w → Sx.facts re w) (h : ∀ a, FnM P g (mk (cloV g0 [ptrV a])) (Sx.facts (SlRes (some a) xs :: re)) R) : CallV P g args st R := by
 intro E w he hw
 have hb : ∃ b ty, E.β k = some b ∧ w.heap[b]? = some (.cells xs.toArray ty (0, 0)) := by
   have hk : (SV.o (.clo g0 [.l k])).has k = true := by simp [SV.has, AV.has, CP.has]
   unfold boxV at hx
   split at hx
   · rename_i cs' ty hl
     obtain ⟨b, hb, hcells⟩ := he k _ (any_mem hm hk) hl
     rw [allV_real E hx] at hcells
     exact ⟨b, ty, hb, hcells⟩
   · rename_i cs' ty hl
     cases hx
     obtain ⟨b, hb, hcells⟩ := he k _ (any_mem hm hk) hl
     exact ⟨b, ty, hb, hcells⟩
   · cases hx
 obtain ⟨b, ty, hb, hcells⟩ := hb
 have hp : (SV.o (.clo g0 [.l k])).real E = cloV g0 [ptrV ⟨b, 0, none⟩] := by simp [SV.real, AV.real, CP.real, hb, ptrV]
 rw [hargs, hp]
 refine (h ⟨b, 0, none⟩).calls w (fun R hR => ?_)
 rcases List.mem_cons.1 hR with rfl | hR
 · exact .inr ⟨b, 0, rfl, fun j v hj => by rw [cell_of hcells, Nat.zero_add]; simpa using hj⟩
 · exact hre w hw R hR
theorem c_checkHole1 (a : Addr) (h x : Hd) (hlh : h.l.length ≤ 1000000) (hlx : x.l.length ≤ 1000000) (hsh : h.sm KS) (hsx : x.sm KS) :
   FnM PP f_polygon_checkHole_1 [x.V, ptrV a] (facts [SlRes (some a) h.C, h.F, x.F]) (retsV (.bool (meetL h.l x.l))) := by
 refine FnS.of TBgood mixed h_polygon_checkHole_1 rfl rfl (Nat.le_of_ble_eq_true rfl) (by simp [SlRes.ok]) ?_
 intro w hw
 conv => whnf
 refine LoadVC.row (off := 0) (List.mem_cons_self ..) rfl (Nat.le_refl _) (by decide) (fun _ => rfl) ?_
 conv => whnf
 refine CallVC.v (c_meetL h x hlh hlx hsh hsx).enters (CallV.facts (c_meetL h x hlh hlx hsh hsx) rfl (fun R hR => List.mem_cons_of_mem _ hR)) ?_
 conv => whnf
 exact postV_one rfl
theorem c_checkHole2 (a : Addr) (h x : Hd) (hlh : 0 < h.l.length) (hlx : 0 < x.l.length) (hch : h.l.length ≤ h.c) (hcx : x.l.length ≤ x.c) (hsh : h.sm KS) (hsx : x.sm KS) :
   FnM PP f_polygon_checkHole_2 [x.V, ptrV a] (facts [SlRes (some a) h.C, h.F, x.F]) (retsV (.bool (withinL h.l x.l (fstP h.l) || withinL x.l h.l (fstP x.l)))) := by
 refine FnS.of TBgood mixed h_polygon_checkHole_2 rfl rfl (Nat.le_of_ble_eq_true rfl) (by simp [SlRes.ok]) ?_
 intro w hw
 conv => whnf
 refine LoadVC.row (off := 0) (List.mem_cons_self ..) rfl (Nat.le_refl _) (by decide) (fun _ => rfl) ?_
 conv => whnf
 refine CallVC.v (c_within h x hlh hcx hsh hsx).enters (CallV.facts (c_within h x hlh hcx hsh hsx) rfl (fun R hR => List.mem_cons_of_mem _ hR)) ?_
 cases h1 : withinL h.l x.l (fstP h.l) with
 | true =>
   conv => whnf
   exact postV_one rfl
 | false =>
   conv => whnf
   refine LoadVC.row (off := 0) (List.mem_cons_self ..) rfl (Nat.le_refl _) (by decide) (fun _ => rfl) ?_
   conv => whnf
   refine CallVC.v (c_within x h hlx hch hsx hsh).enters (CallV.facts (c_within x h hlx hch hsx hsh) rfl (fun R hR => ?_)) ?_
   · rcases List.mem_cons.1 hR with rfl | hR
     · exact List.mem_cons_of_mem _ (List.mem_cons_of_mem _ (List.mem_cons_self ..))
     · rw [List.mem_singleton.1 hR]; exact List.mem_cons_of_mem _ (List.mem_cons_self ..)
   conv => whnf
   refine postV_one ?_
   rfl
theorem c_IndexFuncR (A : Option Addr) (c : Nat) (l : List Hd) (g : FuncId) (caps : List Value) (f : Hd → Bool) (re : List Res) (hl : l.length ≤ 1000000) (hok : ∀ R ∈ re, R.ok)
   (hf : ∀ x ∈ l, FnM PP g (x.V :: caps) (facts re) (retsV (.bool (f x)))) :
   FnM PP f_slices_IndexFunc_sl_sl_api_Point_sl_api_Point [.slice A l.length c, cloV g caps] (facts (SlRes A (rowV Hd.C l) :: re)) (retsV (.int .i64 (idxF f 0 l))) := by
 refine FnS.of TBgood mixed h_slices_IndexFunc_sl_sl_api_Point_sl_api_Point rfl rfl (Nat.le_of_ble_eq_true rfl) (fun R hR => by rcases List.mem_cons.1 hR with rfl | hR; exact SlRes.ok _ _; exact hok R hR) ?_
 intro w hw
 obtain ⟨n, hn⟩ : ∃ n, n = l.length := ⟨_, rfl⟩
 have hA : 0 < n → A.isSome = true := fun h => slres_some (hw _ (List.mem_cons_self ..)) (by rw [rowV_length hdC_len]; omega)
 rw [← hn] at hl ⊢
 conv => whnf
 refine sexec_loop (ι := Nat) (fun i => ⟨[(0, .o (.v (.slice A n c))), (1, .o (.v (cloV g caps))), (6, .o (.v (.slice A n c))), (7, .o (.v (.int .i64 n))), (8, .o (.v (.int .i64 i)))], [], SlRes A (rowV Hd.C l) :: re⟩)
   (fun i => i ≤ n ∧ idxF f 0 l = idxF f i (l.drop i)) (fun i => n - i) 0 ⟨Nat.zero_le _, rfl⟩
   (SLe.id ⟨rfl, rfl, rfl, rfl, rfl, trivial⟩ trivial (fun R hR => hR)) ?_
 rintro i ⟨hi, hx⟩
 conv => whnf
 refine br_split ?_ ?_
 · intro h
   have hi2 : i < n := by
     have : (i : Int) < (n : Int) := of_decide_eq_true h
     omega
   conv => whnf
   refine ⟨⟨by omega, by omega, hA (by omega)⟩, ?_⟩
   conv => whnf
   obtain ⟨p, hp⟩ : ∃ p, l[i]? = some p := ⟨_, List.getElem?_eq_getElem (by omega)⟩
   refine LoadVC.elem (A := A) (xs := l) (j := (i : Int)) Hd.C hdC_len (List.mem_cons_self ..) rfl (by rw [Int.toNat_natCast]; omega) (by decide) (fun _ => rfl) ?_
   intro p' hp'
   obtain rfl := elem_eq hp' hp
   conv => whnf
   refine CallVC.v (hf p' (List.mem_of_getElem? hp)).enters (CallV.facts (hf p' (List.mem_of_getElem? hp)) rfl (fun R hR => List.mem_cons_of_mem _ hR)) ?_
   have hdrop : l.drop i = p' :: l.drop (i + 1) := by
     obtain ⟨h1, h2⟩ := List.getElem?_eq_some_iff.1 hp
     rw [← h2]; exact List.drop_eq_getElem_cons h1
   rw [hdrop] at hx
   simp only [idxF] at hx
   cases hfp : f p' with
   | true =>
     rw [hfp, if_pos rfl] at hx
     conv => whnf
     refine postV_one ?_
     rw [hx]
   | false =>
     rw [hfp, if_neg (by simp)] at hx
     conv => whnf
     exact ⟨i + 1, ⟨by omega, hx⟩, by omega, SLe.id ⟨rfl, rfl, rfl, rfl, some_wrap (n := 1000001) (by omega) (by omega), trivial⟩ trivial (fun R hR => hR)⟩
 · intro h
   have hi2 : i = n := by
     have : ¬ (i : Int) < (n : Int) := of_decide_eq_false h
     omega
   rw [hi2, hn, List.drop_length] at hx
   conv => whnf
   refine postV_one ?_
   rw [hx]; rfl
theorem c_ContainsFuncR (A : Option Addr) (c : Nat) (l : List Hd) (g : FuncId) (caps : List Value) (f : Hd → Bool) (re : List Res) (hl : l.length ≤ 1000000) (hok : ∀ R ∈ re, R.ok)
   (hf : ∀ x ∈ l, FnM PP g (x.V :: caps) (facts re) (retsV (.bool (f x)))) :
   FnM PP f_slices_ContainsFunc_sl_sl_api_Point_sl_api_Point [.slice A l.length c, cloV g caps] (facts (SlRes A (rowV Hd.C l) :: re)) (retsV (.bool (l.any f))) := by
 refine FnS.of TBgood mixed h_slices_ContainsFunc_sl_sl_api_Point_sl_api_Point rfl rfl (Nat.le_of_ble_eq_true rfl) (fun R hR => by rcases List.mem_cons.1 hR with rfl | hR; exact SlRes.ok _ _; exact hok R hR) ?_
 intro w hw
 conv => whnf
 refine CallVC.v (c_IndexFuncR A c l g caps f re hl hok hf).enters (CallV.facts (c_IndexFuncR A c l g caps f re hl hok hf) rfl (fun R hR => hR)) ?_
 conv => whnf
 refine postV_one ?_
 show Value.bool (decide (idxF f 0 l ≥ 0)) = _
 rw [idxF_any]
end Go.Sx
end
section
set_option maxRecDepth 10000
set_option maxHeartbeats 2000000
namespace Go.Sx
open Go Go.Proofs
structure Ply where
 o : Hd
 H : Option Addr
 c : Nat
 hs : List Hd
abbrev Ply.HV (p : Ply) : Value := .slice p.H p.hs.length p.c
abbrev Ply.V (p : Ply) : Value := .agg ⟨[p.o.V, p.HV]⟩
def Ply.C (p : Ply) : List Value := [p.o.V, p.HV]
abbrev Ply.HF (p : Ply) : Res := SlRes p.H (rowV Hd.C p.hs)
def Ply.F (p : Ply) : List Res := p.o.F :: p.HF :: p.hs.map Hd.F
structure Ply.wf (p : Ply) : Prop where
 os : p.o.sm KS
 oc : p.o.l.length ≤ p.o.c
 hs : ∀ h ∈ p.hs, h.sm KS
 hc : ∀ h ∈ p.hs, h.l.length ≤ h.c
 cc : p.hs.length ≤ p.c
theorem Ply.F_o {p : Ply} : p.o.F ∈ p.F := List.mem_cons_self ..
theorem Ply.F_H {p : Ply} : p.HF ∈ p.F := List.mem_cons_of_mem _ (List.mem_cons_self ..)
theorem Ply.F_h {p : Ply} {h : Hd} (hh : h ∈ p.hs) : h.F ∈ p.F := List.mem_cons_of_mem _ (List.mem_cons_of_mem _ (List.mem_map_of_mem hh))
theorem Ply.F_ok {p : Ply} : ∀ R ∈ p.F, R.ok := fun R hR => by
 rcases List.mem_cons.1 hR with rfl | hR
 · exact SlRes.ok _ _
 · rcases List.mem_cons.1 hR with rfl | hR
   · exact SlRes.ok _ _
   · obtain ⟨h, _, rfl⟩ := List.mem_map.1 hR; exact SlRes.ok _ _
theorem FnM.weak {P : Program} {f : FuncId} {vs : List Value} {re re' : List Res} {R : World → Ending → World → Prop} (h : FnM P f vs (facts re) R) (hre : ∀ w, facts re' w → facts re w) : FnM P f vs (facts re') R := ⟨h.enters, fun w hw => h.calls w (hre w hw)⟩
theorem facts_sub {re re' : List Res} (h : ∀ R ∈ re, R ∈ re') : ∀ w, facts re' w → facts re w := fun w hw R hR => hw R (h R hR)
def chkHole (o : List Pt) (bef : List (List Pt)) (h : List Pt) : Int :=
 if chkL h ≠ 0 then chkL h else if meetL h o = true then 13 else if bef.any (fun x => meetL h x) = true then 13 else if withinL h o (fstP h) = false then 14
 else if bef.any (fun x => withinL h x (fstP h) || withinL x h (fstP x)) = true then 22
 else if 0 < bef.length ∧ cmpV (fstP (bef.getD (bef.length - 1) [])).v (fstP h).v ≥ 0 then 8 else 0
abbrev Hd.ls (l : List Hd) : List (List Pt) := l.map (·.l)
theorem fstP_get {l : List Pt} (h : 0 < l.length) : l[0]? = some (fstP l) := by rw [fstP, getD_of (List.getElem?_eq_getElem h)]; exact List.getElem?_eq_getElem _
theorem map0 {A : Option Addr} {s : Nat} : Option.map (fun a => a.add (0 * s)) A = A := by
 cases A with
 | none => rfl
 | some z => simp [Addr.add]
theorem rowV_takeC {α : Type} {f : α → List Value} {es : Nat} (hf : ∀ x, (f x).length = es) {A : Option Addr} {l : List α} {w : World} (h : SlF A (rowV f l) w) (k : Nat) : SlF A (rowV f (l.take k)) w := by
 rw [← rowV_take hf]; exact h.take _
theorem c_checkHole (p : Ply) (i : Nat) (hp : p.wf) (hi : i < p.hs.length) (hh8 : p.hs.length ≤ 8) (ho : chkL p.o.l = 0) (hb : ∀ h ∈ p.hs.take i, chkL h.l = 0) :
   FnM PP f_polygon_checkHole [p.V, .int .i64 i] (facts p.F) (retsV (.int .i64 (chkHole p.o.l (Hd.ls (p.hs.take i)) (p.hs[i]'hi).l))) := by
 refine FnS.of TBgood mixed h_polygon_checkHole rfl rfl (Nat.le_of_ble_eq_true rfl) Ply.F_ok ?_
 intro w hw
 obtain ⟨h, hhe⟩ : ∃ h, h = p.hs[i]'hi := ⟨_, rfl⟩
 have hget : p.hs[i]? = some h := by rw [hhe]; exact List.getElem?_eq_getElem _
 have hmem : h ∈ p.hs := List.mem_of_getElem? hget
 rw [← hhe]
 have hH : p.H.isSome = true := slres_some (hw _ Ply.F_H) (by rw [rowV_length hdC_len]; omega)
 obtain ⟨ho3, ho64⟩ := chkL_len ho
 have hcc := hp.cc
 conv => whnf
 refine DrawVC.late [(10, 5, [5, 6, 7, 8])] (by kernel_rfl) ?_
 conv => whnf
 refine ⟨⟨by omega, by omega, hH⟩, ?_⟩
 conv => whnf
 refine LoadVC.elem (A := p.H) (xs := p.hs) (j := (i : Int)) Hd.C hdC_len Ply.F_H rfl (by rw [Int.toNat_natCast]; omega) (by decide) (fun _ => rfl) ?_
 intro h' hh'
 obtain rfl : h' = h := elem_eq hh' hget
 conv => whnf
 refine ⟨⟨by omega, by omega, by omega⟩, ?_⟩
 conv => whnf
 have hsm := hp.hs h' hmem
 have hcap := hp.hc h' hmem
 have hslice : Value.slice (if p.c = (0 : Int).toNat then p.H else Option.map (fun a : Addr => a.add ((0 : Int).toNat * ty42.size)) p.H) ((i : Int).toNat - (0 : Int).toNat) (p.c - (0 : Int).toNat) = .slice p.H (p.hs.take i).length p.c := by
   rw [show Option.map (fun a : Addr => a.add ((0 : Int).toNat * ty42.size)) p.H = p.H from map0, ite_self, List.length_take]
   congr 1
   show (i : Int).toNat = _
   rw [Int.toNat_natCast]; omega
 refine CallVC.v (c_ringCheck h'.A h'.c h'.l hsm).enters (CallV.facts (c_ringCheck h'.A h'.c h'.l hsm) rfl (fun R hR => by rw [List.mem_singleton.1 hR]; exact Ply.F_h hmem)) ?_
 conv => whnf
 refine br_split ?_ ?_
 · intro hb1
   have h1 : chkL h'.l ≠ 0 := by intro h0; rw [h0] at hb1; exact absurd hb1 (by decide)
   conv => whnf
   refine postV_one ?_
   rw [chkHole, if_pos h1]
 intro hb1
 have h1 : ¬ chkL h'.l ≠ 0 := by simpa using hb1
 obtain ⟨h3, h64⟩ := chkL_len (Decidable.not_not.1 h1)
 conv => whnf
 have hm1 := c_meetL h' p.o (by omega) (by omega) hsm hp.os
 refine CallVC.v hm1.enters (CallV.facts hm1 rfl (fun R hR => by
   rcases List.mem_cons.1 hR with rfl | hR
   · exact Ply.F_h hmem
   · rw [List.mem_singleton.1 hR]; exact Ply.F_o)) ?_
 have hlen : ∀ x ∈ p.hs.take i, 3 ≤ x.l.length ∧ x.l.length ≤ 64 := fun x hx => chkL_len (hb x hx)
 have htk : ∀ x ∈ p.hs.take i, x ∈ p.hs := fun x hx => List.mem_of_mem_take hx
 have hok : ∀ a, ∀ R ∈ SlRes (some a) h'.C :: h'.F :: (p.hs.take i).map Hd.F, R.ok := fun a R hR => by
   rcases List.mem_cons.1 hR with rfl | hR
   · exact SlRes.ok _ _
   · rcases List.mem_cons.1 hR with rfl | hR
     · exact SlRes.ok _ _
     · obtain ⟨x, _, rfl⟩ := List.mem_map.1 hR; exact SlRes.ok _ _
 have hsubx : ∀ a, ∀ x ∈ p.hs.take i, ∀ R ∈ [SlRes (some a) h'.C, h'.F, x.F], R ∈ SlRes (some a) h'.C :: h'.F :: (p.hs.take i).map Hd.F := fun a x hx R hR => by
   simp only [List.mem_cons, List.not_mem_nil, or_false] at hR
   rcases hR with rfl | rfl | rfl
   · exact List.mem_cons_self ..
   · exact List.mem_cons_of_mem _ (List.mem_cons_self ..)
   · exact List.mem_cons_of_mem _ (List.mem_cons_of_mem _ (List.mem_map_of_mem hx))
 have hRE : ∀ w, facts p.F w → facts (SlRes p.H (rowV Hd.C (p.hs.take i)) :: h'.F :: (p.hs.take i).map Hd.F) w := fun w hw R hR => by
   rcases List.mem_cons.1 hR with rfl | hR
   · exact rowV_takeC hdC_len (hw _ Ply.F_H) i
   · rcases List.mem_cons.1 hR with rfl | hR
     · exact hw _ (Ply.F_h hmem)
     · obtain ⟨x, hx, rfl⟩ := List.mem_map.1 hR; exact hw _ (Ply.F_h (htk x hx))
 have hswap : ∀ a, ∀ R ∈ SlRes p.H (rowV Hd.C (p.hs.take i)) :: SlRes (some a) h'.C :: h'.F :: (p.hs.take i).map Hd.F, R ∈ SlRes (some a) h'.C :: SlRes p.H (rowV Hd.C (p.hs.take i)) :: h'.F :: (p.hs.take i).map Hd.F := fun a R hR => by
   rcases List.mem_cons.1 hR with rfl | hR
   · exact List.mem_cons_of_mem _ (List.mem_cons_self ..)
   · rcases List.mem_cons.1 hR with rfl | hR
     · exact List.mem_cons_self ..
     · exact List.mem_cons_of_mem _ (List.mem_cons_of_mem _ hR)
 have hcf1 : ∀ a, FnM PP f_slices_ContainsFunc_sl_sl_api_Point_sl_api_Point [.slice p.H (p.hs.take i).length p.c, cloV f_polygon_checkHole_1 [ptrV a]] (facts (SlRes (some a) h'.C :: SlRes p.H (rowV Hd.C (p.hs.take i)) :: h'.F :: (p.hs.take i).map Hd.F)) (retsV (.bool ((p.hs.take i).any fun x => meetL h'.l x.l))) := fun a =>
   (c_ContainsFuncR p.H p.c (p.hs.take i) f_polygon_checkHole_1 [ptrV a] (fun x => meetL h'.l x.l) _ (by rw [List.length_take]; omega) (hok a) (fun x hx =>
     (c_checkHole1 a h' x (by omega) (by have := hlen x hx; omega) hsm (hp.hs x (htk x hx))).weak (facts_sub (hsubx a x hx)))).weak (facts_sub (hswap a))
 have hcf2 : ∀ a, FnM PP f_slices_ContainsFunc_sl_sl_api_Point_sl_api_Point [.slice p.H (p.hs.take i).length p.c, cloV f_polygon_checkHole_2 [ptrV a]] (facts (SlRes (some a) h'.C :: SlRes p.H (rowV Hd.C (p.hs.take i)) :: h'.F :: (p.hs.take i).map Hd.F)) (retsV (.bool ((p.hs.take i).any fun x => withinL h'.l x.l (fstP h'.l) || withinL x.l h'.l (fstP x.l)))) := fun a =>
   (c_ContainsFuncR p.H p.c (p.hs.take i) f_polygon_checkHole_2 [ptrV a] (fun x => withinL h'.l x.l (fstP h'.l) || withinL x.l h'.l (fstP x.l)) _ (by rw [List.length_take]; omega) (hok a) (fun x hx =>
     (c_checkHole2 a h' x (by omega) (by have := hlen x hx; omega) hcap (hp.hc x (htk x hx)) hsm (hp.hs x (htk x hx))).weak (facts_sub (hsubx a x hx)))).weak (facts_sub (hswap a))
 have hany : ∀ f : List Pt → Bool, (Hd.ls (p.hs.take i)).any f = (p.hs.take i).any fun x => f x.l := fun f => by rw [List.any_map]; rfl
 cases hm : meetL h'.l p.o.l with
 | true =>
   conv => whnf
   refine postV_one ?_
   rw [chkHole, if_neg h1, if_pos hm]
 | false =>
 conv => whnf
 refine CallVC.v (hcf1 ⟨0, 0, none⟩).enters (CallV.c1 (k := 5) (fun z => [.slice p.H (p.hs.take i).length p.c, z]) rfl (List.mem_cons_of_mem _ (List.mem_cons_self ..)) (fun E => congrArg (fun z => [z, (SV.o (.clo f_polygon_checkHole_1 [.l 5])).real E]) hslice) hRE hcf1) ?_
 cases hm2 : (p.hs.take i).any fun x => meetL h'.l x.l with
 | true =>
   conv => whnf
   refine postV_one ?_
   rw [chkHole, if_neg h1, if_neg (by rw [hm]; decide), if_pos (by rw [hany]; exact hm2)]
 | false =>
 conv => whnf
 have hw1 := c_within h' p.o (by omega) hp.oc hsm hp.os
 refine CallVC.v hw1.enters (CallV.facts hw1 rfl (fun R hR => by
   rcases List.mem_cons.1 hR with rfl | hR
   · exact Ply.F_h hmem
   · rw [List.mem_singleton.1 hR]; exact Ply.F_o)) ?_
 cases hwi : withinL h'.l p.o.l (fstP h'.l) with
 | false =>
   conv => whnf
   refine postV_one ?_
   rw [chkHole, if_neg h1, if_neg (by rw [hm]; decide), if_neg (by rw [hany, hm2]; decide), if_pos hwi]
 | true =>
 conv => whnf
 refine CallVC.v (hcf2 ⟨0, 0, none⟩).enters (CallV.c1 (k := 5) (fun z => [.slice p.H (p.hs.take i).length p.c, z]) rfl (List.mem_cons_of_mem _ (List.mem_cons_self ..)) (fun E => congrArg (fun z => [z, (SV.o (.clo f_polygon_checkHole_2 [.l 5])).real E]) hslice) hRE hcf2) ?_
 cases hm3 : (p.hs.take i).any fun x => withinL h'.l x.l (fstP h'.l) || withinL x.l h'.l (fstP x.l) with
 | true =>
   conv => whnf
   refine postV_one ?_
   rw [chkHole, if_neg h1, if_neg (by rw [hm]; decide), if_neg (by rw [hany, hm2]; decide), if_neg (by rw [hwi]; decide), if_pos (by rw [hany]; exact hm3)]
 | false =>
 conv => whnf
 refine DrawVC.quiet (by kernel_rfl) ?_
 conv => whnf
 refine br_split ?_ ?_
 · intro hi0
   have hi1 : 0 < i := by
     have : (i : Int) > 0 := of_decide_eq_true hi0
     omega
   conv => whnf
   have hwr : IntKind.i64.wrap ((i : Int) - 1) = ((i - 1 : Nat) : Int) := by rw [wrap_i64 (by omega) (by omega)]; omega
   have hA0 : (if p.c = (0 : Int).toNat then p.H else Option.map (fun a : Addr => a.add ((0 : Int).toNat * ty42.size)) p.H) = p.H := by
     rw [show Option.map (fun a : Addr => a.add ((0 : Int).toNat * ty42.size)) p.H = p.H from map0, ite_self]
   obtain ⟨x, hx⟩ : ∃ x, p.hs[i - 1]? = some x := ⟨_, List.getElem?_eq_getElem (by omega)⟩
   have hxm : x ∈ p.hs.take i := List.mem_of_getElem? (i := i - 1) (by rw [List.getElem?_take, if_pos (by omega)]; exact hx)
   obtain ⟨hx3, hx64⟩ := hlen x hxm
   have hxA : x.A.isSome = true := slres_some (hw _ (Ply.F_h (htk x hxm))) (by rw [rowV_length ptC_len]; omega)
   have hhA : h'.A.isSome = true := slres_some (hw _ (Ply.F_h hmem)) (by rw [rowV_length ptC_len]; omega)
   refine ⟨⟨by omega, by omega, by rw [hA0]; exact hH⟩, ?_⟩
   conv => whnf
   refine LoadVC.elem (A := p.H) (xs := p.hs) (j := ((i - 1 : Nat) : Int)) Hd.C hdC_len Ply.F_H ?_ (by rw [Int.toNat_natCast]; omega) (by decide) (fun _ => rfl) ?_
   · show Option.map (fun a => a.add ((IntKind.i64.wrap ((i : Int) - 1)).toNat * 1)) (if p.c = (0 : Int).toNat then p.H else Option.map (fun a : Addr => a.add ((0 : Int).toNat * ty42.size)) p.H) = _
     rw [hA0, hwr]; rfl
   intro x' hx'
   obtain rfl : x' = x := elem_eq hx' hx
   conv => whnf
   refine ⟨⟨by decide, by omega, hxA⟩, ?_⟩
   conv => whnf
   refine LoadVC.elem (A := x'.A) (xs := x'.l) (j := ((0 : Nat) : Int)) ptC ptC_len (Ply.F_h (htk x' hxm)) rfl (by show 0 < x'.l.length; omega) (by decide) (fun h => by cases h) ?_
   intro q hq
   obtain rfl : q = fstP x'.l := elem_eq hq (fstP_get (by omega))
   conv => whnf
   refine ⟨⟨by decide, by omega, hhA⟩, ?_⟩
   conv => whnf
   refine LoadVC.elem (A := h'.A) (xs := h'.l) (j := ((0 : Nat) : Int)) ptC ptC_len (Ply.F_h hmem) rfl (by show 0 < h'.l.length; omega) (by decide) (fun h => by cases h) ?_
   intro q2 hq2
   obtain rfl : q2 = fstP h'.l := elem_eq hq2 (fstP_get (by omega))
   conv => whnf
   refine CallVCd.fn (c_vCompare (fstP x'.l) (fstP h'.l) ((getD_sm (hp.hs x' (htk x' hxm)) 0).le (by decide)) ((getD_sm hsm 0).le (by decide))) rfl ?_
   have hll : (Hd.ls (p.hs.take i)).length = i := by rw [List.length_map, List.length_take]; omega
   have hlast : (Hd.ls (p.hs.take i)).getD ((Hd.ls (p.hs.take i)).length - 1) [] = x'.l := by
     rw [hll]
     exact getD_of (by rw [List.getElem?_map, List.getElem?_take, if_pos (by omega), hx]; rfl)
   conv => whnf
   refine br_split ?_ ?_
   · intro hc
     have hc2 : cmpV (fstP x'.l).v (fstP h'.l).v ≥ 0 := of_decide_eq_true hc
     conv => whnf
     refine postV_one ?_
     rw [chkHole, if_neg h1, if_neg (by rw [hm]; decide), if_neg (by rw [hany, hm2]; decide), if_neg (by rw [hwi]; decide), if_neg (by rw [hany, hm3]; decide), if_pos ⟨by omega, by rw [hlast]; exact hc2⟩]
   · intro hc
     have hc2 : ¬ cmpV (fstP x'.l).v (fstP h'.l).v ≥ 0 := of_decide_eq_false hc
     conv => whnf
     refine postV_one ?_
     rw [chkHole, if_neg h1, if_neg (by rw [hm]; decide), if_neg (by rw [hany, hm2]; decide), if_neg (by rw [hwi]; decide), if_neg (by rw [hany, hm3]; decide), if_neg (fun h => hc2 (by have := h.2; rw [hlast] at this; exact this))]
 · intro hi0
   have hi1 : ¬ 0 < i := by
     have : ¬ (i : Int) > 0 := of_decide_eq_false hi0
     omega
   conv => whnf
   refine postV_one ?_
   rw [chkHole, if_neg h1, if_neg (by rw [hm]; decide), if_neg (by rw [hany, hm2]; decide), if_neg (by rw [hwi]; decide), if_neg (by rw [hany, hm3]; decide), if_neg (fun h => hi1 (by have := h.1; rw [List.length_map, List.length_take] at this; omega))]
structure PL where
 o : List Pt
 hs : List (List Pt)
abbrev Ply.P (p : Ply) : PL := ⟨p.o.l, Hd.ls p.hs⟩
def chkFrom (q : PL) : Nat → List (List Pt) → Int
 | _, [] => 0
 | i, h :: r => if chkHole q.o (q.hs.take i) h ≠ 0 then chkHole q.o (q.hs.take i) h else chkFrom q (i + 1) r
def chkP (q : PL) : Int := if chkL q.o ≠ 0 then chkL q.o else if 8 < q.hs.length then 4 else chkFrom q 0 q.hs
theorem chkHole_ring {o : List Pt} {b : List (List Pt)} {h : List Pt} (h0 : chkHole o b h = 0) : chkL h = 0 := by
 unfold chkHole at h0
 split at h0
 · exact h0
 · rename_i h1; exact Decidable.not_not.1 h1
theorem c_polyCheck (p : Ply) (hp : p.wf) : FnM PP f_polygon_Check [p.V] (facts p.F) (retsV (.int .i64 (chkP p.P))) := by
 refine FnS.of TBgood mixed h_polygon_Check rfl rfl (Nat.le_of_ble_eq_true rfl) Ply.F_ok ?_
 intro w hw
 have hcc := hp.cc
 conv => whnf
 refine CallVC.v (c_ringCheck p.o.A p.o.c p.o.l hp.os).enters (CallV.facts (c_ringCheck p.o.A p.o.c p.o.l hp.os) rfl (fun R hR => by rw [List.mem_singleton.1 hR]; exact Ply.F_o)) ?_
 conv => whnf
 refine br_split ?_ ?_
 · intro hb1
   have h1 : chkL p.o.l ≠ 0 := by intro h0; rw [h0] at hb1; exact absurd hb1 (by decide)
   conv => whnf
   refine postV_one ?_
   rw [chkP, if_pos h1]
 intro hb1
 have h1 : ¬ chkL p.o.l ≠ 0 := by simpa using hb1
 conv => whnf
 refine br_split ?_ ?_
 · intro hb2
   have h2 : 8 < (Hd.ls p.hs).length := by
     have : (p.hs.length : Int) > 8 := of_decide_eq_true hb2
     rw [List.length_map]; omega
   conv => whnf
   refine postV_one ?_
   rw [chkP, if_neg h1, if_pos h2]
 intro hb2
 have h2 : ¬ 8 < p.hs.length := by
   have : ¬ (p.hs.length : Int) > 8 := of_decide_eq_false hb2
   omega
 have hres : chkP p.P = chkFrom p.P 0 (Hd.ls p.hs) := by rw [chkP, if_neg h1, if_neg (by rw [List.length_map]; exact h2)]
 rw [hres]
 conv => whnf
 refine sexec_loop (ι := Nat) (fun i => ⟨[(1, .o (.p 1 0)), (18, .o (.v (.int .i64 p.hs.length))), (19, .o (.v (.int .i64 i)))], [(1, .box [.v p.o.V, .v p.HV] t_api_Polygon)], p.F⟩)
   (fun i => i ≤ p.hs.length ∧ chkFrom p.P 0 (Hd.ls p.hs) = chkFrom p.P i (Hd.ls (p.hs.drop i)) ∧ ∀ h ∈ p.hs.take i, chkL h.l = 0) (fun i => p.hs.length - i) 0 ⟨Nat.zero_le _, rfl, fun h hh => by cases hh⟩
   (SLe.id ⟨rfl, rfl, rfl, trivial⟩ ⟨⟨_, rfl, .refl _⟩, trivial⟩ (fun R hR => hR)) ?_
 rintro i ⟨hi, hf, hall⟩
 conv => whnf
 refine br_split ?_ ?_
 · intro h
   have hi2 : i < p.hs.length := by
     have : (i : Int) < (p.hs.length : Int) := of_decide_eq_true h
     omega
   conv => whnf
   have hch := c_checkHole p i hp hi2 (by omega) (Decidable.not_not.1 h1) hall
   refine CallVC.v hch.enters (CallV.facts hch rfl (fun R hR => hR)) ?_
   have hdrop : p.hs.drop i = p.hs[i] :: p.hs.drop (i + 1) := List.drop_eq_getElem_cons hi2
   have htk : (Hd.ls p.hs).take i = Hd.ls (p.hs.take i) := by rw [Hd.ls, Hd.ls, List.map_take]
   rw [hdrop] at hf
   simp only [Hd.ls, List.map_cons, chkFrom] at hf
   rw [show (Ply.P p).hs.take i = Hd.ls (p.hs.take i) from htk] at hf
   conv => whnf
   refine br_split ?_ ?_
   · intro hb3
     have h3 : chkHole p.o.l (Hd.ls (p.hs.take i)) (p.hs[i]).l ≠ 0 := by intro h0; rw [h0] at hb3; exact absurd hb3 (by decide)
     rw [if_pos h3] at hf
     conv => whnf
     refine postV_one ?_
     rw [hf]
   · intro hb3
     have h3 : chkHole p.o.l (Hd.ls (p.hs.take i)) (p.hs[i]).l = 0 := by simpa using hb3
     rw [if_neg (by rw [h3]; decide)] at hf
     conv => whnf
     refine ⟨i + 1, ⟨by omega, hf, fun h hh => ?_⟩, by omega, SLe.id ⟨rfl, rfl, some_wrap hi2 (by omega), trivial⟩ ⟨⟨_, rfl, .refl _⟩, trivial⟩ (fun R hR => hR)⟩
     rw [List.take_add_one, List.getElem?_eq_getElem hi2] at hh
     rcases List.mem_append.1 hh with hh | hh
     · exact hall h hh
     · rw [List.mem_singleton.1 hh]; exact chkHole_ring h3
 · intro h
   have hi2 : i = p.hs.length := by
     have : ¬ (i : Int) < (p.hs.length : Int) := of_decide_eq_false h
     omega
   rw [hi2, List.drop_length] at hf
   conv => whnf
   refine postV_one ?_
   rw [hf]; rfl
end Go.Sx
end
section
set_option maxRecDepth 10000
set_option maxHeartbeats 2000000
namespace Go.Sx
open Go Go.Proofs
abbrev metV (f g : FuncId) : Value := .agg ⟨[fnV f, fnV g]⟩
theorem c_euclidean : Fn PP f_distance_euclidean [] (metV f_vector_Distance f_distance_euclidean_1) := by
 refine Fn.of TBgood mixed h_distance_euclidean rfl rfl (Nat.le_of_ble_eq_true rfl) ?_
 intro w
 conv => whnf
 exact postV_one rfl
theorem c_square : Fn PP f_distance_square [] (metV f_vector_Square f_distance_square_1) := by
 refine Fn.of TBgood mixed h_distance_square rfl rfl (Nat.le_of_ble_eq_true rfl) ?_
 intro w
 conv => whnf
 exact postV_one rfl
theorem c_euclidean1 (s : Sg) (p : Pt) (hs : s.sm KS) (hp : p.sm KS) (hd : ¬ degen s) : Fn PP f_distance_euclidean_1 [sV s, pV p] (pV (PQ (nearV s.A.v s.B.v p.v))) := by
 refine Fn.of TBgood mixed h_distance_euclidean_1 rfl rfl (Nat.le_of_ble_eq_true rfl) ?_
 intro w
 conv => whnf
 refine CallVC.fn (c_Nearest s p hs hp) rfl ?_
 rw [if_neg hd]
 conv => whnf
 exact postV_one rfl
theorem c_metPoint (f g : FuncId) (s : Sg) (p : Pt) (q : Pt) (r : Raw) (hg : Fn PP g [sV s, pV p] (pV q)) (hf : Fn PP f [pV p, pV q] (rawV r)) : Fn PP f_distance_metric_point [metV f g, sV s, pV p] (rawV r) := by
 refine Fn.of TBgood mixed h_distance_metric_point rfl rfl (Nat.le_of_ble_eq_true rfl) ?_
 intro w
 conv => whnf
 refine DrawVC.quiet (by kernel_rfl) ?_
 conv => whnf
 refine CallVCd.fn hg rfl ?_
 conv => whnf
 refine CallVCd.fn hf rfl ?_
 conv => whnf
 exact postV_one rfl
theorem c_parts (s : Sg) (p : Pt) : FnM PP f_distance_parts [sV s, pV p] (facts []) (retsF f_distance_parts_1 [sgC (s.A, s.B), ptC p]) := by
 refine FnF.of TBgood mixed h_distance_parts rfl rfl (Nat.le_of_ble_eq_true rfl) (by simp) ?_
 intro w hw
 conv => whnf
 refine ⟨[2, 3], rfl, rfl, fun i k' c' h1 h2 => ?_⟩
 match i with
 | 0 => cases h1; cases h2; rfl
 | 1 => cases h1; cases h2; rfl
 | i + 2 => cases h1
theorem filt_get {α β : Type} (f : α → Option β) {l : List α} {i : Nat} {x : α} {t : β} (hx : l[i]? = some x) (hf : f x = some t) : (l.filterMap f)[((l.take i).filterMap f).length]? = some t ∧ ((l.take (i + 1)).filterMap f).length = ((l.take i).filterMap f).length + 1 := by
 obtain ⟨hi, rfl⟩ := List.getElem?_eq_some_iff.1 hx
 have e : l = l.take i ++ l[i] :: l.drop (i + 1) := by rw [← List.drop_eq_getElem_cons hi, List.take_append_drop]
 constructor
 · generalize hn : ((l.take i).filterMap f).length = n
   rw [e, List.filterMap_append, List.getElem?_append_right (by omega), hn, Nat.sub_self, List.filterMap_cons, hf]; rfl
 · rw [List.take_add_one, hx, List.filterMap_append, List.length_append]
   simp [hf]
theorem filt_none {α β : Type} (f : α → Option β) {l : List α} {i : Nat} {x : α} (hx : l[i]? = some x) (hf : f x = none) : ((l.take (i + 1)).filterMap f).length = ((l.take i).filterMap f).length := by
 rw [List.take_add_one, hx, List.filterMap_append, List.length_append]
 simp [hf]
def cntP (A B p : V) (k : Nat) : Nat := (((partPs A B p).take k).filterMap partOf).length + 2
abbrev partXs (A B p : V) : List (List Value) := (partsL A B p).map fun t => [qV t]
theorem cnt_some {A B p : V} {k : Nat} {x : Rat × Rat} {t : Rat} (hx : (partPs A B p)[k]? = some x) (hf : partOf x = some t) : (partXs A B p).getD (cntP A B p k) [] = [qV t] ∧ cntP A B p k < (partXs A B p).length ∧ cntP A B p (k + 1) = cntP A B p k + 1 := by
 obtain ⟨h1, h2⟩ := filt_get partOf hx hf
 have h3 : (partXs A B p)[cntP A B p k]? = some [qV t] := by
   rw [List.getElem?_map]
   show Option.map _ (((partPs A B p).filterMap partOf)[(((partPs A B p).take k).filterMap partOf).length]?) = _
   rw [h1]; rfl
 exact ⟨getD_of h3, (List.getElem?_eq_some_iff.1 h3).1, by unfold cntP; omega⟩
theorem cnt_none {A B p : V} {k : Nat} {x : Rat × Rat} (hx : (partPs A B p)[k]? = some x) (hf : partOf x = none) : cntP A B p (k + 1) = cntP A B p k := by
 unfold cntP; rw [filt_none partOf hx hf]
theorem cnt_end (A B p : V) : cntP A B p 4 = (partXs A B p).length := by
 rw [List.length_map]; rfl
theorem Addr_add0 (b o : Nat) : (some ⟨b, o + 0, none⟩ : Option Addr) = Option.map (fun x : Addr => x.add 0) (some ⟨b, o, none⟩) := rfl
theorem le_sg (k : Nat) {e : Pt × Pt} (h : k + 6 ≤ 12 := by decide) : k + 6 ≤ (sgC e).length := h
theorem c_parts1 (a1 a2 : Addr) (s : Sg) (p : Pt) (hs : s.sm KS) (hp : p.sm KS) :
   SeqC PP f_distance_parts_1 [ptrV a1, ptrV a2] [SlRes (some a1) (sgC (s.A, s.B)), SlRes (some a2) (ptC p)] (partXs s.A.v s.B.v p.v) := by
 refine SeqC.of TBgood mixed h_distance_parts_1 rfl rfl (Nat.le_of_ble_eq_true rfl) (by simp [SlRes.ok]) ?_
 intro yl W B R X hW hy
 obtain ⟨b1, o1, rfl⟩ := slf_addr (hW _ (List.mem_cons_self ..)) (by simp [sgC, ptC])
 obtain ⟨b2, o2, rfl⟩ := slf_addr (hW _ (List.mem_cons_of_mem _ (List.mem_cons_self ..))) (by simp [ptC])
 obtain ⟨hA, hB⟩ := hs
 have zA := hA.sz (by decide)
 have zB := hB.sz (by decide)
 have zp := hp.sz (by decide)
 have za := zA.sub zp
 have zd := zB.sub zA
 refine WPS.of TBgood mixed ?_
 conv => whnf
 refine DrawVC.quiet (by kernel_rfl) ?_
 conv => whnf
 refine LoadVC.row (off := 0) (List.mem_cons_of_mem _ (List.mem_cons_self ..)) (Addr_add0 _ _) (le_sg 0) (by decide) (fun h => by cases h) ?_
 conv => whnf
 refine LoadVC.row (off := 0) (List.mem_cons_of_mem _ (List.mem_cons_of_mem _ (List.mem_cons_self ..))) (Addr_add0 _ _) (Nat.le_refl _) (by decide) (fun h => by cases h) ?_
 conv => whnf
 refine CallVCd.fn (c_vSub s.A p (hA.le (by decide)) (hp.le (by decide))) rfl ?_
 conv => whnf
 refine LoadVC.row (off := 6) (List.mem_cons_of_mem _ (List.mem_cons_self ..)) rfl (le_sg 6) (by decide) (fun h => by cases h) ?_
 conv => whnf
 refine LoadVC.row (off := 0) (List.mem_cons_of_mem _ (List.mem_cons_self ..)) (Addr_add0 _ _) (le_sg 0) (by decide) (fun h => by cases h) ?_
 conv => whnf
 refine CallVCd.fn (c_vSub s.B s.A (hB.le (by decide)) (hA.le (by decide))) rfl ?_
 conv => whnf
 refine CallVC.fn (c_rOf 0 (by decide) (by decide)) rfl ?_
 rw [show ((0 : Int) : Rat) = 0 from rfl]
 conv => whnf
 refine CallVC.fn (c_rOf 1 (by decide) (by decide)) rfl ?_
 rw [show ((1 : Int) : Rat) = 1 from rfl]
 conv => whnf
 have hlen2 : 2 ≤ (partXs s.A.v s.B.v p.v).length := by rw [List.length_map]; exact Nat.le_add_left 2 _
 refine hy 0 [] _ _ _ (by omega) rfl rfl (fun Z0 => ?_) (fun Z0 => ?_)
 case _ =>
   conv => whnf
   refine hy 1 Z0 _ _ _ (by omega) rfl rfl (fun Z1 => ?_) (fun Z1 => ?_)
   rotate_left
   · conv => whnf
     exact .inr ⟨Z1, List.mem_cons_self ..⟩
   conv => whnf
   refine DrawVC.quiet (by kernel_rfl) ?_
   conv => whnf
   refine CallVCd.fn (c_rSub (Q (s.A.v - p.v).x) (Q (s.A.v - p.v).y) (za.1.q.le (by decide)) (za.2.q.le (by decide))) rfl ?_
   rw [Q_v, Q_v]
   conv => whnf
   refine CallVCd.fn (c_rSub (Q (s.B.v - s.A.v).x) (Q (s.B.v - s.A.v).y) (zd.1.q.le (by decide)) (zd.2.q.le (by decide))) rfl ?_
   rw [Q_v, Q_v]
   conv => whnf
   refine CallVCd.fn (c_rAdd (Q (s.A.v - p.v).x) (Q (s.A.v - p.v).y) (za.1.q.le (by decide)) (za.2.q.le (by decide))) rfl ?_
   rw [Q_v, Q_v]
   conv => whnf
   refine CallVCd.fn (c_rAdd (Q (s.B.v - s.A.v).x) (Q (s.B.v - s.A.v).y) (zd.1.q.le (by decide)) (zd.2.q.le (by decide))) rfl ?_
   rw [Q_v, Q_v]
   conv => whnf
   have z01 : (Q 0).sm KK := (show Sz 1 (0 : Rat) from ⟨by decide, by decide⟩).q.le (by decide)
   have z11 : (Q 1).sm KK := (show Sz 1 (1 : Rat) from ⟨by decide, by decide⟩).q.le (by decide)
   refine sexec_loop (ι := Nat × List Nat) (fun ⟨i, Z⟩ => ⟨[(0, .o (.v (yieldV yl))), (6, .o (.p 6 0)), (7, .o (.p 7 0)), (65, .o (.v (.agg ⟨ratC (Q (s.A.v - p.v).x) ++ ratC (Q (s.B.v - s.A.v).x) ++ ratC (Q (s.A.v - p.v).y) ++ ratC (Q (s.B.v - s.A.v).y) ++ ratC (Q ((s.A.v - p.v).x - (s.A.v - p.v).y)) ++ ratC (Q ((s.B.v - s.A.v).x - (s.B.v - s.A.v).y)) ++ ratC (Q ((s.A.v - p.v).x + (s.A.v - p.v).y)) ++ ratC (Q ((s.B.v - s.A.v).x + (s.B.v - s.A.v).y))⟩))), (66, .o (.v (.int .i64 i)))], [(6, ratM (Q 0)), (7, ratM (Q 1))], [R (cntP s.A.v s.B.v p.v i) Z, SlRes (some ⟨b1, o1, none⟩) (sgC (s.A, s.B)), SlRes (some ⟨b2, o2, none⟩) (ptC p)]⟩)
     (fun ⟨i, Z⟩ => i ≤ 4) (fun ⟨i, Z⟩ => 4 - i) (0, Z1) (Nat.le_of_ble_eq_true rfl) (SLe.id ⟨rfl, rfl, rfl, rfl, rfl, trivial⟩ ⟨⟨_, rfl, .refl _⟩, ⟨_, rfl, .refl _⟩, trivial⟩ (fun R hR => hR)) ?_
   rintro ⟨i, Z⟩ hi
   obtain rfl | rfl | rfl | rfl | rfl : i = 0 ∨ i = 1 ∨ i = 2 ∨ i = 3 ∨ i = 4 := by
     have : i ≤ 4 := hi
     omega
   · -- the line with the number 0
     have hx : (partPs s.A.v s.B.v p.v)[0]? = some ((s.A.v - p.v).x, (s.B.v - s.A.v).x) := rfl
     conv => whnf
     refine ⟨by omega, ?_⟩
     conv => whnf
     refine DrawVC.late [(10, 10, [8])] (by kernel_rfl) ?_
     conv => whnf
     refine ⟨by omega, ?_⟩
     conv => whnf
     refine CallVCd.fn (c_rNeg (Q (s.A.v - p.v).x) (za.1.q.le (by decide))) rfl ?_
     rw [Q_v]
     conv => whnf
     refine ⟨by omega, ?_⟩
     conv => whnf
     refine CallVCd.fn (c_rQuo (Q (-(s.A.v - p.v).x)) (Q (s.B.v - s.A.v).x) (za.1.neg.q.le (by decide)) (zd.1.q.le (by decide))) rfl ?_
     rw [Q_v, Q_v]
     by_cases h0 : (s.B.v - s.A.v).x = 0
     · rw [quoV, if_pos h0]
       have hnone : partOf ((s.A.v - p.v).x, (s.B.v - s.A.v).x) = none := by unfold partOf; rw [if_pos h0]
       conv => whnf
       exact ⟨(1, Z), Nat.le_of_ble_eq_true rfl, Nat.le_of_ble_eq_true rfl, SLe.id ⟨rfl, rfl, rfl, rfl, rfl, trivial⟩ ⟨⟨_, rfl, .refl _⟩, ⟨_, rfl, .refl _⟩, trivial⟩ (fun S hS => by have h5 : S ∈ R (cntP s.A.v s.B.v p.v 1) Z :: [SlRes (some ⟨b1, o1, none⟩) (sgC (s.A, s.B)), SlRes (some ⟨b2, o2, none⟩) (ptC p)] := hS; rw [cnt_none hx hnone] at h5; exact h5)⟩
     · rw [quoV, if_neg h0]
       have zt := za.1.neg.div zd.1
       conv => whnf
       refine CallVC.fn (c_rCompare (Q 0) (Q (-(s.A.v - p.v).x / (s.B.v - s.A.v).x)) z01 (zt.q.le (by decide))) rfl ?_
       rw [Q_v, Q_v]
       conv => whnf
       refine br_split ?_ ?_
       · intro h1
         have h1' : cmpQ 0 (-(s.A.v - p.v).x / (s.B.v - s.A.v).x) ≤ 0 := of_decide_eq_true h1
         conv => whnf
         refine CallVC.fn (c_rCompare (Q (-(s.A.v - p.v).x / (s.B.v - s.A.v).x)) (Q 1) (zt.q.le (by decide)) z11) rfl ?_
         rw [Q_v, Q_v]
         conv => whnf
         refine br_split ?_ ?_
         · intro h2
           have h2' : cmpQ (-(s.A.v - p.v).x / (s.B.v - s.A.v).x) 1 ≤ 0 := of_decide_eq_true h2
           have hsome : partOf ((s.A.v - p.v).x, (s.B.v - s.A.v).x) = some (-(s.A.v - p.v).x / (s.B.v - s.A.v).x) := by unfold partOf; rw [if_neg h0, if_pos ⟨h1', h2'⟩]
           obtain ⟨g1, g2, g3⟩ := cnt_some hx hsome
           conv => whnf
           refine hy (cntP s.A.v s.B.v p.v 0) Z _ _ _ g2 rfl (by rw [g1]; rfl) (fun Z' => ?_) (fun Z' => ?_)
           · conv => whnf
             exact ⟨(1, Z'), Nat.le_of_ble_eq_true rfl, Nat.le_of_ble_eq_true rfl, SLe.id ⟨rfl, rfl, rfl, rfl, rfl, trivial⟩ ⟨⟨_, rfl, .refl _⟩, ⟨_, rfl, .refl _⟩, trivial⟩ (fun S hS => by have h5 : S ∈ R (cntP s.A.v s.B.v p.v 1) Z' :: [SlRes (some ⟨b1, o1, none⟩) (sgC (s.A, s.B)), SlRes (some ⟨b2, o2, none⟩) (ptC p)] := hS; rw [g3] at h5; exact h5)⟩
           · conv => whnf
             exact .inr ⟨Z', List.mem_cons_self ..⟩
         · intro h2
           have h2' : ¬ cmpQ (-(s.A.v - p.v).x / (s.B.v - s.A.v).x) 1 ≤ 0 := of_decide_eq_false h2
           have hnone : partOf ((s.A.v - p.v).x, (s.B.v - s.A.v).x) = none := by unfold partOf; rw [if_neg h0, if_neg (fun h => h2' h.2)]
           conv => whnf
           exact ⟨(1, Z), Nat.le_of_ble_eq_true rfl, Nat.le_of_ble_eq_true rfl, SLe.id ⟨rfl, rfl, rfl, rfl, rfl, trivial⟩ ⟨⟨_, rfl, .refl _⟩, ⟨_, rfl, .refl _⟩, trivial⟩ (fun S hS => by have h5 : S ∈ R (cntP s.A.v s.B.v p.v 1) Z :: [SlRes (some ⟨b1, o1, none⟩) (sgC (s.A, s.B)), SlRes (some ⟨b2, o2, none⟩) (ptC p)] := hS; rw [cnt_none hx hnone] at h5; exact h5)⟩
       · intro h1
         have h1' : ¬ cmpQ 0 (-(s.A.v - p.v).x / (s.B.v - s.A.v).x) ≤ 0 := of_decide_eq_false h1
         have hnone : partOf ((s.A.v - p.v).x, (s.B.v - s.A.v).x) = none := by unfold partOf; rw [if_neg h0, if_neg (fun h => h1' h.1)]
         conv => whnf
         exact ⟨(1, Z), Nat.le_of_ble_eq_true rfl, Nat.le_of_ble_eq_true rfl, SLe.id ⟨rfl, rfl, rfl, rfl, rfl, trivial⟩ ⟨⟨_, rfl, .refl _⟩, ⟨_, rfl, .refl _⟩, trivial⟩ (fun S hS => by have h5 : S ∈ R (cntP s.A.v s.B.v p.v 1) Z :: [SlRes (some ⟨b1, o1, none⟩) (sgC (s.A, s.B)), SlRes (some ⟨b2, o2, none⟩) (ptC p)] := hS; rw [cnt_none hx hnone] at h5; exact h5)⟩
   · -- the line with the number 1
     have hx : (partPs s.A.v s.B.v p.v)[1]? = some ((s.A.v - p.v).y, (s.B.v - s.A.v).y) := rfl
     conv => whnf
     refine ⟨by omega, ?_⟩
     conv => whnf
     refine DrawVC.late [(10, 10, [8])] (by kernel_rfl) ?_
     conv => whnf
     refine ⟨by omega, ?_⟩
     conv => whnf
     refine CallVCd.fn (c_rNeg (Q (s.A.v - p.v).y) (za.2.q.le (by decide))) rfl ?_
     rw [Q_v]
     conv => whnf
     refine ⟨by omega, ?_⟩
     conv => whnf
     refine CallVCd.fn (c_rQuo (Q (-(s.A.v - p.v).y)) (Q (s.B.v - s.A.v).y) (za.2.neg.q.le (by decide)) (zd.2.q.le (by decide))) rfl ?_
     rw [Q_v, Q_v]
     by_cases h0 : (s.B.v - s.A.v).y = 0
     · rw [quoV, if_pos h0]
       have hnone : partOf ((s.A.v - p.v).y, (s.B.v - s.A.v).y) = none := by unfold partOf; rw [if_pos h0]
       conv => whnf
       exact ⟨(2, Z), Nat.le_of_ble_eq_true rfl, Nat.le_of_ble_eq_true rfl, SLe.id ⟨rfl, rfl, rfl, rfl, rfl, trivial⟩ ⟨⟨_, rfl, .refl _⟩, ⟨_, rfl, .refl _⟩, trivial⟩ (fun S hS => by have h5 : S ∈ R (cntP s.A.v s.B.v p.v 2) Z :: [SlRes (some ⟨b1, o1, none⟩) (sgC (s.A, s.B)), SlRes (some ⟨b2, o2, none⟩) (ptC p)] := hS; rw [cnt_none hx hnone] at h5; exact h5)⟩
     · rw [quoV, if_neg h0]
       have zt := za.2.neg.div zd.2
       conv => whnf
       refine CallVC.fn (c_rCompare (Q 0) (Q (-(s.A.v - p.v).y / (s.B.v - s.A.v).y)) z01 (zt.q.le (by decide))) rfl ?_
       rw [Q_v, Q_v]
       conv => whnf
       refine br_split ?_ ?_
       · intro h1
         have h1' : cmpQ 0 (-(s.A.v - p.v).y / (s.B.v - s.A.v).y) ≤ 0 := of_decide_eq_true h1
         conv => whnf
         refine CallVC.fn (c_rCompare (Q (-(s.A.v - p.v).y / (s.B.v - s.A.v).y)) (Q 1) (zt.q.le (by decide)) z11) rfl ?_
         rw [Q_v, Q_v]
         conv => whnf
         refine br_split ?_ ?_
         · intro h2
           have h2' : cmpQ (-(s.A.v - p.v).y / (s.B.v - s.A.v).y) 1 ≤ 0 := of_decide_eq_true h2
           have hsome : partOf ((s.A.v - p.v).y, (s.B.v - s.A.v).y) = some (-(s.A.v - p.v).y / (s.B.v - s.A.v).y) := by unfold partOf; rw [if_neg h0, if_pos ⟨h1', h2'⟩]
           obtain ⟨g1, g2, g3⟩ := cnt_some hx hsome
           conv => whnf
           refine hy (cntP s.A.v s.B.v p.v 1) Z _ _ _ g2 rfl (by rw [g1]; rfl) (fun Z' => ?_) (fun Z' => ?_)
           · conv => whnf
             exact ⟨(2, Z'), Nat.le_of_ble_eq_true rfl, Nat.le_of_ble_eq_true rfl, SLe.id ⟨rfl, rfl, rfl, rfl, rfl, trivial⟩ ⟨⟨_, rfl, .refl _⟩, ⟨_, rfl, .refl _⟩, trivial⟩ (fun S hS => by have h5 : S ∈ R (cntP s.A.v s.B.v p.v 2) Z' :: [SlRes (some ⟨b1, o1, none⟩) (sgC (s.A, s.B)), SlRes (some ⟨b2, o2, none⟩) (ptC p)] := hS; rw [g3] at h5; exact h5)⟩
           · conv => whnf
             exact .inr ⟨Z', List.mem_cons_self ..⟩
         · intro h2
           have h2' : ¬ cmpQ (-(s.A.v - p.v).y / (s.B.v - s.A.v).y) 1 ≤ 0 := of_decide_eq_false h2
           have hnone : partOf ((s.A.v - p.v).y, (s.B.v - s.A.v).y) = none := by unfold partOf; rw [if_neg h0, if_neg (fun h => h2' h.2)]
           conv => whnf
           exact ⟨(2, Z), Nat.le_of_ble_eq_true rfl, Nat.le_of_ble_eq_true rfl, SLe.id ⟨rfl, rfl, rfl, rfl, rfl, trivial⟩ ⟨⟨_, rfl, .refl _⟩, ⟨_, rfl, .refl _⟩, trivial⟩ (fun S hS => by have h5 : S ∈ R (cntP s.A.v s.B.v p.v 2) Z :: [SlRes (some ⟨b1, o1, none⟩) (sgC (s.A, s.B)), SlRes (some ⟨b2, o2, none⟩) (ptC p)] := hS; rw [cnt_none hx hnone] at h5; exact h5)⟩
       · intro h1
         have h1' : ¬ cmpQ 0 (-(s.A.v - p.v).y / (s.B.v - s.A.v).y) ≤ 0 := of_decide_eq_false h1
         have hnone : partOf ((s.A.v - p.v).y, (s.B.v - s.A.v).y) = none := by unfold partOf; rw [if_neg h0, if_neg (fun h => h1' h.1)]
         conv => whnf
         exact ⟨(2, Z), Nat.le_of_ble_eq_true rfl, Nat.le_of_ble_eq_true rfl, SLe.id ⟨rfl, rfl, rfl, rfl, rfl, trivial⟩ ⟨⟨_, rfl, .refl _⟩, ⟨_, rfl, .refl _⟩, trivial⟩ (fun S hS => by have h5 : S ∈ R (cntP s.A.v s.B.v p.v 2) Z :: [SlRes (some ⟨b1, o1, none⟩) (sgC (s.A, s.B)), SlRes (some ⟨b2, o2, none⟩) (ptC p)] := hS; rw [cnt_none hx hnone] at h5; exact h5)⟩
   · -- the line with the number 2
     have hx : (partPs s.A.v s.B.v p.v)[2]? = some (((s.A.v - p.v).x - (s.A.v - p.v).y), ((s.B.v - s.A.v).x - (s.B.v - s.A.v).y)) := rfl
     conv => whnf
     refine ⟨by omega, ?_⟩
     conv => whnf
     refine DrawVC.late [(10, 10, [8])] (by kernel_rfl) ?_
     conv => whnf
     refine ⟨by omega, ?_⟩
     conv => whnf
     refine CallVCd.fn (c_rNeg (Q ((s.A.v - p.v).x - (s.A.v - p.v).y)) ((za.1.sub za.2).q.le (by decide))) rfl ?_
     rw [Q_v]
     conv => whnf
     refine ⟨by omega, ?_⟩
     conv => whnf
     refine CallVCd.fn (c_rQuo (Q (-((s.A.v - p.v).x - (s.A.v - p.v).y))) (Q ((s.B.v - s.A.v).x - (s.B.v - s.A.v).y)) ((za.1.sub za.2).neg.q.le (by decide)) ((zd.1.sub zd.2).q.le (by decide))) rfl ?_
     rw [Q_v, Q_v]
     by_cases h0 : ((s.B.v - s.A.v).x - (s.B.v - s.A.v).y) = 0
     · rw [quoV, if_pos h0]
       have hnone : partOf (((s.A.v - p.v).x - (s.A.v - p.v).y), ((s.B.v - s.A.v).x - (s.B.v - s.A.v).y)) = none := by unfold partOf; rw [if_pos h0]
       conv => whnf
       exact ⟨(3, Z), Nat.le_of_ble_eq_true rfl, Nat.le_of_ble_eq_true rfl, SLe.id ⟨rfl, rfl, rfl, rfl, rfl, trivial⟩ ⟨⟨_, rfl, .refl _⟩, ⟨_, rfl, .refl _⟩, trivial⟩ (fun S hS => by have h5 : S ∈ R (cntP s.A.v s.B.v p.v 3) Z :: [SlRes (some ⟨b1, o1, none⟩) (sgC (s.A, s.B)), SlRes (some ⟨b2, o2, none⟩) (ptC p)] := hS; rw [cnt_none hx hnone] at h5; exact h5)⟩
     · rw [quoV, if_neg h0]
       have zt := (za.1.sub za.2).neg.div (zd.1.sub zd.2)
       conv => whnf
       refine CallVC.fn (c_rCompare (Q 0) (Q (-((s.A.v - p.v).x - (s.A.v - p.v).y) / ((s.B.v - s.A.v).x - (s.B.v - s.A.v).y))) z01 (zt.q.le (by decide))) rfl ?_
       rw [Q_v, Q_v]
       conv => whnf
       refine br_split ?_ ?_
       · intro h1
         have h1' : cmpQ 0 (-((s.A.v - p.v).x - (s.A.v - p.v).y) / ((s.B.v - s.A.v).x - (s.B.v - s.A.v).y)) ≤ 0 := of_decide_eq_true h1
         conv => whnf
         refine CallVC.fn (c_rCompare (Q (-((s.A.v - p.v).x - (s.A.v - p.v).y) / ((s.B.v - s.A.v).x - (s.B.v - s.A.v).y))) (Q 1) (zt.q.le (by decide)) z11) rfl ?_
         rw [Q_v, Q_v]
         conv => whnf
         refine br_split ?_ ?_
         · intro h2
           have h2' : cmpQ (-((s.A.v - p.v).x - (s.A.v - p.v).y) / ((s.B.v - s.A.v).x - (s.B.v - s.A.v).y)) 1 ≤ 0 := of_decide_eq_true h2
           have hsome : partOf (((s.A.v - p.v).x - (s.A.v - p.v).y), ((s.B.v - s.A.v).x - (s.B.v - s.A.v).y)) = some (-((s.A.v - p.v).x - (s.A.v - p.v).y) / ((s.B.v - s.A.v).x - (s.B.v - s.A.v).y)) := by unfold partOf; rw [if_neg h0, if_pos ⟨h1', h2'⟩]
           obtain ⟨g1, g2, g3⟩ := cnt_some hx hsome
           conv => whnf
           refine hy (cntP s.A.v s.B.v p.v 2) Z _ _ _ g2 rfl (by rw [g1]; rfl) (fun Z' => ?_) (fun Z' => ?_)
           · conv => whnf
             exact ⟨(3, Z'), Nat.le_of_ble_eq_true rfl, Nat.le_of_ble_eq_true rfl, SLe.id ⟨rfl, rfl, rfl, rfl, rfl, trivial⟩ ⟨⟨_, rfl, .refl _⟩, ⟨_, rfl, .refl _⟩, trivial⟩ (fun S hS => by have h5 : S ∈ R (cntP s.A.v s.B.v p.v 3) Z' :: [SlRes (some ⟨b1, o1, none⟩) (sgC (s.A, s.B)), SlRes (some ⟨b2, o2, none⟩) (ptC p)] := hS; rw [g3] at h5; exact h5)⟩
           · conv => whnf
             exact .inr ⟨Z', List.mem_cons_self ..⟩
         · intro h2
           have h2' : ¬ cmpQ (-((s.A.v - p.v).x - (s.A.v - p.v).y) / ((s.B.v - s.A.v).x - (s.B.v - s.A.v).y)) 1 ≤ 0 := of_decide_eq_false h2
           have hnone : partOf (((s.A.v - p.v).x - (s.A.v - p.v).y), ((s.B.v - s.A.v).x - (s.B.v - s.A.v).y)) = none := by unfold partOf; rw [if_neg h0, if_neg (fun h => h2' h.2)]
           conv => whnf
           exact ⟨(3, Z), Nat.le_of_ble_eq_true rfl, Nat.le_of_ble_eq_true rfl, SLe.id ⟨rfl, rfl, rfl, rfl, rfl, trivial⟩ ⟨⟨_, rfl, .refl _⟩, ⟨_, rfl, .refl _⟩, trivial⟩ (fun S hS => by have h5 : S ∈ R (cntP s.A.v s.B.v p.v 3) Z :: [SlRes (some ⟨b1, o1, none⟩) (sgC (s.A, s.B)), SlRes (some ⟨b2, o2, none⟩) (ptC p)] := hS; rw [cnt_none hx hnone] at h5; exact h5)⟩
       · intro h1
         have h1' : ¬ cmpQ 0 (-((s.A.v - p.v).x - (s.A.v - p.v).y) / ((s.B.v - s.A.v).x - (s.B.v - s.A.v).y)) ≤ 0 := of_decide_eq_false h1
         have hnone : partOf (((s.A.v - p.v).x - (s.A.v - p.v).y), ((s.B.v - s.A.v).x - (s.B.v - s.A.v).y)) = none := by unfold partOf; rw [if_neg h0, if_neg (fun h => h1' h.1)]
         conv => whnf
         exact ⟨(3, Z), Nat.le_of_ble_eq_true rfl, Nat.le_of_ble_eq_true rfl, SLe.id ⟨rfl, rfl, rfl, rfl, rfl, trivial⟩ ⟨⟨_, rfl, .refl _⟩, ⟨_, rfl, .refl _⟩, trivial⟩ (fun S hS => by have h5 : S ∈ R (cntP s.A.v s.B.v p.v 3) Z :: [SlRes (some ⟨b1, o1, none⟩) (sgC (s.A, s.B)), SlRes (some ⟨b2, o2, none⟩) (ptC p)] := hS; rw [cnt_none hx hnone] at h5; exact h5)⟩
   · -- the line with the number 3
     have hx : (partPs s.A.v s.B.v p.v)[3]? = some (((s.A.v - p.v).x + (s.A.v - p.v).y), ((s.B.v - s.A.v).x + (s.B.v - s.A.v).y)) := rfl
     conv => whnf
     refine ⟨by omega, ?_⟩
     conv => whnf
     refine DrawVC.late [(10, 10, [8])] (by kernel_rfl) ?_
     conv => whnf
     refine ⟨by omega, ?_⟩
     conv => whnf
     refine CallVCd.fn (c_rNeg (Q ((s.A.v - p.v).x + (s.A.v - p.v).y)) ((za.1.add za.2).q.le (by decide))) rfl ?_
     rw [Q_v]
     conv => whnf
     refine ⟨by omega, ?_⟩
     conv => whnf
     refine CallVCd.fn (c_rQuo (Q (-((s.A.v - p.v).x + (s.A.v - p.v).y))) (Q ((s.B.v - s.A.v).x + (s.B.v - s.A.v).y)) ((za.1.add za.2).neg.q.le (by decide)) ((zd.1.add zd.2).q.le (by decide))) rfl ?_
     rw [Q_v, Q_v]
     by_cases h0 : ((s.B.v - s.A.v).x + (s.B.v - s.A.v).y) = 0
     · rw [quoV, if_pos h0]
       have hnone : partOf (((s.A.v - p.v).x + (s.A.v - p.v).y), ((s.B.v - s.A.v).x + (s.B.v - s.A.v).y)) = none := by unfold partOf; rw [if_pos h0]
       conv => whnf
       exact ⟨(4, Z), Nat.le_of_ble_eq_true rfl, Nat.le_of_ble_eq_true rfl, SLe.id ⟨rfl, rfl, rfl, rfl, rfl, trivial⟩ ⟨⟨_, rfl, .refl _⟩, ⟨_, rfl, .refl _⟩, trivial⟩ (fun S hS => by have h5 : S ∈ R (cntP s.A.v s.B.v p.v 4) Z :: [SlRes (some ⟨b1, o1, none⟩) (sgC (s.A, s.B)), SlRes (some ⟨b2, o2, none⟩) (ptC p)] := hS; rw [cnt_none hx hnone] at h5; exact h5)⟩
     · rw [quoV, if_neg h0]
       have zt := (za.1.add za.2).neg.div (zd.1.add zd.2)
       conv => whnf
       refine CallVC.fn (c_rCompare (Q 0) (Q (-((s.A.v - p.v).x + (s.A.v - p.v).y) / ((s.B.v - s.A.v).x + (s.B.v - s.A.v).y))) z01 (zt.q.le (by decide))) rfl ?_
       rw [Q_v, Q_v]
       conv => whnf
       refine br_split ?_ ?_
       · intro h1
         have h1' : cmpQ 0 (-((s.A.v - p.v).x + (s.A.v - p.v).y) / ((s.B.v - s.A.v).x + (s.B.v - s.A.v).y)) ≤ 0 := of_decide_eq_true h1
         conv => whnf
         refine CallVC.fn (c_rCompare (Q (-((s.A.v - p.v).x + (s.A.v - p.v).y) / ((s.B.v - s.A.v).x + (s.B.v - s.A.v).y))) (Q 1) (zt.q.le (by decide)) z11) rfl ?_
         rw [Q_v, Q_v]
         conv => whnf
         refine br_split ?_ ?_
         · intro h2
           have h2' : cmpQ (-((s.A.v - p.v).x + (s.A.v - p.v).y) / ((s.B.v - s.A.v).x + (s.B.v - s.A.v).y)) 1 ≤ 0 := of_decide_eq_true h2
           have hsome : partOf (((s.A.v - p.v).x + (s.A.v - p.v).y), ((s.B.v - s.A.v).x + (s.B.v - s.A.v).y)) = some (-((s.A.v - p.v).x + (s.A.v - p.v).y) / ((s.B.v - s.A.v).x + (s.B.v - s.A.v).y)) := by unfold partOf; rw [if_neg h0, if_pos ⟨h1', h2'⟩]
           obtain ⟨g1, g2, g3⟩ := cnt_some hx hsome
           conv => whnf
           refine hy (cntP s.A.v s.B.v p.v 3) Z _ _ _ g2 rfl (by rw [g1]; rfl) (fun Z' => ?_) (fun Z' => ?_)
           · conv => whnf
             exact ⟨(4, Z'), Nat.le_of_ble_eq_true rfl, Nat.le_of_ble_eq_true rfl, SLe.id ⟨rfl, rfl, rfl, rfl, rfl, trivial⟩ ⟨⟨_, rfl, .refl _⟩, ⟨_, rfl, .refl _⟩, trivial⟩ (fun S hS => by have h5 : S ∈ R (cntP s.A.v s.B.v p.v 4) Z' :: [SlRes (some ⟨b1, o1, none⟩) (sgC (s.A, s.B)), SlRes (some ⟨b2, o2, none⟩) (ptC p)] := hS; rw [g3] at h5; exact h5)⟩
           · conv => whnf
             exact .inr ⟨Z', List.mem_cons_self ..⟩
         · intro h2
           have h2' : ¬ cmpQ (-((s.A.v - p.v).x + (s.A.v - p.v).y) / ((s.B.v - s.A.v).x + (s.B.v - s.A.v).y)) 1 ≤ 0 := of_decide_eq_false h2
           have hnone : partOf (((s.A.v - p.v).x + (s.A.v - p.v).y), ((s.B.v - s.A.v).x + (s.B.v - s.A.v).y)) = none := by unfold partOf; rw [if_neg h0, if_neg (fun h => h2' h.2)]
           conv => whnf
           exact ⟨(4, Z), Nat.le_of_ble_eq_true rfl, Nat.le_of_ble_eq_true rfl, SLe.id ⟨rfl, rfl, rfl, rfl, rfl, trivial⟩ ⟨⟨_, rfl, .refl _⟩, ⟨_, rfl, .refl _⟩, trivial⟩ (fun S hS => by have h5 : S ∈ R (cntP s.A.v s.B.v p.v 4) Z :: [SlRes (some ⟨b1, o1, none⟩) (sgC (s.A, s.B)), SlRes (some ⟨b2, o2, none⟩) (ptC p)] := hS; rw [cnt_none hx hnone] at h5; exact h5)⟩
       · intro h1
         have h1' : ¬ cmpQ 0 (-((s.A.v - p.v).x + (s.A.v - p.v).y) / ((s.B.v - s.A.v).x + (s.B.v - s.A.v).y)) ≤ 0 := of_decide_eq_false h1
         have hnone : partOf (((s.A.v - p.v).x + (s.A.v - p.v).y), ((s.B.v - s.A.v).x + (s.B.v - s.A.v).y)) = none := by unfold partOf; rw [if_neg h0, if_neg (fun h => h1' h.1)]
         conv => whnf
         exact ⟨(4, Z), Nat.le_of_ble_eq_true rfl, Nat.le_of_ble_eq_true rfl, SLe.id ⟨rfl, rfl, rfl, rfl, rfl, trivial⟩ ⟨⟨_, rfl, .refl _⟩, ⟨_, rfl, .refl _⟩, trivial⟩ (fun S hS => by have h5 : S ∈ R (cntP s.A.v s.B.v p.v 4) Z :: [SlRes (some ⟨b1, o1, none⟩) (sgC (s.A, s.B)), SlRes (some ⟨b2, o2, none⟩) (ptC p)] := hS; rw [cnt_none hx hnone] at h5; exact h5)⟩
   · conv => whnf
     exact .inl ⟨Z, by rw [← cnt_end]; exact List.mem_cons_self ..⟩
 case _ =>
   conv => whnf
   exact .inr ⟨Z0, List.mem_cons_self ..⟩
end Go.Sx
end
section
namespace Go.Sx
theorem cmpQ_lt {x y : Rat} : cmpQ x y < 0 ↔ x < y := by
 unfold cmpQ; split
 · simp [*]
 · split <;> simp [*]
theorem cmpQ_gt {x y : Rat} : cmpQ x y > 0 ↔ y < x := by
 unfold cmpQ; split
 · rename_i h; simp; grind
 · split <;> simp [*]
theorem cmpQ_le {x y : Rat} : cmpQ x y ≤ 0 ↔ x ≤ y := by
 unfold cmpQ; split
 · simp; grind
 · split <;> simp <;> grind
theorem cmpQ_ge {x y : Rat} : 0 ≤ cmpQ x y ↔ y ≤ x := by
 unfold cmpQ; split
 · simp; grind
 · split <;> simp <;> grind
theorem cmpQ_eq {x y : Rat} : cmpQ x y = 0 ↔ x = y := by
 unfold cmpQ; split
 · simp; grind
 · split <;> simp <;> grind
theorem cmpQ_one {x y : Rat} : cmpQ x y = 1 ↔ y < x := by
 unfold cmpQ; split
 · simp; grind
 · split <;> simp [*]
theorem sq_nonneg (x : Rat) : 0 ≤ x * x := by
 rcases Rat.le_total (a := 0) (b := x) with h | h
 · exact Rat.mul_nonneg h h
 · have : 0 ≤ (-x) * (-x) := Rat.mul_nonneg (by grind) (by grind)
   grind
theorem V.ext' {a b : V} (h1 : a.x = b.x) (h2 : a.y = b.y) : a = b := by cases a; cases b; simp_all
@[simp] theorem V.scale_x (a : V) (t : Rat) : (a.scale t).x = a.x * t := rfl
@[simp] theorem V.scale_y (a : V) (t : Rat) : (a.scale t).y = a.y * t := rfl
@[simp] theorem V.at_x (a b : V) (t : Rat) : (a.at b t).x = a.x + (b.x - a.x) * t := rfl
@[simp] theorem V.at_y (a b : V) (t : Rat) : (a.at b t).y = a.y + (b.y - a.y) * t := rfl
theorem V.dist_eq (a b : V) : a.dist b = (a.x - b.x) * (a.x - b.x) + (a.y - b.y) * (a.y - b.y) := rfl
theorem V.dist_nonneg (a b : V) : 0 ≤ a.dist b := by
 rw [V.dist_eq]; have h1 := sq_nonneg (a.x - b.x); have h2 := sq_nonneg (a.y - b.y); grind
theorem sq_zero {x : Rat} (h : x * x = 0) : x = 0 := by grind
theorem sum_sq_zero {x y : Rat} (h : x * x + y * y ≤ 0) : x = 0 ∧ y = 0 := by
 have h1 := sq_nonneg x; have h2 := sq_nonneg y
 exact ⟨sq_zero (by grind), sq_zero (by grind)⟩
theorem V.dist_zero {a b : V} (h : a.dist b ≤ 0) : a = b := by
 rw [V.dist_eq] at h
 obtain ⟨h1, h2⟩ := sum_sq_zero h
 exact V.ext' (by grind) (by grind)
theorem V.at_zero (a b : V) : a.at b 0 = a := V.ext' (by simp; grind) (by simp; grind)
theorem V.at_one (a b : V) : a.at b 1 = b := V.ext' (by simp; grind) (by simp; grind)
theorem dd_pos {a b : V} (h : a ≠ b) : 0 < (b - a).dot (b - a) := by
 have h1 := V.dist_nonneg b a
 have h2 : ¬ b.dist a ≤ 0 := fun h2 => h (V.dist_zero h2).symm
 show 0 < b.dist a
 grind
end Go.Sx
end
section
namespace Go.Sx
theorem extQ_le {m : Rat} : ∀ (l : List Rat) (x : Rat), extQ 1 x l ≤ m ↔ x ≤ m ∧ ∀ r ∈ l, r ≤ m
 | [], x => by simp [extQ]
 | r :: l, x => by
   simp only [extQ, cmpQ_one]
   rw [extQ_le l]
   simp only [List.mem_cons, forall_eq_or_imp]
   split
   · constructor
     · rintro ⟨h1, h2⟩; exact ⟨by grind, h1, h2⟩
     · rintro ⟨h1, h2, h3⟩; exact ⟨h2, h3⟩
   · constructor
     · rintro ⟨h1, h2⟩; exact ⟨h1, by grind, h2⟩
     · rintro ⟨h1, h2, h3⟩; exact ⟨h1, h3⟩
theorem sq_le {a b : V} {m : Rat} : a.sq b ≤ m ↔ (a.x - b.x ≤ m ∧ b.x - a.x ≤ m) ∧ (a.y - b.y ≤ m ∧ b.y - a.y ≤ m) := by
 unfold V.sq
 rw [extQ_le]
 simp only [List.mem_cons, List.not_mem_nil, or_false, forall_eq_or_imp, forall_eq, V.sub_x, V.sub_y]
 constructor
 · rintro ⟨h1, h2, h3, h4⟩; exact ⟨⟨h1, by grind⟩, h3, by grind⟩
 · rintro ⟨⟨h1, h2⟩, h3, h4⟩; exact ⟨h1, by grind, h3, by grind⟩
theorem sq_ge (a b : V) : (a.x - b.x ≤ a.sq b ∧ b.x - a.x ≤ a.sq b) ∧ (a.y - b.y ≤ a.sq b ∧ b.y - a.y ≤ a.sq b) := sq_le.1 Rat.le_refl
theorem sq_comm (a b : V) : a.sq b = b.sq a := by
 refine Rat.le_antisymm ?_ ?_
 · have := sq_ge b a; exact sq_le.2 (by grind)
 · have := sq_ge a b; exact sq_le.2 (by grind)
theorem sq_nn (a b : V) : 0 ≤ a.sq b := by have := sq_ge a b; grind
theorem parts_unit {A B p : V} {c : Rat} (h : c ∈ partsL A B p) : 0 ≤ c ∧ c ≤ 1 := by
 unfold partsL at h
 rcases List.mem_cons.1 h with rfl | h
 · grind
 rcases List.mem_cons.1 h with rfl | h
 · grind
 obtain ⟨x, _, hx⟩ := List.mem_filterMap.1 h
 unfold partOf at hx
 split at hx
 · cases hx
 · split at hx
   · rename_i h2
     obtain ⟨h3, h4⟩ := h2
     rw [cmpQ_le] at h3 h4
     cases hx
     exact ⟨h3, h4⟩
   · cases hx
theorem part_of {A B p : V} {x : Rat × Rat} (hx : x ∈ partPs A B p) {z : Rat} (hz : x.1 + x.2 * z = 0) (h2 : x.2 ≠ 0) (h0 : 0 ≤ z) (h1 : z ≤ 1) : z ∈ partsL A B p := by
 have e : z = -x.1 / x.2 := by
   have : -x.1 = z * x.2 := by grind
   rw [this, Rat.mul_div_cancel h2]
 refine List.mem_cons_of_mem _ (List.mem_cons_of_mem _ (List.mem_filterMap.2 ⟨x, hx, ?_⟩))
 unfold partOf
 rw [if_neg h2, if_pos (by rw [cmpQ_le, cmpQ_le, ← e]; exact ⟨h0, h1⟩), ← e]
theorem exists_below {l : List Rat} {t : Rat} (h : ∃ c ∈ l, c ≤ t) : ∃ c ∈ l, c ≤ t ∧ ∀ d ∈ l, d ≤ t → d ≤ c := by
 induction l with
 | nil => obtain ⟨c, hc, _⟩ := h; cases hc
 | cons x r ih =>
   by_cases hr : ∃ c ∈ r, c ≤ t
   · obtain ⟨c, hc, hct, hmax⟩ := ih hr
     by_cases hx : x ≤ t ∧ c ≤ x
     · refine ⟨x, List.mem_cons_self .., hx.1, fun d hd hdt => ?_⟩
       rcases List.mem_cons.1 hd with rfl | hd
       · exact Rat.le_refl
       · exact Rat.le_trans (hmax d hd hdt) hx.2
     · refine ⟨c, List.mem_cons_of_mem _ hc, hct, fun d hd hdt => ?_⟩
       rcases List.mem_cons.1 hd with rfl | hd
       · rcases Rat.le_total (a := d) (b := c) with h' | h'
         · exact h'
         · exact absurd ⟨hdt, h'⟩ hx
       · exact hmax d hd hdt
   · obtain ⟨c, hc, hct⟩ := h
     rcases List.mem_cons.1 hc with rfl | hc
     · refine ⟨c, List.mem_cons_self .., hct, fun d hd hdt => ?_⟩
       rcases List.mem_cons.1 hd with rfl | hd
       · exact Rat.le_refl
       · exact absurd ⟨d, hd, hdt⟩ hr
     · exact absurd ⟨c, hc, hct⟩ hr
theorem exists_above {l : List Rat} {t : Rat} (h : ∃ c ∈ l, t ≤ c) : ∃ c ∈ l, t ≤ c ∧ ∀ d ∈ l, t ≤ d → c ≤ d := by
 have h' : ∃ c ∈ l.map (fun x => -x), c ≤ -t := by
   obtain ⟨c, hc, hct⟩ := h
   exact ⟨-c, List.mem_map_of_mem hc, by grind⟩
 obtain ⟨c, hc, hct, hmax⟩ := exists_below h'
 obtain ⟨d, hd, rfl⟩ := List.mem_map.1 hc
 refine ⟨d, hd, by grind, fun e he hte => ?_⟩
 have := hmax (-e) (List.mem_map_of_mem he) (by grind)
 grind
theorem line_sign {u v l r : Rat} (hlr : l ≤ r) (h : ∀ z, u + v * z = 0 → v ≠ 0 → l < z → z < r → False) : 0 ≤ (u + v * l) * (u + v * r) := by
 rcases Rat.le_total (a := 0) (b := (u + v * l) * (u + v * r)) with h1 | h1
 · exact h1
 by_cases hv : v = 0
 · subst hv; have := sq_nonneg u; grind
 have hz : u + v * (-u / v) = 0 := by
   have : v * (-u / v) = -u := by rw [Rat.mul_comm, Rat.div_mul_cancel hv]
   rw [this]; grind
 generalize hze : -u / v = z at hz
 have e : (u + v * l) * (u + v * r) = v * v * ((z - l) * (z - r)) := by
   have : u = -(v * z) := by grind
   rw [this]; grind
 by_cases hlz : l < z
 · by_cases hzr : z < r
   · exact (h z hz hv hlz hzr).elim
   · rw [e]; exact Rat.mul_nonneg (sq_nonneg v) (Rat.mul_nonneg (by grind) (by grind))
 · rw [e]
   have := Rat.mul_nonneg (sq_nonneg v) (Rat.mul_nonneg (show 0 ≤ l - z by grind) (show 0 ≤ r - z by grind))
   grind
end Go.Sx
end
section
namespace Go.Sx
theorem mul_nn_cases {u v : Rat} (h : 0 ≤ u * v) : (0 ≤ u ∧ 0 ≤ v) ∨ (u ≤ 0 ∧ v ≤ 0) := by
 rcases Rat.le_total (a := 0) (b := u) with h1 | h1 <;> rcases Rat.le_total (a := 0) (b := v) with h2 | h2
 · exact .inl ⟨h1, h2⟩
 · by_cases hu : u = 0
   · right; exact ⟨by grind, h2⟩
   · by_cases hv : v = 0
     · left; exact ⟨h1, by grind⟩
     · have := Rat.mul_pos (show 0 < u by grind) (show 0 < -v by grind); grind
 · by_cases hu : u = 0
   · left; exact ⟨by grind, h2⟩
   · by_cases hv : v = 0
     · right; exact ⟨h1, by grind⟩
     · have := Rat.mul_pos (show 0 < -u by grind) (show 0 < v by grind); grind
 · exact .inr ⟨h1, h2⟩
theorem pick_end {l r t m u v : Rat} {P Q : Prop} (hl : l ≤ t) (hr : t ≤ r) (hg : u + v * t ≤ m) (h1 : u + v * l ≤ m → P) (h2 : u + v * r ≤ m → Q) : P ∨ Q := by
 rcases Rat.le_total (a := 0) (b := v) with h | h
 · left; apply h1
   have := Rat.mul_nonneg h (show 0 ≤ t - l by grind); grind
 · right; apply h2
   have := Rat.mul_nonneg (show 0 ≤ -v by grind) (show 0 ≤ r - t by grind); grind
theorem line_four {a b u v l r t m : Rat} (hl : l ≤ t) (hr : t ≤ r) (s1 : 0 ≤ (a + u * l) * (a + u * r)) (s2 : 0 ≤ (b + v * l) * (b + v * r)) (s3 : 0 ≤ ((a - b) + (u - v) * l) * ((a - b) + (u - v) * r))
   (s4 : 0 ≤ ((a + b) + (u + v) * l) * ((a + b) + (u + v) * r)) (m1 : a + u * t ≤ m) (m2 : -(a + u * t) ≤ m) (m3 : b + v * t ≤ m) (m4 : -(b + v * t) ≤ m) :
   ((a + u * l ≤ m ∧ -(a + u * l) ≤ m) ∧ b + v * l ≤ m ∧ -(b + v * l) ≤ m) ∨ ((a + u * r ≤ m ∧ -(a + u * r) ≤ m) ∧ b + v * r ≤ m ∧ -(b + v * r) ≤ m) := by
 have n2 : -a + (-u) * t ≤ m := by grind
 have n4 : -b + (-v) * t ≤ m := by grind
 rcases mul_nn_cases s1 with ⟨x1, x2⟩ | ⟨x1, x2⟩ <;> rcases mul_nn_cases s2 with ⟨y1, y2⟩ | ⟨y1, y2⟩
 · rcases mul_nn_cases s3 with ⟨d1, d2⟩ | ⟨d1, d2⟩
   · exact pick_end hl hr m1 (fun h => ⟨⟨h, by grind⟩, by grind, by grind⟩) (fun h => ⟨⟨h, by grind⟩, by grind, by grind⟩)
   · exact pick_end hl hr m3 (fun h => ⟨⟨by grind, by grind⟩, h, by grind⟩) (fun h => ⟨⟨by grind, by grind⟩, h, by grind⟩)
 · rcases mul_nn_cases s4 with ⟨d1, d2⟩ | ⟨d1, d2⟩
   · exact pick_end hl hr m1 (fun h => ⟨⟨h, by grind⟩, by grind, by grind⟩) (fun h => ⟨⟨h, by grind⟩, by grind, by grind⟩)
   · exact pick_end hl hr n4 (fun h => ⟨⟨by grind, by grind⟩, by grind, by grind⟩) (fun h => ⟨⟨by grind, by grind⟩, by grind, by grind⟩)
 · rcases mul_nn_cases s4 with ⟨d1, d2⟩ | ⟨d1, d2⟩
   · exact pick_end hl hr m3 (fun h => ⟨⟨by grind, by grind⟩, h, by grind⟩) (fun h => ⟨⟨by grind, by grind⟩, h, by grind⟩)
   · exact pick_end hl hr n2 (fun h => ⟨⟨by grind, by grind⟩, by grind, by grind⟩) (fun h => ⟨⟨by grind, by grind⟩, by grind, by grind⟩)
 · rcases mul_nn_cases s3 with ⟨d1, d2⟩ | ⟨d1, d2⟩
   · exact pick_end hl hr n4 (fun h => ⟨⟨by grind, by grind⟩, by grind, by grind⟩) (fun h => ⟨⟨by grind, by grind⟩, by grind, by grind⟩)
   · exact pick_end hl hr n2 (fun h => ⟨⟨by grind, by grind⟩, by grind, by grind⟩) (fun h => ⟨⟨by grind, by grind⟩, by grind, by grind⟩)
theorem lin1 {a b p z m : Rat} (h : (a - p) + (b - a) * z ≤ m) : a + (b - a) * z - p ≤ m := by grind
theorem lin2 {a b p z m : Rat} (h : -((a - p) + (b - a) * z) ≤ m) : p - (a + (b - a) * z) ≤ m := by grind
theorem lin3 {a b p z m : Rat} (h : a + (b - a) * z - p ≤ m) : (a - p) + (b - a) * z ≤ m := by grind
theorem lin4 {a b p z m : Rat} (h : p - (a + (b - a) * z) ≤ m) : -((a - p) + (b - a) * z) ≤ m := by grind
theorem parts_min {A B p : V} {t : Rat} (h0 : 0 ≤ t) (h1 : t ≤ 1) : ∃ c ∈ partsL A B p, (A.at B c).sq p ≤ (A.at B t).sq p := by
 obtain ⟨l, hl, hlt, hlm⟩ := exists_below (l := partsL A B p) (t := t) ⟨0, List.mem_cons_self .., h0⟩
 obtain ⟨r, hr, htr, hrm⟩ := exists_above (l := partsL A B p) (t := t) ⟨1, List.mem_cons_of_mem _ (List.mem_cons_self ..), h1⟩
 obtain ⟨hl0, hl1⟩ := parts_unit hl
 obtain ⟨hr0, hr1⟩ := parts_unit hr
 have sg : ∀ x ∈ partPs A B p, 0 ≤ (x.1 + x.2 * l) * (x.1 + x.2 * r) := fun x hx => line_sign (Rat.le_trans hlt htr) (fun z hz hv h2 h3 => by
   have hc := part_of hx hz hv (by grind) (by grind)
   rcases Rat.le_total (a := z) (b := t) with h | h
   · have := hlm z hc h; grind
   · have := hrm z hc h; grind)
 have s1 := sg _ (List.mem_cons_self ..)
 have s2 := sg _ (List.mem_cons_of_mem _ (List.mem_cons_self ..))
 have s3 := sg _ (List.mem_cons_of_mem _ (List.mem_cons_of_mem _ (List.mem_cons_self ..)))
 have s4 := sg _ (List.mem_cons_of_mem _ (List.mem_cons_of_mem _ (List.mem_cons_of_mem _ (List.mem_cons_self ..))))
 simp only [V.sub_x, V.sub_y] at s1 s2 s3 s4
 generalize hm : (A.at B t).sq p = m
 obtain ⟨⟨m1, m2⟩, m3, m4⟩ := sq_ge (A.at B t) p
 rw [hm] at m1 m2 m3 m4
 simp only [V.at_x, V.at_y] at m1 m2 m3 m4
 have fin : (A.at B l).sq p ≤ m ∨ (A.at B r).sq p ≤ m := by
   have := line_four hlt htr s1 s2 s3 s4 (m := m) (lin3 m1) (lin4 m2) (lin3 m3) (lin4 m4)
   rw [sq_le, sq_le]
   simp only [V.at_x, V.at_y]
   rcases this with ⟨⟨h1, h2⟩, h3, h4⟩ | ⟨⟨h1, h2⟩, h3, h4⟩
   · left; exact ⟨⟨lin1 h1, lin2 h2⟩, lin1 h3, lin2 h4⟩
   · right; exact ⟨⟨lin1 h1, lin2 h2⟩, lin1 h3, lin2 h4⟩
 rcases fin with h | h
 · exact ⟨l, hl, h⟩
 · exact ⟨r, hr, h⟩
def better (p b q : V) : V := if cmpQ (p.sq q) (p.sq b) < 0 then q else b
def bestV (p : V) (b : V) (l : List V) : V := l.foldl (better p) b
theorem bestV_nil (p b : V) : bestV p b [] = b := rfl
theorem bestV_cons (p b x : V) (l : List V) : bestV p b (x :: l) = bestV p (if p.sq x < p.sq b then x else b) l := by
 show bestV p (better p b x) l = _
 unfold better
 simp only [cmpQ_lt]
theorem bestV_le (p : V) (l : List V) : ∀ b : V, p.sq (bestV p b l) ≤ p.sq b ∧ ∀ q ∈ l, p.sq (bestV p b l) ≤ p.sq q := by
 induction l with
 | nil =>
   intro b
   rw [bestV_nil]
   exact ⟨Rat.le_refl, fun q hq => absurd hq List.not_mem_nil⟩
 | cons x l ih =>
   intro b
   rw [bestV_cons]
   obtain ⟨h1, h2⟩ := ih (if p.sq x < p.sq b then x else b)
   by_cases h : p.sq x < p.sq b
   · rw [if_pos h] at h1 h2 ⊢
     exact ⟨Rat.le_trans h1 (Rat.le_of_lt h), fun q hq => by rcases List.mem_cons.1 hq with rfl | hq; exact h1; exact h2 q hq⟩
   · rw [if_neg h] at h1 h2 ⊢
     exact ⟨h1, fun q hq => by rcases List.mem_cons.1 hq with rfl | hq; exact Rat.le_trans h1 (Rat.not_lt.1 h); exact h2 q hq⟩
theorem bestV_mem (p : V) (l : List V) : ∀ b : V, bestV p b l ∈ b :: l := by
 induction l with
 | nil => intro b; rw [bestV_nil]; exact List.mem_cons_self ..
 | cons x l ih =>
   intro b
   rw [bestV_cons]
   have := ih (if p.sq x < p.sq b then x else b)
   by_cases h : p.sq x < p.sq b
   · rw [if_pos h] at this ⊢; exact List.mem_cons_of_mem _ this
   · rw [if_neg h] at this ⊢
     rcases List.mem_cons.1 this with h | h
     · rw [h]; exact List.mem_cons_self ..
     · exact List.mem_cons_of_mem _ (List.mem_cons_of_mem _ h)
def sqPt (A B p : V) : Rat := p.sq (bestV p A ((partsL A B p).map (A.at B)))
theorem sqPt_le {A B p : V} {t : Rat} (h0 : 0 ≤ t) (h1 : t ≤ 1) : sqPt A B p ≤ (A.at B t).sq p := by
 obtain ⟨c, hc, hle⟩ := parts_min (A := A) (B := B) (p := p) h0 h1
 refine Rat.le_trans ((bestV_le p _ A).2 _ (List.mem_map_of_mem hc)) ?_
 rw [sq_comm p]; exact hle
theorem sqPt_at (A B p : V) : ∃ t, (0 ≤ t ∧ t ≤ 1) ∧ sqPt A B p = (A.at B t).sq p := by
 unfold sqPt
 rcases List.mem_cons.1 (bestV_mem p ((partsL A B p).map (A.at B)) A) with h | h
 · exact ⟨0, by grind, by rw [h, V.at_zero, sq_comm]⟩
 · obtain ⟨c, hc, he⟩ := List.mem_map.1 h
   exact ⟨c, parts_unit hc, by rw [← he, sq_comm]⟩
def euPt (A B p : V) : Rat := p.dist (nearV A B p)
theorem cmpV_zero {a b : V} : cmpV a b = 0 ↔ a = b := by
 unfold cmpV
 constructor
 · intro h
   split at h
   · rename_i h2; exact absurd h h2
   · rename_i h2
     rw [Decidable.not_not, cmpQ_eq] at h2; rw [cmpQ_eq] at h
     exact V.ext' h2 h
 · rintro rfl
   have : ∀ x : Rat, cmpQ x x = 0 := fun x => cmpQ_eq.2 rfl
   rw [this, this]; rfl
theorem betw_at {a b p : V} (hab : a ≠ b) (h : betwB a b p = true) : ∃ t, (0 ≤ t ∧ t ≤ 1) ∧ p = a.at b t := by
 unfold betwB at h
 simp only [Bool.and_eq_true, decide_eq_true_eq, cmpQ_eq] at h
 obtain ⟨hc, hm, _⟩ := h
 simp only [V.cross, V.sub_x, V.sub_y] at hc
 have sgn : ∀ x y : Rat, (cmpQ x y = -1 ∧ x < y) ∨ (cmpQ x y = 0 ∧ x = y) ∨ (cmpQ x y = 1 ∧ y < x) := by
   intro x y; unfold cmpQ; split
   · exact .inl ⟨rfl, by assumption⟩
   · split
     · exact .inr (.inr ⟨rfl, by assumption⟩)
     · exact .inr (.inl ⟨rfl, by grind⟩)
 have div_unit : ∀ u v : Rat, v ≠ 0 → (0 ≤ u ∧ u ≤ v ∨ v ≤ u ∧ u ≤ 0) → 0 ≤ u / v ∧ u / v ≤ 1 := by
   intro u v hv h
   have e : u / v * v = u := Rat.div_mul_cancel hv
   generalize u / v = q at e ⊢
   constructor
   · rcases Rat.le_total (a := 0) (b := q) with h1 | h1
     · exact h1
     · rcases h with ⟨h2, h3⟩ | ⟨h2, h3⟩
       · by_cases hq : q = 0
         · grind
         · have := Rat.mul_pos (show 0 < -q by grind) (show 0 < v by grind); grind
       · by_cases hq : q = 0
         · grind
         · have := Rat.mul_pos (show 0 < -q by grind) (show 0 < -v by grind); grind
   · rcases Rat.le_total (a := q) (b := 1) with h1 | h1
     · exact h1
     · rcases h with ⟨h2, h3⟩ | ⟨h2, h3⟩
       · have := Rat.mul_nonneg (show 0 ≤ q - 1 by grind) (show 0 ≤ v by grind)
         have : (q - 1) * v = 0 := by grind
         by_cases hq : q = 1
         · grind
         · have := Rat.mul_pos (show 0 < q - 1 by grind) (show 0 < v by grind); grind
       · by_cases hq : q = 1
         · grind
         · have := Rat.mul_pos (show 0 < q - 1 by grind) (show 0 < -v by grind); grind
 by_cases hx : a.x = b.x
 · have hy : a.y ≠ b.y := fun h => hab (V.ext' hx h)
   have hpx : p.x = a.x := by
     have : (b.y - a.y) * (p.x - a.x) = 0 := by grind
     rcases Rat.mul_eq_zero.1 this with h | h <;> grind
   have hu : 0 ≤ p.y - a.y ∧ p.y - a.y ≤ b.y - a.y ∨ b.y - a.y ≤ p.y - a.y ∧ p.y - a.y ≤ 0 := by
     have e1 : cmpV a p = cmpQ a.y p.y := by unfold cmpV; rw [if_neg (by rw [Decidable.not_not, cmpQ_eq]; grind)]
     have e2 : cmpV p b = cmpQ p.y b.y := by unfold cmpV; rw [if_neg (by rw [Decidable.not_not, cmpQ_eq]; grind)]
     rw [e1, e2] at hm
     rcases sgn a.y p.y with ⟨h1, h2⟩ | ⟨h1, h2⟩ | ⟨h1, h2⟩ <;> rcases sgn p.y b.y with ⟨h3, h4⟩ | ⟨h3, h4⟩ | ⟨h3, h4⟩ <;> rw [h1, h3] at hm <;> first | (exfalso; revert hm; decide) | grind
   obtain ⟨h1, h2⟩ := div_unit _ _ (show b.y - a.y ≠ 0 by grind) hu
   refine ⟨_, ⟨h1, h2⟩, V.ext' ?_ ?_⟩
   · simp only [V.at_x]; grind
   · simp only [V.at_y]
     have : (b.y - a.y) * ((p.y - a.y) / (b.y - a.y)) = p.y - a.y := by rw [Rat.mul_comm, Rat.div_mul_cancel (by grind)]
     grind
 · have hu : 0 ≤ p.x - a.x ∧ p.x - a.x ≤ b.x - a.x ∨ b.x - a.x ≤ p.x - a.x ∧ p.x - a.x ≤ 0 := by
     have key : ∀ u v : V, (cmpV u v = -1 ∧ u.x ≤ v.x) ∨ cmpV u v = 0 ∧ u.x = v.x ∨ cmpV u v = 1 ∧ v.x ≤ u.x := by
       intro u v; unfold cmpV
       rcases sgn u.x v.x with ⟨h1, h2⟩ | ⟨h1, h2⟩ | ⟨h1, h2⟩
       · rw [h1]; exact .inl ⟨rfl, by grind⟩
       · rw [h1]
         rcases sgn u.y v.y with ⟨h3, h4⟩ | ⟨h3, h4⟩ | ⟨h3, h4⟩
         · exact .inl ⟨h3, by grind⟩
         · exact .inr (.inl ⟨h3, h2⟩)
         · exact .inr (.inr ⟨h3, by grind⟩)
       · rw [h1]; exact .inr (.inr ⟨rfl, by grind⟩)
     rcases key a p with ⟨h1, h2⟩ | ⟨h1, h2⟩ | ⟨h1, h2⟩ <;> rcases key p b with ⟨h3, h4⟩ | ⟨h3, h4⟩ | ⟨h3, h4⟩ <;> rw [h1, h3] at hm <;> first | (exfalso; revert hm; decide) | grind
   obtain ⟨h1, h2⟩ := div_unit _ _ (show b.x - a.x ≠ 0 by grind) hu
   have e : (b.x - a.x) * ((p.x - a.x) / (b.x - a.x)) = p.x - a.x := by rw [Rat.mul_comm, Rat.div_mul_cancel (by grind)]
   refine ⟨_, ⟨h1, h2⟩, V.ext' ?_ ?_⟩
   · simp only [V.at_x]; grind
   · simp only [V.at_y]
     generalize (p.x - a.x) / (b.x - a.x) = q at e
     have : (b.x - a.x) * (p.y - a.y - (b.y - a.y) * q) = 0 := by grind
     rcases Rat.mul_eq_zero.1 this with h | h <;> grind
end Go.Sx
end
section
set_option maxRecDepth 10000
set_option maxHeartbeats 2000000
namespace Go.Sx
open Go Go.Proofs
theorem cmpQ_self (x : Rat) : cmpQ x x = 0 := cmpQ_eq.2 rfl
theorem cmpQ_neg {x y : Rat} : cmpQ x y < 0 ↔ cmpQ x y = -1 := by
 unfold cmpQ
 split
 · simp
 · split <;> simp
theorem c_least (A : Option Addr) (c : Nat) (l0 : Raw) (l : List Raw) (hl : (l0 :: l).length ≤ 1000000) (hc : (l0 :: l).length ≤ c) (hs : ∀ r ∈ l0 :: l, r.sm KK) :
   FnM PP f_distance_least [.slice A (l0 :: l).length c] (facts [SlRes A (rowV ratC (l0 :: l))]) (retsV (rawV (extR (-1) l0 l))) := by
 refine FnS.of TBgood mixed h_distance_least rfl rfl (Nat.le_of_ble_eq_true rfl) (by simp [SlRes.ok]) ?_
 intro w hw
 have hA : A.isSome = true := slres_some (facts_one hw) (by rw [rowV_length ratC_len]; simp)
 obtain ⟨ls, hls⟩ : ∃ ls, ls = l0 :: l := ⟨_, rfl⟩
 obtain ⟨n, hn⟩ : ∃ n, n = ls.length := ⟨_, rfl⟩
 have h0 : ls[0]? = some l0 := by rw [hls]; rfl
 have hpos : 0 < n := by rw [hn, hls]; simp
 have hres : extR (-1) l0 l = extR (-1) l0 ls := by rw [hls, extR, if_neg (by rw [cmpQ_self]; decide)]
 rw [hres]
 rw [← hls, ← hn] at hl hc ⊢
 rw [← hls] at hs
 conv => whnf
 refine ⟨⟨by decide, by omega, hA⟩, ?_⟩
 conv => whnf
 refine LoadVC.elem ratC ratC_len (List.mem_singleton.2 rfl) rfl (by rw [← hn]; exact hpos) (by decide) (fun h => by cases h) ?_
 intro x hx
 obtain rfl : x = l0 := by rw [show (0 : Int).toNat = 0 from rfl, h0] at hx; exact (Option.some.inj hx).symm
 conv => whnf
 refine sexec_loop (ι := Nat × Raw) (fun ⟨i, out⟩ => ⟨[(2, .o (.p 2 0)), (3, .o (.p 3 0)), (9, .o (.v (.slice A n c))), (10, .o (.v (.int .i64 n))), (11, .o (.v (.int .i64 i)))], [(2, ratM R0), (3, ratM out)], [SlRes A (rowV ratC ls)]⟩)
   (fun ⟨i, out⟩ => i ≤ n ∧ out.sm KK ∧ extR (-1) x ls = extR (-1) out (ls.drop i)) (fun ⟨i, out⟩ => n - i) (0, x) ⟨Nat.zero_le _, hs x (List.mem_of_getElem? h0), by rw [List.drop_zero]⟩
   (SLe.id ⟨rfl, rfl, rfl, rfl, rfl, trivial⟩ ⟨⟨_, rfl, .refl _⟩, ⟨_, rfl, .refl _⟩, trivial⟩ (fun R hR => hR)) ?_
 rintro ⟨i, out⟩ ⟨hi, ho, hext⟩
 conv => whnf
 refine br_split ?_ ?_
 · intro h
   have hi2 : i < n := by
     have : (i : Int) < (n : Int) := of_decide_eq_true h
     omega
   conv => whnf
   refine ⟨⟨by omega, by omega, hA⟩, ?_⟩
   conv => whnf
   obtain ⟨y, hy⟩ : ∃ y, ls[i]? = some y := ⟨_, List.getElem?_eq_getElem (by omega)⟩
   have hys : y.sm KK := hs y (List.mem_of_getElem? hy)
   refine LoadVC.elem (A := A) (xs := ls) (j := (i : Int)) ratC ratC_len (List.mem_singleton.2 rfl) rfl (by rw [Int.toNat_natCast]; omega) (by decide) (fun h => by cases h) ?_
   intro y' hy'
   obtain rfl := elem_eq hy' hy
   conv => whnf
   refine CallVC.fn (c_rCompare y' out hys ho) rfl ?_
   have hdrop : ls.drop i = y' :: ls.drop (i + 1) := by
     obtain ⟨h1, h2⟩ := List.getElem?_eq_some_iff.1 hy
     rw [← h2]; exact List.drop_eq_getElem_cons h1
   have hstep : extR (-1) x ls = extR (-1) (if cmpQ y'.v out.v = -1 then y' else out) (ls.drop (i + 1)) := by rw [hext, hdrop]; rfl
   conv => whnf
   refine br_split ?_ ?_
   · intro h2
     have h3 : cmpQ y'.v out.v = -1 := cmpQ_neg.1 (of_decide_eq_true h2)
     rw [if_pos h3] at hstep
     conv => whnf
     exact ⟨(i + 1, y'), ⟨by omega, hys, hstep⟩, by show n - (i + 1) < n - i; omega, SLe.id ⟨rfl, rfl, rfl, rfl, some_wrap hi2 (by omega), trivial⟩ ⟨⟨_, rfl, .refl _⟩, ⟨_, rfl, .refl _⟩, trivial⟩ (fun R hR => hR)⟩
   · intro h2
     have h3 : ¬ cmpQ y'.v out.v = -1 := fun h => of_decide_eq_false h2 (cmpQ_neg.2 h)
     rw [if_neg h3] at hstep
     conv => whnf
     exact ⟨(i + 1, out), ⟨by omega, ho, hstep⟩, by show n - (i + 1) < n - i; omega, SLe.id ⟨rfl, rfl, rfl, rfl, some_wrap hi2 (by omega), trivial⟩ ⟨⟨_, rfl, .refl _⟩, ⟨_, rfl, .refl _⟩, trivial⟩ (fun R hR => hR)⟩
 · intro h
   have hi2 : i = n := by
     have : ¬ (i : Int) < (n : Int) := of_decide_eq_false h
     omega
   rw [hi2, hn, List.drop_length] at hext
   conv => whnf
   refine postV_one ?_
   rw [hext]; rfl
theorem betterP (p q b : V) : better p b q = if cmpQ (p.sq q) (p.sq b) < 0 then q else b := rfl
theorem part_sz {k : Nat} {A B p : V} (hA : SzV k A) (hB : SzV k B) (hp : SzV k p) {t : Rat} (h : t ∈ partsL A B p) : Sz (9 * k + 9) t := by
 have za := hA.sub hp
 have zd := hB.sub hA
 have one : ∀ {x y : Rat}, Sz (4 * k + 3) x → Sz (4 * k + 3) y → Sz (9 * k + 9) (-x / y) := fun hx hy => (hx.neg.div hy).le (by omega)
 rcases List.mem_cons.1 h with rfl | h
 · exact ⟨by show 0 < _; exact Nat.pow_pos (by decide), by show 1 < _; exact Nat.one_lt_pow (by omega) (by decide)⟩
 rcases List.mem_cons.1 h with rfl | h
 · exact ⟨by show 1 < _; exact Nat.one_lt_pow (by omega) (by decide), by show 1 < _; exact Nat.one_lt_pow (by omega) (by decide)⟩
 obtain ⟨x, hx, hf⟩ := List.mem_filterMap.1 h
 have hx2 : Sz (4 * k + 3) x.1 ∧ Sz (4 * k + 3) x.2 := by
   simp only [partPs, List.mem_cons, List.not_mem_nil, or_false] at hx
   rcases hx with rfl | rfl | rfl | rfl
   · exact ⟨za.1.le (by omega), zd.1.le (by omega)⟩
   · exact ⟨za.2.le (by omega), zd.2.le (by omega)⟩
   · exact ⟨(za.1.sub za.2).le (by omega), (zd.1.sub zd.2).le (by omega)⟩
   · exact ⟨(za.1.add za.2).le (by omega), (zd.1.add zd.2).le (by omega)⟩
 unfold partOf at hf
 split at hf
 · cases hf
 · split at hf
   · cases hf; exact one hx2.1 hx2.2
   · cases hf
theorem at_szK {A B : V} {t : Rat} (hA : SzV KS A) (hB : SzV KS B) (ht : Sz (9 * KS + 9) t) : SzV 200000 (A.at B t) := (hA.at hB ht).le (by decide)
theorem bestPt_sz {A B p : V} (hA : SzV KS A) (hB : SzV KS B) (hp : SzV KS p) (i : Nat) : SzV 200000 (bestV p A (((partsL A B p).take i).map (A.at B))) := by
 rcases List.mem_cons.1 (bestV_mem p (((partsL A B p).take i).map (A.at B)) A) with h | h
 · rw [h]; exact hA.le (by decide)
 · obtain ⟨t, ht, h⟩ := List.mem_map.1 h
   rw [← h]; exact at_szK hA hB (part_sz hA hB hp (List.mem_of_mem_take ht))
theorem Fn.ofF {P : Program} {f : FuncId} {vs : List Value} {r : Value} (h : FnM P f vs (facts []) (retsV r)) : Fn P f vs r := ⟨h.enters, fun w _ => h.calls w (fun R hR => by cases hR)⟩
theorem bestV_snoc (p b x : V) (l : List V) : bestV p b (l ++ [x]) = better p (bestV p b l) x := by unfold bestV; rw [List.foldl_append]; rfl
theorem partXs_get {A B p : V} {i : Nat} (h : i < (partXs A B p).length) : ∃ t, (partsL A B p)[i]? = some t ∧ (partXs A B p).getD i [] = [qV t] ∧ (partsL A B p).take (i + 1) = (partsL A B p).take i ++ [t] := by
 rw [List.length_map] at h
 refine ⟨(partsL A B p)[i], List.getElem?_eq_getElem h, getD_of (by rw [List.getElem?_map, List.getElem?_eq_getElem h]; rfl), ?_⟩
 rw [List.take_add_one, List.getElem?_eq_getElem h]; rfl
abbrev sgB (s : Sg) : ME := .box (sgM (s.A, s.B)) t_api_Segment
abbrev ptB (p : Pt) : ME := .box (ptM p) t_api_Point
theorem c_square1 (s : Sg) (p : Pt) (hs : s.sm KS) (hp : p.sm KS) (hso : s.A.ok) : Fn PP f_distance_square_1 [sV s, pV p] (pV (PQ (bestV p.v s.A.v ((partsL s.A.v s.B.v p.v).map (s.A.v.at s.B.v))))) := by
 obtain ⟨hA, hB⟩ := hs
 have zA := hA.sz (by decide)
 have zB := hB.sz (by decide)
 have zp := hp.sz (by decide)
 obtain ⟨bst, hbst⟩ : ∃ bst : Nat → V, bst = fun i => bestV p.v s.A.v (((partsL s.A.v s.B.v p.v).take i).map (s.A.v.at s.B.v)) := ⟨_, rfl⟩
 have hb0 : PQ (bst 0) = s.A := by rw [hbst]; exact (Pt.ok_eq hso).symm
 have hbz : ∀ i, SzV 200000 (bst i) := fun i => by rw [hbst]; exact bestPt_sz zA zB zp i
 refine Fn.ofF (FnM.ofS TBgood mixed h_distance_square_1 rfl rfl (Nat.le_of_ble_eq_true rfl) (by simp) (fun w l st E w' hp hm => postV_ok hp hm) ?_)
 intro w hw
 refine WPS.peel TBgood mixed ?_
 conv => whnf
 refine WPS.peel TBgood mixed ?_
 conv => whnf
 refine WPS.seq ?_
 refine WPS.seq ?_
 refine WPS.of TBgood mixed ?_
 conv => whnf
 refine CallVC.f2 (c_parts s p).enters (CallV.facts (c_parts s p) rfl (by simp)) (fun a1 a2 => ?_)
 conv => whnf
 refine WPS.block ?_
 refine WPS.range TBgood mixed rfl rfl (c_parts1 a1 a2 s p ⟨hA, hB⟩ hp) (fun S hS => hS) 4 [(2, .o (.p 30 0)), (3, .o (.p 31 0)), (4, .o (.p 32 0)), (5, .o (.p 33 0))]
   (fun i (_ : Unit) => [(30, sgB s), (31, ptB p), (32, ptB P0), (33, ptB (PQ (bst i)))])
   (fun i _ => True) () trivial (SLe.mk (fun k => bif Nat.beq k 30 then 2 else bif Nat.beq k 31 then 3 else bif Nat.beq k 32 then 4 else bif Nat.beq k 33 then 5 else k) ⟨rfl, rfl, rfl, rfl, trivial⟩ ⟨⟨_, rfl, .refl _⟩, ⟨_, rfl, .refl _⟩, ⟨_, rfl, .refl _⟩, ⟨_, rfl, by rw [hb0]; exact .refl _⟩, trivial⟩ rfl (fun R hR => hR)) rfl
   (fun i j _ => ⟨rfl, rfl⟩) rfl (fun x hx => by obtain ⟨e, _, rfl⟩ := List.mem_map.1 hx; rfl) rfl ?_ ?_
 · rintro W1 X i _ Rx hi _
   obtain ⟨t, ht, hx, htake⟩ := partXs_get hi
   rw [hx]
   have htz := part_sz zA zB zp (List.mem_of_getElem? ht)
   have hnext : bst (i + 1) = if cmpQ (p.v.sq (s.A.v.at s.B.v t)) (p.v.sq (bst i)) < 0 then s.A.v.at s.B.v t else bst i := by
     rw [hbst]
     show bestV p.v s.A.v (((partsL s.A.v s.B.v p.v).take (i + 1)).map (s.A.v.at s.B.v)) = _
     rw [htake, List.map_append, List.map_cons, List.map_nil, bestV_snoc, betterP]
   have hbi := hbz i
   generalize bst i = b at hbi hnext ⊢
   have zat := at_szK zA zB htz
   conv => whnf
   refine ⟨rfl, fun Ry => ?_⟩
   conv => whnf
   refine CallVC.fn (c_vAt s.A s.B (Q t) (hA.le (by decide)) (hB.le (by decide)) (htz.q.le (by decide))) rfl ?_
   rw [Q_v]
   generalize s.A.v.at s.B.v t = q at zat hnext ⊢
   conv => whnf
   refine DrawVC.quiet (by kernel_rfl) ?_
   conv => whnf
   refine CallVCd.fn (c_vSquare p (PQ q) (hp.le (by decide)) (zat.q.le (by decide))) rfl ?_
   rw [PQ_v]
   conv => whnf
   refine CallVCd.fn (c_vSquare p (PQ b) (hp.le (by decide)) (hbi.q.le (by decide))) rfl ?_
   rw [PQ_v]
   conv => whnf
   refine CallVCd.fn (c_rCompare (Q (p.v.sq q)) (Q (p.v.sq b)) ((V.sq_sz zp zat).q.le (by decide)) ((V.sq_sz zp hbi).q.le (by decide))) rfl ?_
   rw [Q_v, Q_v]
   conv => whnf
   refine br_split ?_ ?_
   · intro h
     rw [if_pos (of_decide_eq_true h)] at hnext
     rw [hnext]
     conv => whnf
     exact ⟨(), trivial, SLe.id trivial ⟨⟨_, rfl, .refl _⟩, ⟨_, rfl, .refl _⟩, ⟨_, rfl, .refl _⟩, ⟨_, rfl, .refl _⟩, trivial⟩ (fun R hR => hR)⟩
   · intro h
     rw [if_neg (of_decide_eq_false h)] at hnext
     rw [hnext]
     conv => whnf
     exact ⟨(), trivial, SLe.id trivial ⟨⟨_, rfl, .refl _⟩, ⟨_, rfl, .refl _⟩, ⟨_, rfl, .refl _⟩, ⟨_, rfl, .refl _⟩, trivial⟩ (fun R hR => hR)⟩
 · rintro _ _
   refine WPS.of TBgood mixed ?_
   conv => whnf
   refine postV_one ?_
   rw [hbst, List.length_map]
   show pV (PQ (bestV p.v s.A.v (((partsL s.A.v s.B.v p.v).take (partsL s.A.v s.B.v p.v).length).map (s.A.v.at s.B.v)))) = _
   rw [List.take_length]
end Go.Sx
end
section
set_option maxRecDepth 10000
set_option maxHeartbeats 2000000
namespace Go.Sx
open Go Go.Proofs
theorem WPS.pure {P : Program} {C : Cx} {st : SS} {c : Code} {Q : Exit → SS → Prop} {p : Prop} (hp : ∀ w, (∀ R ∈ st.re, R.φ w) → p) (h : p → WPS P C c st Q) : WPS P C c st Q := ⟨fun a w hr => by
 obtain ⟨E, hE⟩ := hr
 exact (h (hp w (fun R hR => (hE.mem.res R hR).2.1))).wp a w ⟨E, hE⟩⟩
theorem c_euPt (s : Sg) (p : Pt) (hs : s.sm KS) (hp : p.sm KS) (hd : ¬ degen s) : Fn PP f_distance_metric_point [metV f_vector_Distance f_distance_euclidean_1, sV s, pV p] (qV (euPt s.A.v s.B.v p.v)) := by
 have hn := near_sz (hs.1.sz (by decide)) (hs.2.sz (by decide)) (hp.sz (by decide))
 have h := c_vDistance p (PQ (nearV s.A.v s.B.v p.v)) (hp.le (by decide)) (hn.q.le (by decide))
 rw [PQ_v] at h
 exact c_metPoint _ _ s p _ _ (c_euclidean1 s p hs hp hd) h
theorem c_sqPt (s : Sg) (p : Pt) (hs : s.sm KS) (hp : p.sm KS) (hso : s.A.ok) : Fn PP f_distance_metric_point [metV f_vector_Square f_distance_square_1, sV s, pV p] (qV (sqPt s.A.v s.B.v p.v)) := by
 have zA := hs.1.sz (k := KS) (by decide)
 have zB := hs.2.sz (k := KS) (by decide)
 have zp := hp.sz (k := KS) (by decide)
 have hn := bestPt_sz zA zB zp (partsL s.A.v s.B.v p.v).length
 rw [List.take_length] at hn
 have h := c_vSquare p (PQ (bestV p.v s.A.v ((partsL s.A.v s.B.v p.v).map (s.A.v.at s.B.v)))) (hp.le (by decide)) (hn.q.le (by decide))
 rw [PQ_v] at h
 exact c_metPoint _ _ s p _ _ (c_square1 s p hs hp hso) h
theorem sqPt_sz {A B p : V} (hA : SzV KS A) (hB : SzV KS B) (hp : SzV KS p) : Sz 1000000 (sqPt A B p) := by
 have hn := bestPt_sz hA hB hp (partsL A B p).length
 rw [List.take_length] at hn
 exact (V.sq_sz hp hn).le (by decide)
theorem c_metSegs (f g : FuncId) (D : V → V → V → Rat) (s t : Sg) (hs : s.sm KS) (ht : t.sm KS) (hds : ¬ degen s) (hdt : ¬ degen t)
   (hD : ∀ u p, (u = s ∨ u = t) → p.sm KS → Fn PP f_distance_metric_point [metV f g, sV u, pV p] (qV (D u.A.v u.B.v p.v))) (hz : ∀ {A B p}, SzV KS A → SzV KS B → SzV KS p → Sz 1000000 (D A B p)) :
   Fn PP f_distance_metric_segments [metV f g, sV s, sV t] (qV (segD D s.A.v s.B.v t.A.v t.B.v)) := by
 have zsA := hs.1.sz (k := KS) (by decide)
 have zsB := hs.2.sz (k := KS) (by decide)
 have ztA := ht.1.sz (k := KS) (by decide)
 have ztB := ht.2.sz (k := KS) (by decide)
 refine Fn.of TBgood mixed h_distance_metric_segments rfl rfl (Nat.le_of_ble_eq_true rfl) ?_
 intro w
 conv => whnf
 refine CallVC.fn (c_Meet s t hs ht) rfl ?_
 rw [MeetV, if_neg (fun h => h.elim hds hdt), segD]
 cases hm : (meetV s.A.v s.B.v t.A.v t.B.v).isSome with
 | true =>
   rw [if_pos rfl]
   conv => whnf
   exact postV_one (by rw [show qV 0 = rawV ⟨false, [], []⟩ from congrArg rawV Q_zero]; rfl)
 | false =>
   rw [if_neg (by decide)]
   conv => whnf
   refine DrawVC.quiet (by kernel_rfl) ?_
   conv => whnf
   refine CallVCd.fn (hD s t.A (.inl rfl) ht.1) rfl ?_
   conv => whnf
   refine CallVCd.fn (hD s t.B (.inl rfl) ht.2) rfl ?_
   conv => whnf
   refine CallVCd.fn (hD t s.A (.inr rfl) hs.1) rfl ?_
   conv => whnf
   refine CallVCd.fn (hD t s.B (.inr rfl) hs.2) rfl ?_
   conv => whnf
   have hx := fun A c hc => c_least A c (Q (D s.A.v s.B.v t.A.v)) [Q (D s.A.v s.B.v t.B.v), Q (D t.A.v t.B.v s.A.v), Q (D t.A.v t.B.v s.B.v)] (by simp) hc (by
     intro r hr
     simp only [List.mem_cons, List.not_mem_nil, or_false] at hr
     rcases hr with rfl | rfl | rfl | rfl
     · exact (hz zsA zsB ztA).q.le (by decide)
     · exact (hz zsA zsB ztB).q.le (by decide)
     · exact (hz ztA ztB zsA).q.le (by decide)
     · exact (hz ztA ztB zsB).q.le (by decide))
   have he : extR (-1) (Q (D s.A.v s.B.v t.A.v)) [Q (D s.A.v s.B.v t.B.v), Q (D t.A.v t.B.v s.A.v), Q (D t.A.v t.B.v s.B.v)] = Q (extQ (-1) (D s.A.v s.B.v t.A.v) [D s.A.v s.B.v t.B.v, D t.A.v t.B.v s.A.v, D t.A.v t.B.v s.B.v]) := extR_Q (-1) [D s.A.v s.B.v t.B.v, D t.A.v t.B.v s.A.v, D t.A.v t.B.v s.B.v] (D s.A.v s.B.v t.A.v)
   rw [he] at hx
   refine CallVCd.v (hx none 4 (by simp)).enters (CallV.sl1 (x := .o (.s 39 0 4 4)) (fun z => [z]) (RdA.box rfl (Nat.le_refl _)) (List.mem_cons_self ..) (fun _ => rfl) hx) ?_
   conv => whnf
   exact postV_one rfl
theorem SrcVC.row {st : SS} {A : Option Addr} {xs : List Value} {n : Nat} {K : List Value → Prop} (hR : SlRes A xs ∈ st.re) (hn : xs.length = n) (h0 : xs ≠ []) (h1 : ∀ v ∈ xs, v.oneCell' = true) (hk : K xs) : SrcVC st A n K := ⟨xs, hn, h1, fun w hw => by
 rcases hw _ hR with h | h
 · exact absurd h h0
 · exact .inr h, hk⟩
theorem rowV_all {α : Type} {f : α → List Value} {p : Value → Prop} (hf : ∀ x, ∀ v ∈ f x, p v) : ∀ (l : List α), ∀ v ∈ rowV f l, p v
 | [], v, h => by cases h
 | x :: l, v, h => by
   rcases List.mem_append.1 (show v ∈ f x ++ rowV f l from h) with h | h
   · exact hf x v h
   · exact rowV_all hf l v h
theorem ptC_one (p : Pt) : ∀ v ∈ ptC p, v.oneCell' = true := fun v h => by
 simp only [ptC, List.mem_cons, List.not_mem_nil, or_false] at h
 rcases h with rfl | rfl | rfl | rfl | rfl | rfl <;> rfl
def endsL (L : List (Pt × Pt)) : List Pt := L.flatMap fun e => [e.1, e.2]
def allP (ps : List Pt) (L : List (Pt × Pt)) : List Pt := ps ++ endsL L
def dchk (ps : List Pt) (L : List (Pt × Pt)) : Int := if (allP ps L).all (fun p => decide p.ok) = false then 1 else if L.any (fun e => decide (degen (sgE e))) = true then 12 else 0
theorem endsL_len (L : List (Pt × Pt)) : (endsL L).length = 2 * L.length := by
 induction L with
 | nil => rfl
 | cons e L ih => rw [show endsL (e :: L) = [e.1, e.2] ++ endsL L from rfl, List.length_append, ih]; simp only [List.length_cons, List.length_nil]; omega
theorem endsL_snoc (L : List (Pt × Pt)) (e : Pt × Pt) : endsL (L ++ [e]) = endsL L ++ [e.1, e.2] := by simp [endsL]
theorem allP_snoc (ps : List Pt) (L : List (Pt × Pt)) (e : Pt × Pt) : allP ps (L ++ [e]) = allP ps L ++ [e.1, e.2] := by rw [allP, endsL_snoc, allP, List.append_assoc]
theorem allC_len (l : List Pt) : (rowV ptC l).length = l.length * 6 := rowV_length ptC_len l
theorem some_len (B : Option Addr) {L : List (Pt × Pt)} {w : World} (h : SlF B (rowV sgC L) w) (hl : 0 < L.length) : B.isSome = true := slres_some h (by rw [rowV_length sgC_len]; omega)
theorem c_dcheck (A B : Option Addr) (c d : Nat) (ps : List Pt) (L : List (Pt × Pt)) (hps : ps.length ≤ 1000) (hpc : ps.length ≤ c) (hL : L.length ≤ 1000) (hsp : Lsm KS ps) (hsL : ∀ e ∈ L, e.1.sm KS ∧ e.2.sm KS) (hc0 : ps = [] → A = none ∧ c = 0) :
   FnM PP f_distance_check [.slice A ps.length c, .slice B L.length d] (facts [SlRes A (rowV ptC ps), SlRes B (rowV sgC L)]) (retsV (.int .i64 (dchk ps L))) := by
 refine FnM.ofS TBgood mixed h_distance_check rfl rfl (Nat.le_of_ble_eq_true rfl) (by simp [SlRes.ok]) (fun w l st E w' hp hm => postV_ok hp hm) ?_
 intro w hw
 obtain ⟨n, hn⟩ : ∃ n, n = L.length := ⟨_, rfl⟩
 rw [← hn] at hL ⊢
 have hB : 0 < n → B.isSome = true := fun h => some_len B (facts_two hw).2 (by omega)
 refine WPS.peel TBgood mixed ?_
 conv => whnf
 refine WPS.seq ?_
 refine WPS.peel TBgood mixed ?_
 conv => whnf
 refine WPS.block ?_
 refine WPS.loopX (fun m s => ∃ i A' c' k, m = n - i ∧ i ≤ n ∧ k = ps.length + 2 * i ∧ k ≤ c' ∧ (k = 0 → A' = none ∧ c' = 0) ∧
   s = ⟨[(0, .o (.v (.slice A' k c'))), (1, .o (.v (.slice B n d))), (4, .o (.v (.int .i64 0))), (12, .o (.v (.slice B n d))), (13, .o (.v (.int .i64 n))), (14, .o (.v (.int .i64 i)))], [], [SlRes A' (rowV ptC (allP ps (L.take i))), SlRes B (rowV sgC L)]⟩) n ?_ ?_
 · refine SLX.of (t := ⟨[(0, .o (.v (.slice A ps.length c))), (1, .o (.v (.slice B n d))), (4, .o (.v (.int .i64 0))), (12, .o (.v (.slice B n d))), (13, .o (.v (.int .i64 n))), (14, .o (.v (.int .i64 0)))], [], [SlRes A (rowV ptC ps), SlRes B (rowV sgC L)]⟩) (SLe.id ⟨rfl, rfl, rfl, rfl, rfl, rfl, trivial⟩ trivial (fun R hR => hR)) ?_
   refine ⟨0, A, c, ps.length, by omega, Nat.zero_le _, rfl, hpc, fun h => hc0 (List.length_eq_zero_iff.1 h), ?_⟩
   rw [List.take_zero]
   simp only [allP, endsL, List.flatMap_nil, List.append_nil]
   rfl
 rintro m s ⟨i, A', c', k, rfl, hi, hk, hc', hA0, rfl⟩
 refine WPS.pure (p := 0 < k → A'.isSome = true) (fun w hw2 h => slres_some (hw2 _ (List.mem_cons_self ..)) (by rw [allC_len, allP, List.length_append, endsL_len, List.length_take]; omega)) ?_
 intro hA'
 refine WPS.of TBgood mixed ?_
 conv => whnf
 refine br_split ?_ ?_
 · intro h
   have hi2 : i < n := by
     have : (i : Int) < (n : Int) := of_decide_eq_true h
     omega
   conv => whnf
   refine ⟨⟨by omega, by omega, hB (by omega)⟩, ?_⟩
   conv => whnf
   obtain ⟨e, he⟩ : ∃ e, L[i]? = some e := ⟨_, List.getElem?_eq_getElem (by omega)⟩
   refine LoadVC.elem (A := B) (xs := L) (j := (i : Int)) sgC sgC_len (List.mem_cons_of_mem _ (List.mem_singleton.2 rfl)) rfl (by rw [Int.toNat_natCast]; omega) (by decide) (fun h => by cases h) ?_
   intro e' he'
   obtain rfl := elem_eq he' he
   conv => whnf
   have hlen : (allP ps (L.take i)).length = k := by rw [allP, List.length_append, endsL_len, List.length_take]; omega
   have hemp : k = 0 → rowV ptC (allP ps (L.take i)) = [] := fun h => by rw [List.length_eq_zero_iff.1 (hlen.trans h)]; rfl
   refine DrawVC.quiet (by kernel_rfl) ?_
   conv => whnf
   refine ⟨⟨by omega, Int.le_refl _, by omega⟩, ?_⟩
   rcases Nat.eq_zero_or_pos k with hk0 | hk0
   · obtain ⟨rfl, rfl⟩ := hA0 hk0
     subst hk0
     conv => whnf
     refine ⟨⟨by decide, by decide⟩, ?_⟩
     conv => whnf
     refine SLX.freezeO 29 rfl (fun A2 cp hcp => SLX.of (SLe.id (st' := ⟨[(0, .o (.v (.slice A2 2 cp))), (1, .o (.v (.slice B n d))), (4, .o (.v (.int .i64 0))), (12, .o (.v (.slice B n d))), (13, .o (.v (.int .i64 n))), (14, .o (.v (.int .i64 (i + 1 : Nat))))], [], [SlRes A2 (rowV ptC (allP ps (L.take (i + 1)))), SlRes B (rowV sgC L)]⟩) ⟨rfl, rfl, rfl, rfl, rfl, some_wrap hi2 (by omega), trivial⟩ trivial (fun R hR => ?_)) ?_)
     · rcases List.mem_cons.1 hR with rfl | hR
       · rw [take_snoc' he, allP_snoc, rowV_append, hemp rfl]
         exact List.mem_cons_self ..
       · exact List.mem_cons_of_mem _ (List.mem_cons_of_mem _ hR)
     · exact ⟨n - (i + 1), by omega, i + 1, A2, cp, 2, rfl, by omega, by omega, hcp, fun h => by omega, rfl⟩
   · obtain ⟨ad, rfl⟩ := Option.isSome_iff_exists.1 (hA' hk0)
     conv => whnf
     refine SrcVC.row (List.mem_cons_self ..) (by rw [allC_len, hlen]; rfl) (fun h => by have := congrArg List.length h; rw [allC_len, hlen] at this; simp at this; omega) (rowV_all ptC_one _) ?_
     conv => whnf
     refine ⟨⟨Nat.le_refl _, by show k < k + 2; omega, by show k + 2 ≤ _; omega, by show (k + 2) * 80 ≤ _; omega⟩, ?_⟩
     conv => whnf
     refine SLX.freezeO 29 rfl (fun A2 cp hcp => SLX.of (SLe.id (st' := ⟨[(0, .o (.v (.slice A2 (k + 2) cp))), (1, .o (.v (.slice B n d))), (4, .o (.v (.int .i64 0))), (12, .o (.v (.slice B n d))), (13, .o (.v (.int .i64 n))), (14, .o (.v (.int .i64 (i + 1 : Nat))))], [], [SlRes A2 (rowV ptC (allP ps (L.take (i + 1)))), SlRes B (rowV sgC L)]⟩) ⟨rfl, rfl, rfl, rfl, rfl, some_wrap hi2 (by omega), trivial⟩ trivial (fun R hR => ?_)) ?_)
     · rcases List.mem_cons.1 hR with rfl | hR
       · rw [take_snoc' he, allP_snoc, rowV_append, ← app_eq]
         exact List.mem_cons_self ..
       · exact List.mem_cons_of_mem _ (List.mem_cons_of_mem _ hR)
     · exact ⟨n - (i + 1), by omega, i + 1, A2, cp, k + 2, rfl, by omega, by omega, hcp, fun h => by omega, rfl⟩
 · intro h
   have hi2 : i = n := by
     have : ¬ (i : Int) < (n : Int) := of_decide_eq_false h
     omega
   rw [hi2, hn, List.take_length, ← hn]
   obtain ⟨PS, hPS⟩ : ∃ PS, PS = allP ps L := ⟨_, rfl⟩
   have hPl : PS.length = k := by rw [hPS, allP, List.length_append, endsL_len]; omega
   have hPsm : Lsm KS PS := fun p hp => by
     rw [hPS] at hp
     rcases List.mem_append.1 hp with h | h
     · exact hsp p h
     · obtain ⟨e, he, h⟩ := List.mem_flatMap.1 h
       simp only [List.mem_cons, List.not_mem_nil, or_false] at h
       rcases h with rfl | rfl
       · exact (hsL e he).1
       · exact (hsL e he).2
   have hgoal : dchk ps L = if PS.all (fun p => decide p.ok) = false then 1 else if L.any (fun e => decide (degen (sgE e))) = true then 12 else 0 := by rw [hPS]; rfl
   rw [hgoal, ← hPS]
   refine WPS.of TBgood mixed ?_
   conv => whnf
   refine sexec_loop (ι := Nat) (fun j => ⟨[(1, .o (.v (.slice B n d))), (4, .o (.v (.int .i64 0))), (31, .o (.v (.slice A' k c'))), (32, .o (.v (.int .i64 k))), (33, .o (.v (.int .i64 j)))], [], [SlRes A' (rowV ptC PS), SlRes B (rowV sgC L)]⟩)
     (fun j => j ≤ k ∧ PS.all (fun p => decide p.ok) = (PS.drop j).all (fun p => decide p.ok)) (fun j => k - j) 0 ⟨Nat.zero_le _, by rw [List.drop_zero]⟩
     (SLe.id ⟨rfl, rfl, rfl, rfl, rfl, trivial⟩ trivial (fun R hR => hR)) ?_
   rintro j ⟨hj, hall⟩
   conv => whnf
   refine br_split ?_ ?_
   · intro h
     have hj2 : j < k := by
       have : (j : Int) < (k : Int) := of_decide_eq_true h
       omega
     conv => whnf
     refine ⟨⟨by omega, by omega, hA' (by omega)⟩, ?_⟩
     conv => whnf
     obtain ⟨p, hp⟩ : ∃ p, PS[j]? = some p := ⟨_, List.getElem?_eq_getElem (by omega)⟩
     refine LoadVC.elem (A := A') (xs := PS) (j := (j : Int)) ptC ptC_len (List.mem_cons_self ..) rfl (by rw [Int.toNat_natCast]; omega) (by decide) (fun h => by cases h) ?_
     intro p' hp'
     obtain rfl := elem_eq hp' hp
     conv => whnf
     refine CallVC.fn (c_vCheck p' ((hPsm p' (List.mem_of_getElem? hp)).le (by decide))) rfl ?_
     rw [drop_cons hp, List.all_cons] at hall
     by_cases hok : p'.ok
     · rw [if_pos hok]
       rw [decide_eq_true hok, Bool.true_and] at hall
       conv => whnf
       exact ⟨j + 1, ⟨by omega, hall⟩, by omega, SLe.id ⟨rfl, rfl, rfl, rfl, some_wrap hj2 (by omega), trivial⟩ trivial (fun R hR => hR)⟩
     · rw [if_neg hok]
       rw [decide_eq_false hok, Bool.false_and] at hall
       conv => whnf
       refine postV_one ?_
       rw [if_pos hall]
   · intro h
     have hj2 : j = k := by
       have : ¬ (j : Int) < (k : Int) := of_decide_eq_false h
       omega
     rw [hj2, List.drop_of_length_le (by omega), List.all_nil] at hall
     rw [if_neg (by rw [hall]; decide)]
     conv => whnf
     refine sexec_loop (ι := Nat) (fun j => ⟨[(4, .o (.v (.int .i64 0))), (41, .o (.v (.slice B n d))), (42, .o (.v (.int .i64 n))), (43, .o (.v (.int .i64 j)))], [], [SlRes A' (rowV ptC PS), SlRes B (rowV sgC L)]⟩)
       (fun j => j ≤ n ∧ L.any (fun e => decide (degen (sgE e))) = (L.drop j).any (fun e => decide (degen (sgE e)))) (fun j => n - j) 0 ⟨Nat.zero_le _, by rw [List.drop_zero]⟩
       (SLe.id ⟨rfl, rfl, rfl, rfl, trivial⟩ trivial (fun R hR => hR)) ?_
     rintro j ⟨hj, hany⟩
     conv => whnf
     refine br_split ?_ ?_
     · intro h
       have hj2 : j < n := by
         have : (j : Int) < (n : Int) := of_decide_eq_true h
         omega
       conv => whnf
       refine ⟨⟨by omega, by omega, hB (by omega)⟩, ?_⟩
       conv => whnf
       obtain ⟨e, he⟩ : ∃ e, L[j]? = some e := ⟨_, List.getElem?_eq_getElem (by omega)⟩
       refine LoadVC.elem (A := B) (xs := L) (j := (j : Int)) sgC sgC_len (List.mem_cons_of_mem _ (List.mem_singleton.2 rfl)) rfl (by rw [Int.toNat_natCast]; omega) (by decide) (fun h => by cases h) ?_
       intro e' he'
       obtain rfl := elem_eq he' he
       conv => whnf
       refine CallVC.fn (c_sCheck (sgE e') (hsL e' (List.mem_of_getElem? he))) rfl ?_
       rw [drop_cons he, List.any_cons] at hany
       by_cases hdg : degen (sgE e')
       · rw [segChk, if_pos hdg]
         rw [decide_eq_true hdg, Bool.true_or] at hany
         conv => whnf
         refine postV_one ?_
         rw [if_pos hany]
       · rw [segChk, if_neg hdg]
         rw [decide_eq_false hdg, Bool.false_or] at hany
         conv => whnf
         exact ⟨j + 1, ⟨by omega, hany⟩, by omega, SLe.id ⟨rfl, rfl, rfl, some_wrap hj2 (by omega), trivial⟩ trivial (fun R hR => hR)⟩
     · intro h
       have hj2 : j = n := by
         have : ¬ (j : Int) < (n : Int) := of_decide_eq_false h
         omega
       rw [hj2, List.drop_of_length_le (by omega), List.any_nil] at hany
       conv => whnf
       refine postV_one ?_
       rw [if_neg (by rw [hany]; decide)]
end Go.Sx
end
section
set_option maxRecDepth 10000
set_option maxHeartbeats 2000000
namespace Go.Sx
open Go Go.Proofs
abbrev sgP (s : Sg) : Pt × Pt := (s.A, s.B)
theorem c_dcheck1 (s : Sg) (p : Pt) (hs : s.sm KS) (hp : p.sm KS) (A B : Option Addr) (c d : Nat) (hc : 1 ≤ c) :
   FnM PP f_distance_check [.slice A 1 c, .slice B 1 d] (facts [SlRes A (rowV ptC [p]), SlRes B (rowV sgC [sgP s])]) (retsV (.int .i64 (dchk [p] [sgP s]))) :=
 c_dcheck A B c d [p] [sgP s] (by simp) hc (by simp) (fun x hx => by rw [List.mem_singleton.1 hx]; exact hp) (fun e he => by rw [List.mem_singleton.1 he]; exact hs) (fun h => by cases h)
theorem dchk1_ok {s : Sg} {p : Pt} (h : dchk [p] [sgP s] = 0) : p.ok ∧ s.A.ok ∧ s.B.ok ∧ ¬ degen s := by
 unfold dchk at h
 split at h
 · exact absurd h (by decide)
 rename_i h1
 split at h
 · exact absurd h (by decide)
 rename_i h2
 simp [allP, endsL, sgE] at h1 h2
 exact ⟨h1.1, h1.2.1, h1.2.2, h2⟩
def dPt (D : V → V → V → Rat) (s : Sg) (p : Pt) : Rat × Int := if dchk [p] [sgP s] ≠ 0 then (0, dchk [p] [sgP s]) else (D s.A.v s.B.v p.v, 0)
abbrev rerV (x : Rat × Int) : Value := .tuple #[qV x.1, .int .i64 x.2]
theorem rawV0 : rawV (Q 0) = .agg ⟨[.bool false, .string ⟨#[]⟩, .string ⟨#[]⟩]⟩ := by rw [Q_zero]; rfl
theorem c_dPoint (s : Sg) (p : Pt) (hs : s.sm KS) (hp : p.sm KS) : Fn PP f_distance_Point [sV s, pV p] (rerV (dPt euPt s p)) := by
 refine Fn.of TBgood mixed h_distance_Point rfl rfl (Nat.le_of_ble_eq_true rfl) ?_
 intro w
 conv => whnf
 refine CallVC.v (c_dcheck1 s p hs hp none none 1 1 (Nat.le_refl _)).enters (CallV.sl2 (x := .o (.s 8 0 1 1)) (y := .o (.s 10 0 1 1)) (fun z y => [z, y]) (RdA.box rfl (Nat.le_refl _)) (RdA.box rfl (Nat.le_refl _)) (List.mem_cons_self ..) (List.mem_cons_of_mem _ (List.mem_cons_self ..)) (fun _ => rfl) (fun A c B d hc hd => c_dcheck1 s p hs hp A B c d hc)) ?_
 unfold dPt
 generalize hk : dchk [p] [sgP s] = k
 conv => whnf
 refine br_split ?_ ?_
 · intro hb
   have h1 : k ≠ 0 := by intro h0; rw [h0] at hb; exact absurd hb (by decide)
   rw [if_pos h1]
   conv => whnf
   refine postV_two ?_
   rw [rerV, qV, rawV0]
 · intro hb
   have h1 : k = 0 := by simpa using hb
   rw [if_neg (by rw [h1]; decide)]
   obtain ⟨_, _, _, hd⟩ := dchk1_ok (hk.trans h1)
   conv => whnf
   refine DrawVC.quiet (by kernel_rfl) ?_
   conv => whnf
   refine CallVCd.fn c_euclidean rfl ?_
   conv => whnf
   refine CallVCd.fn (c_euPt s p hs hp hd) rfl ?_
   conv => whnf
   exact postV_two rfl
theorem c_dSquarePoint (s : Sg) (p : Pt) (hs : s.sm KS) (hp : p.sm KS) : Fn PP f_distance_SquarePoint [sV s, pV p] (rerV (dPt sqPt s p)) := by
 refine Fn.of TBgood mixed h_distance_SquarePoint rfl rfl (Nat.le_of_ble_eq_true rfl) ?_
 intro w
 conv => whnf
 refine CallVC.v (c_dcheck1 s p hs hp none none 1 1 (Nat.le_refl _)).enters (CallV.sl2 (x := .o (.s 8 0 1 1)) (y := .o (.s 10 0 1 1)) (fun z y => [z, y]) (RdA.box rfl (Nat.le_refl _)) (RdA.box rfl (Nat.le_refl _)) (List.mem_cons_self ..) (List.mem_cons_of_mem _ (List.mem_cons_self ..)) (fun _ => rfl) (fun A c B d hc hd => c_dcheck1 s p hs hp A B c d hc)) ?_
 unfold dPt
 generalize hk : dchk [p] [sgP s] = k
 conv => whnf
 refine br_split ?_ ?_
 · intro hb
   have h1 : k ≠ 0 := by intro h0; rw [h0] at hb; exact absurd hb (by decide)
   rw [if_pos h1]
   conv => whnf
   refine postV_two ?_
   rw [rerV, qV, rawV0]
 · intro hb
   have h1 : k = 0 := by simpa using hb
   rw [if_neg (by rw [h1]; decide)]
   obtain ⟨_, ha, _, _⟩ := dchk1_ok (hk.trans h1)
   conv => whnf
   refine DrawVC.quiet (by kernel_rfl) ?_
   conv => whnf
   refine CallVCd.fn c_square rfl ?_
   conv => whnf
   refine CallVCd.fn (c_sqPt s p hs hp ha) rfl ?_
   conv => whnf
   exact postV_two rfl
theorem c_sqSegs (s t : Sg) (hs : s.sm KS) (ht : t.sm KS) (hds : ¬ degen s) (hdt : ¬ degen t) (hso : s.A.ok) (hto : t.A.ok) : Fn PP f_distance_metric_segments [metV f_vector_Square f_distance_square_1, sV s, sV t] (qV (segD sqPt s.A.v s.B.v t.A.v t.B.v)) :=
 c_metSegs _ _ sqPt s t hs ht hds hdt (fun u p hu hp => by
   rcases hu with rfl | rfl
   · exact c_sqPt _ p hs hp hso
   · exact c_sqPt _ p ht hp hto) (fun a b c => sqPt_sz a b c)
end Go.Sx
end
section
set_option maxRecDepth 10000
set_option maxHeartbeats 2000000
namespace Go.Sx
open Go Go.Proofs
abbrev Ply.R (p : Ply) : List Hd := p.o :: p.hs
abbrev ringXs (p : Ply) : List (List Value) := (p.R.zipIdx).map fun e => [.int .i64 (e.2 : Int), e.1.V]
theorem ringXs_len (p : Ply) : (ringXs p).length = p.hs.length + 1 := by simp [ringXs]
theorem ringXs_get {p : Ply} {i : Nat} {h : Hd} (hh : p.R[i]? = some h) : (ringXs p).getD i [] = [.int .i64 (i : Int), h.V] := getD_of (by
 rw [List.getElem?_map, List.getElem?_zipIdx, hh]; simp)
theorem c_rings (p : Ply) : FnM PP f_polygon_rings [p.V] (facts []) (retsF f_polygon_rings_1 [p.C]) := by
 refine FnF.of TBgood mixed h_polygon_rings rfl rfl (Nat.le_of_ble_eq_true rfl) (by simp) ?_
 intro w hw
 conv => whnf
 exact postF_one rfl
theorem c_rings1 (a : Addr) (p : Ply) (hl : p.hs.length ≤ 1000000) : SeqC PP f_polygon_rings_1 [ptrV a] [SlRes (some a) p.C, p.HF] (ringXs p) := by
 refine SeqC.of TBgood mixed h_polygon_rings_1 rfl rfl (Nat.le_of_ble_eq_true rfl) (by simp [SlRes.ok]) ?_
 intro yl W B R X hW hy
 obtain ⟨b, o, rfl⟩ := slf_addr (hW _ (List.mem_cons_self ..)) (by simp [Ply.C])
 rw [ringXs_len] at hy ⊢
 have hH : 0 < p.hs.length → p.H.isSome = true := fun h => slres_some (hW p.HF (by simp)) (by rw [rowV_length hdC_len]; omega)
 have hre : ∀ i Z, ∀ S ∈ [SlRes (some ⟨b, o, none⟩) p.C, p.HF], S ∈ R i Z :: [SlRes (some ⟨b, o, none⟩) p.C, p.HF] := fun i Z S h => List.mem_cons_of_mem _ h
 refine WPS.of TBgood mixed ?_
 conv => whnf
 refine LoadVC.row (off := 0) (hre _ _ _ (List.mem_cons_self ..)) (Addr_add0 _ _) (Nat.le_of_ble_eq_true rfl) (by decide) (fun _ => rfl) ?_
 conv => whnf
 refine hy 0 [] _ _ _ (by omega) rfl (by rw [ringXs_get (h := p.o) rfl]; rfl) (fun Z0 => ?_) (fun Z0 => ?_)
 rotate_left
 · conv => whnf
   exact .inr ⟨Z0, List.mem_cons_self ..⟩
 conv => whnf
 refine LoadVC.row (off := 1) (hre _ _ _ (List.mem_cons_self ..)) rfl (Nat.le_of_ble_eq_true rfl) (by decide) (fun _ => rfl) ?_
 conv => whnf
 obtain ⟨n, hn⟩ : ∃ n, n = p.hs.length := ⟨_, rfl⟩
 refine sexec_loop (ι := Nat × List Nat) (fun ⟨i, Z⟩ => ⟨[(0, .o (.v (yieldV yl))), (1, .o (.v (ptrV ⟨b, o, none⟩))), (11, .o (.v (.slice p.H p.hs.length p.c))), (12, .o (.v (.int .i64 p.hs.length))), (13, .o (.v (.int .i64 i)))], [], R (i + 1) Z :: [SlRes (some ⟨b, o, none⟩) p.C, p.HF]⟩)
   (fun ⟨i, Z⟩ => i ≤ p.hs.length) (fun ⟨i, Z⟩ => p.hs.length - i) (0, Z0) (Nat.zero_le _) (SLe.id ⟨rfl, rfl, rfl, rfl, rfl, trivial⟩ trivial (fun R hR => hR)) ?_
 rintro ⟨i, Z⟩ hi
 conv => whnf
 refine br_split ?_ ?_
 · intro h
   have hi2 : i < p.hs.length := by
     have : (i : Int) < (p.hs.length : Int) := of_decide_eq_true h
     omega
   conv => whnf
   refine ⟨⟨by omega, by omega, hH (by omega)⟩, ?_⟩
   conv => whnf
   obtain ⟨h0, hh0⟩ : ∃ h, p.hs[i]? = some h := ⟨_, List.getElem?_eq_getElem hi2⟩
   refine LoadVC.elem (A := p.H) (xs := p.hs) (j := (i : Int)) Hd.C hdC_len (hre _ _ _ (by simp)) rfl (by rw [Int.toNat_natCast]; omega) (by decide) (fun _ => rfl) ?_
   intro h' hh'
   obtain rfl := elem_eq hh' hh0
   conv => whnf
   have hxi : (ringXs p).getD (i + 1) [] = [.int .i64 ((i + 1 : Nat) : Int), h'.V] := ringXs_get (by rw [List.getElem?_cons_succ]; exact hh0)
   refine hy (i + 1) Z _ _ _ (by omega) rfl (by
     rw [hxi]
     show [SV.o (.v (.int .i64 (IntKind.i64.wrap ((i : Int) + 1)))), SV.o (.v h'.V)] = _
     rw [wrap_succ hi2 (by omega)]; rfl) (fun Z' => ?_) (fun Z' => ?_)
   · conv => whnf
     exact ⟨(i + 1, Z'), by show i + 1 ≤ _; omega, by show p.hs.length - (i + 1) < p.hs.length - i; omega, SLe.id ⟨rfl, rfl, rfl, rfl, some_wrap hi2 (by omega), trivial⟩ trivial (fun S hS => hS)⟩
   · conv => whnf
     exact .inr ⟨Z', List.mem_cons_self ..⟩
 · intro h
   have hi2 : i = p.hs.length := by
     have : ¬ (i : Int) < (p.hs.length : Int) := of_decide_eq_false h
     have : i ≤ p.hs.length := hi
     omega
   conv => whnf
   exact .inl ⟨Z, by rw [hi2]; exact List.mem_cons_self ..⟩
def cornersP (q : PL) : List Pt := (q.o :: q.hs).flatten
def edgesP (q : PL) : List (Pt × Pt) := ((q.o :: q.hs).map edgesL).flatten
theorem PR_map (p : Ply) : p.R.map (·.l) = p.P.o :: p.P.hs := rfl
theorem Ply.R_F {p : Ply} {h : Hd} (hh : h ∈ p.R) : h.F ∈ p.F := by
 rcases List.mem_cons.1 hh with rfl | hh
 · exact Ply.F_o
 · exact Ply.F_h hh
theorem flat_snoc {α : Type} {l : List (List α)} {i : Nat} {x : List α} (h : l[i]? = some x) : (l.take (i + 1)).flatten = (l.take i).flatten ++ x := by rw [take_snoc' h, List.flatten_append]; simp
theorem flat_le {α : Type} {k : Nat} : ∀ (l : List (List α)), (∀ x ∈ l, x.length ≤ k) → l.flatten.length ≤ l.length * k
 | [], _ => by simp
 | x :: l, h => by
   have h1 := h x (List.mem_cons_self ..)
   have h2 := flat_le l (fun y hy => h y (List.mem_cons_of_mem _ hy))
   rw [List.flatten_cons, List.length_append, List.length_cons, Nat.add_mul]; omega
theorem SrcVC.row0 {st : SS} {A : Option Addr} {xs : List Value} {n : Nat} {K : List Value → Prop} (hR : SlRes A xs ∈ st.re) (hn : xs.length = n) (h0 : 0 < xs.length) (h1 : ∀ v ∈ xs, v.oneCell' = true) (hk : K xs) : SrcVC st A n K := SrcVC.row hR hn (fun h => by rw [h] at h0; cases h0) h1 hk
theorem c_corners (p : Ply) (hl : p.hs.length ≤ 8) (hr : ∀ h ∈ p.R, 3 ≤ h.l.length ∧ h.l.length ≤ 64) :
   FnM PP f_polygon_corners [p.V] (facts p.F) (retsO t_api_Point 6 (cornersP p.P).length (rowV ptC (cornersP p.P))) := by
 refine FnM.ofS TBgood mixed h_polygon_corners rfl rfl (Nat.le_of_ble_eq_true rfl) Ply.F_ok (fun w l st E w' hp hm => postO_ok hp hm) ?_
 intro w hw
 obtain ⟨ls, hls⟩ : ∃ ls : List (List Pt), ls = p.R.map (·.l) := ⟨_, rfl⟩
 have hlen : ls.length = p.hs.length + 1 := by rw [hls]; simp
 have hb : ∀ i, (ls.take i).flatten.length ≤ 9 * 64 := fun i => by
   refine Nat.le_trans (flat_le (k := 64) _ (fun x hx => ?_)) (Nat.mul_le_mul_right 64 (by rw [List.length_take]; omega))
   rw [hls] at hx
   obtain ⟨h, hh, rfl⟩ := List.mem_map.1 (List.mem_of_mem_take hx)
   exact (hr h hh).2
 refine WPS.peel TBgood mixed ?_
 conv => whnf
 refine WPS.peel TBgood mixed ?_
 conv => whnf
 refine WPS.seq ?_
 refine WPS.seq ?_
 refine WPS.of TBgood mixed ?_
 conv => whnf
 refine CallVC.f1 (c_rings p).enters (CallV.facts (c_rings p) rfl (by simp)) (fun a => ?_)
 conv => whnf
 refine WPS.block ?_
 refine WPS.range TBgood mixed rfl rfl (c_rings1 a p (by omega)) (fun S hS => ?_) 2 [(2, .o (.v (.slice none 0 0))), (1, .o (.p 14 0)), (3, .o (.p 15 0))]
   (fun i (_ : Unit) => match i with
     | 0 => [(14, .box [.v p.o.V, .v p.HV] t_api_Polygon), (15, .box [.v (.slice none 0 0)] t_sl_api_Point)]
     | i + 1 => [(14, .box [.v p.o.V, .v p.HV] t_api_Polygon), (15, .box [.w 13] t_sl_api_Point), (13, .own t_api_Point 6 (ls.take (i + 1)).flatten.length (rowV ptC (ls.take (i + 1)).flatten))])
   (fun i _ => True) () trivial (SLe.mk (fun k => bif Nat.beq k 14 then 1 else bif Nat.beq k 15 then 3 else k) ⟨rfl, rfl, rfl, trivial⟩ ⟨⟨_, rfl, .refl _⟩, ⟨_, rfl, .refl _⟩, trivial⟩ rfl (fun R hR => hR)) rfl
   (fun i j _ => match i with
     | 0 => ⟨rfl, rfl⟩
     | i + 1 => ⟨rfl, rfl⟩) rfl (fun x hx => by obtain ⟨e, _, rfl⟩ := List.mem_map.1 hx; rfl) rfl ?_ ?_
 · rcases List.mem_cons.1 hS with rfl | hS
   · exact List.mem_cons_self ..
   · rw [List.mem_singleton.1 hS]; exact List.mem_cons_of_mem _ Ply.F_H
 · intro W1 X i j Rx hi _
   rw [ringXs_len] at hi
   obtain ⟨h, hh⟩ : ∃ h, p.R[i]? = some h := ⟨_, List.getElem?_eq_getElem (by simp; omega)⟩
   rw [ringXs_get hh]
   have hli : ls[i]? = some h.l := by rw [hls, List.getElem?_map, hh]; rfl
   have hfs := flat_snoc hli
   have hmem := List.mem_of_getElem? hh
   obtain ⟨hr3, hr64⟩ := hr h hmem
   have hbi := hb i
   have hF : ∀ S : Res, h.F ∈ S :: SlRes (some a) p.C :: p.F := fun S => List.mem_cons_of_mem _ (List.mem_cons_of_mem _ (Ply.R_F hmem))
   match i with
   | 0 =>
     rw [List.take_zero, List.flatten_nil, List.nil_append] at hfs
     conv => whnf
     refine ⟨rfl, fun Ry => ?_⟩
     conv => whnf
     refine SrcVC.row0 (hF _) (by rw [allC_len]; rfl) (by rw [allC_len]; omega) (rowV_all ptC_one _) ?_
     conv => whnf
     refine ⟨⟨by show 0 + h.l.length ≤ _; omega, by show (0 + h.l.length) * 80 ≤ _; omega⟩, ?_⟩
     conv => whnf
     refine ⟨(), trivial, ?_⟩
     refine SLe.mk (fun k => bif Nat.beq k 13 then 12 else k) trivial ⟨⟨_, rfl, .refl _⟩, ⟨_, rfl, .refl _⟩, ⟨_, rfl, ?_⟩, trivial⟩ rfl (fun R hR => hR) (.inr (fun j => ren_hi (Nat.le_of_ble_eq_true rfl)))
     rw [hfs, Nat.zero_add]
     exact .refl _
   | i + 1 =>
     conv => whnf
     refine ⟨rfl, fun Ry => ?_⟩
     conv => whnf
     refine SrcVC.row0 (hF _) (by rw [allC_len]; rfl) (by rw [allC_len]; omega) (rowV_all ptC_one _) ?_
     conv => whnf
     refine ⟨⟨by show (ls.take (i + 1)).flatten.length + h.l.length ≤ _; omega, by show ((ls.take (i + 1)).flatten.length + h.l.length) * 80 ≤ _; omega⟩, ?_⟩
     conv => whnf
     refine ⟨(), trivial, ?_⟩
     refine SLe.mk (fun k => bif Nat.beq k 13 then 12 else k) trivial ⟨⟨_, rfl, .refl _⟩, ⟨_, rfl, .refl _⟩, ⟨_, rfl, ?_⟩, trivial⟩ rfl (fun R hR => hR) (.inr (fun j => ren_hi (Nat.le_of_ble_eq_true rfl)))
     rw [hfs, List.length_append, rowV_append, ← app_eq]
     exact .refl _
 · intro j _
   rw [ringXs_len]
   refine WPS.of TBgood mixed ?_
   conv => whnf
   refine ⟨13, rfl, ?_⟩
   show some (ME.own t_api_Point 6 (ls.take (p.hs.length + 1)).flatten.length (rowV ptC (ls.take (p.hs.length + 1)).flatten)) = _
   rw [List.take_of_length_le (by omega), hls]; rfl
theorem sgC_one (e : Pt × Pt) : ∀ v ∈ sgC e, v.oneCell' = true := fun v h => by
 rcases List.mem_append.1 (show v ∈ ptC e.1 ++ ptC e.2 from h) with h | h
 · exact ptC_one _ v h
 · exact ptC_one _ v h
theorem c_pedges (p : Ply) (hl : p.hs.length ≤ 8) (hr : ∀ h ∈ p.R, 3 ≤ h.l.length ∧ h.l.length ≤ 64) :
   FnM PP f_polygon_edges [p.V] (facts p.F) (retsO t_api_Segment 12 (edgesP p.P).length (rowV sgC (edgesP p.P))) := by
 refine FnM.ofS TBgood mixed h_polygon_edges rfl rfl (Nat.le_of_ble_eq_true rfl) Ply.F_ok (fun w l st E w' hp hm => postO_ok hp hm) ?_
 intro w hw
 obtain ⟨ls, hls⟩ : ∃ ls : List (List (Pt × Pt)), ls = p.R.map (fun h => edgesL h.l) := ⟨_, rfl⟩
 have hlen : ls.length = p.hs.length + 1 := by rw [hls]; simp
 have hb : ∀ i, (ls.take i).flatten.length ≤ 9 * 64 := fun i => by
   refine Nat.le_trans (flat_le (k := 64) _ (fun x hx => ?_)) (Nat.mul_le_mul_right 64 (by rw [List.length_take]; omega))
   rw [hls] at hx
   obtain ⟨h, hh, rfl⟩ := List.mem_map.1 (List.mem_of_mem_take hx)
   rw [edgesL_len]; exact (hr h hh).2
 refine WPS.peel TBgood mixed ?_
 conv => whnf
 refine WPS.peel TBgood mixed ?_
 conv => whnf
 refine WPS.seq ?_
 refine WPS.seq ?_
 refine WPS.of TBgood mixed ?_
 conv => whnf
 refine CallVC.f1 (c_rings p).enters (CallV.facts (c_rings p) rfl (by simp)) (fun a => ?_)
 conv => whnf
 refine WPS.block ?_
 refine WPS.range TBgood mixed rfl rfl (c_rings1 a p (by omega)) (fun S hS => ?_) 2 [(2, .o (.v (.slice none 0 0))), (1, .o (.p 15 0)), (3, .o (.p 16 0))]
   (fun i (_ : Unit) => match i with
     | 0 => [(15, .box [.v p.o.V, .v p.HV] t_api_Polygon), (16, .box [.v (.slice none 0 0)] t_sl_api_Segment)]
     | i + 1 => [(15, .box [.v p.o.V, .v p.HV] t_api_Polygon), (16, .box [.w 14] t_sl_api_Segment), (14, .own t_api_Segment 12 (ls.take (i + 1)).flatten.length (rowV sgC (ls.take (i + 1)).flatten))])
   (fun i _ => True) () trivial (SLe.mk (fun k => bif Nat.beq k 15 then 1 else bif Nat.beq k 16 then 3 else k) ⟨rfl, rfl, rfl, trivial⟩ ⟨⟨_, rfl, .refl _⟩, ⟨_, rfl, .refl _⟩, trivial⟩ rfl (fun R hR => hR)) rfl
   (fun i j _ => match i with
     | 0 => ⟨rfl, rfl⟩
     | i + 1 => ⟨rfl, rfl⟩) rfl (fun x hx => by obtain ⟨e, _, rfl⟩ := List.mem_map.1 hx; rfl) rfl ?_ ?_
 · rcases List.mem_cons.1 hS with rfl | hS
   · exact List.mem_cons_self ..
   · rw [List.mem_singleton.1 hS]; exact List.mem_cons_of_mem _ Ply.F_H
 · intro W1 X i j Rx hi _
   rw [ringXs_len] at hi
   obtain ⟨h, hh⟩ : ∃ h, p.R[i]? = some h := ⟨_, List.getElem?_eq_getElem (by simp; omega)⟩
   rw [ringXs_get hh]
   have hli : ls[i]? = some (edgesL h.l) := by rw [hls, List.getElem?_map, hh]; rfl
   have hfs := flat_snoc hli
   have hmem := List.mem_of_getElem? hh
   obtain ⟨hr3, hr64⟩ := hr h hmem
   have hbi := hb i
   have hF : ∀ S : Res, h.F ∈ S :: SlRes (some a) p.C :: p.F := fun S => List.mem_cons_of_mem _ (List.mem_cons_of_mem _ (Ply.R_F hmem))
   match i with
   | 0 =>
     rw [List.take_zero, List.flatten_nil, List.nil_append] at hfs
     conv => whnf
     refine ⟨rfl, fun Ry => ?_⟩
     conv => whnf
     refine DrawVC.quiet (by kernel_rfl) ?_
     conv => whnf
     refine CallVCd.o (c_Edges h.A h.c h.l (by omega)).enters (CallV.facts (c_Edges h.A h.c h.l (by omega)) rfl (fun R hR => by rw [List.mem_singleton.1 hR]; exact hF _)) ?_
     conv => whnf
     refine ⟨rowV_all sgC_one _, ?_⟩
     conv => whnf
     refine ⟨⟨by show 0 + h.l.length ≤ _; omega, by show (0 + h.l.length) * 160 ≤ _; omega⟩, ?_⟩
     conv => whnf
     refine ⟨(), trivial, ?_⟩
     refine SLe.mk (fun k => bif Nat.beq k 14 then 13 else k) trivial ⟨⟨_, rfl, .refl _⟩, ⟨_, rfl, .refl _⟩, ⟨_, rfl, ?_⟩, trivial⟩ rfl (fun R hR => hR) (.inr (fun j => ren_hi (Nat.le_of_ble_eq_true rfl)))
     rw [hfs, edgesL_len, Nat.zero_add]
     exact .refl _
   | i + 1 =>
     conv => whnf
     refine ⟨rfl, fun Ry => ?_⟩
     conv => whnf
     refine DrawVC.quiet (by kernel_rfl) ?_
     conv => whnf
     refine CallVCd.o (c_Edges h.A h.c h.l (by omega)).enters (CallV.facts (c_Edges h.A h.c h.l (by omega)) rfl (fun R hR => by rw [List.mem_singleton.1 hR]; exact hF _)) ?_
     conv => whnf
     refine ⟨rowV_all sgC_one _, ?_⟩
     conv => whnf
     refine ⟨⟨by show (ls.take (i + 1)).flatten.length + h.l.length ≤ _; omega, by show ((ls.take (i + 1)).flatten.length + h.l.length) * 160 ≤ _; omega⟩, ?_⟩
     conv => whnf
     refine ⟨(), trivial, ?_⟩
     refine SLe.mk (fun k => bif Nat.beq k 14 then 13 else k) trivial ⟨⟨_, rfl, .refl _⟩, ⟨_, rfl, .refl _⟩, ⟨_, rfl, ?_⟩, trivial⟩ rfl (fun R hR => hR) (.inr (fun j => ren_hi (Nat.le_of_ble_eq_true rfl)))
     rw [hfs, List.length_append, edgesL_len, rowV_append, ← app_eq]
     exact .refl _
 · intro j _
   rw [ringXs_len]
   refine WPS.of TBgood mixed ?_
   conv => whnf
   refine ⟨14, rfl, ?_⟩
   show some (ME.own t_api_Segment 12 (ls.take (p.hs.length + 1)).flatten.length (rowV sgC (ls.take (p.hs.length + 1)).flatten)) = _
   rw [List.take_of_length_le (by omega), hls, show p.R.map (fun h => edgesL h.l) = (p.P.o :: p.P.hs).map edgesL by rw [← PR_map, List.map_map]; rfl]; rfl
end Go.Sx
end
section
set_option maxRecDepth 10000
set_option maxHeartbeats 2000000
namespace Go.Sx
open Go Go.Proofs
theorem chkFrom_all {q : PL} : ∀ (l : List (List Pt)) (i : Nat), chkFrom q i l = 0 → ∀ h ∈ l, chkL h = 0
 | [], _, _, h, hh => by cases hh
 | x :: r, i, h0, h, hh => by
   unfold chkFrom at h0
   split at h0
   · rename_i h1; exact absurd h0 h1
   · rename_i h1
     rcases List.mem_cons.1 hh with rfl | hh
     · exact chkHole_ring (Decidable.not_not.1 h1)
     · exact chkFrom_all r (i + 1) h0 h hh
theorem chkP_rings {q : PL} (h : chkP q = 0) : q.hs.length ≤ 8 ∧ chkL q.o = 0 ∧ ∀ h ∈ q.hs, chkL h = 0 := by
 unfold chkP at h
 split at h
 · rename_i h1; exact absurd h h1
 rename_i h1
 split at h
 · exact absurd h (by decide)
 rename_i h2
 exact ⟨by omega, Decidable.not_not.1 h1, chkFrom_all _ _ h⟩
theorem chkP_R {p : Ply} (h : chkP p.P = 0) : p.hs.length ≤ 8 ∧ (∀ x ∈ p.R, chkL x.l = 0) ∧ ∀ x ∈ p.R, 3 ≤ x.l.length ∧ x.l.length ≤ 64 := by
 obtain ⟨h1, h2, h3⟩ := chkP_rings h
 rw [List.length_map] at h1
 have h4 : ∀ x ∈ p.R, chkL x.l = 0 := fun x hx => by
   rcases List.mem_cons.1 hx with rfl | hx
   · exact h2
   · exact h3 _ (List.mem_map_of_mem hx)
 exact ⟨h1, h4, fun x hx => chkL_len (h4 x hx)⟩
theorem Ply.R_sm {p : Ply} (hp : p.wf) {h : Hd} (hh : h ∈ p.R) : h.sm KS ∧ h.l.length ≤ h.c := by
 rcases List.mem_cons.1 hh with rfl | hh
 · exact ⟨hp.os, hp.oc⟩
 · exact ⟨hp.hs h hh, hp.hc h hh⟩
def whereF (x : Pt) : Nat → List (List Pt) → Int
 | _, [] => 1
 | i, l :: r => if (if 0 < i then -(insL l x).1 else (insL l x).1) ≤ 0 then (if 0 < i then -(insL l x).1 else (insL l x).1) else whereF x (i + 1) r
def whereP (q : PL) (x : Pt) : Int := whereF x 0 (q.o :: q.hs)
theorem insL_val (l : List Pt) (x : Pt) : (insL l x).1 = 0 ∨ (insL l x).1 = 1 ∨ (insL l x).1 = -1 := by
 unfold insL
 split
 · exact .inl rfl
 split
 · exact .inl rfl
 split
 · exact .inl rfl
 split
 · exact .inr (.inl rfl)
 · exact .inr (.inr rfl)
theorem c_where (p : Ply) (x : Pt) (hp : p.wf) (hl : p.hs.length ≤ 1000000) (hx : x.sm KS) : FnM PP f_polygon_where [p.V, pV x] (facts p.F) (retsV (.int .i64 (whereP p.P x))) := by
 refine FnM.ofS TBgood mixed h_polygon_where rfl rfl (Nat.le_of_ble_eq_true rfl) Ply.F_ok (fun w l st E w' hp hm => postV_ok hp hm) ?_
 intro w hw
 refine WPS.peel TBgood mixed ?_
 conv => whnf
 refine WPS.seq ?_
 refine WPS.seq ?_
 refine WPS.of TBgood mixed ?_
 conv => whnf
 refine CallVC.f1 (c_rings p).enters (CallV.facts (c_rings p) rfl (by simp)) (fun a => ?_)
 conv => whnf
 refine WPS.block ?_
 refine WPS.range TBgood mixed rfl rfl (c_rings1 a p hl) (fun S hS => ?_) 3 [(2, .o (.p 26 0)), (3, .o (.p 27 0)), (4, .o (.p 28 0))]
   (fun i (_ : Unit) => [(26, .box [.v p.o.V, .v p.HV] t_api_Polygon), (27, ptB x), (28, .box [.v (.int .i64 0)] t_int)])
   (fun i _ => whereP p.P x = whereF x i ((p.R.map (·.l)).drop i)) () rfl (SLe.mk (fun k => bif Nat.beq k 26 then 2 else bif Nat.beq k 27 then 3 else bif Nat.beq k 28 then 4 else k) ⟨rfl, rfl, rfl, trivial⟩ ⟨⟨_, rfl, .refl _⟩, ⟨_, rfl, .refl _⟩, ⟨_, rfl, .refl _⟩, trivial⟩ rfl (fun R hR => hR)) rfl
   (fun i j _ => ⟨rfl, rfl⟩) rfl (fun x hx => by obtain ⟨e, _, rfl⟩ := List.mem_map.1 hx; rfl) rfl ?_ ?_
 · rcases List.mem_cons.1 hS with rfl | hS
   · exact List.mem_cons_self ..
   · rw [List.mem_singleton.1 hS]; exact List.mem_cons_of_mem _ Ply.F_H
 · intro W1 X i j Rx hi hwh
   rw [ringXs_len] at hi
   obtain ⟨h, hh⟩ : ∃ h, p.R[i]? = some h := ⟨_, List.getElem?_eq_getElem (by simp; omega)⟩
   rw [ringXs_get hh]
   have hmem := List.mem_of_getElem? hh
   obtain ⟨hsm, hcap⟩ := Ply.R_sm hp hmem
   have hF : ∀ S : Res, h.F ∈ S :: SlRes (some a) p.C :: p.F := fun S => List.mem_cons_of_mem _ (List.mem_cons_of_mem _ (Ply.R_F hmem))
   have hli : (p.R.map (·.l))[i]? = some h.l := by rw [List.getElem?_map, hh]; rfl
   rw [drop_cons hli, whereF] at hwh
   have hv := insL_val h.l x
   have hcall := c_ringInside h.A h.c h.l x hcap hsm hx
   conv => whnf
   refine ⟨rfl, fun Ry => ?_⟩
   conv => whnf
   refine CallVC.v hcall.enters (CallV.facts hcall rfl (fun R hR => by rw [List.mem_singleton.1 hR]; exact hF _)) ?_
   unfold insV
   generalize (insL h.l x).2 = e at hcall ⊢
   generalize (insL h.l x).1 = m at hv hwh ⊢
   conv => whnf
   refine br_split ?_ ?_
   · intro hi0
     have hi1 : 0 < i := by
       have : (i : Int) > 0 := of_decide_eq_true hi0
       omega
     rw [if_pos hi1] at hwh
     rcases hv with rfl | rfl | rfl
     · conv => whnf
       exact ⟨[(26, .box [.v p.o.V, .v p.HV] t_api_Polygon), (27, ptB x), (28, .box [.v (.int .i64 0)] t_int)], rfl, rfl, SLe.id trivial ⟨⟨_, rfl, .refl _⟩, ⟨_, rfl, .refl _⟩, ⟨_, rfl, .refl _⟩, trivial⟩ (fun R hR => hR), postV_one (by rw [hwh]; rfl)⟩
     · conv => whnf
       exact ⟨[(26, .box [.v p.o.V, .v p.HV] t_api_Polygon), (27, ptB x), (28, .box [.v (.int .i64 (-1))] t_int)], rfl, rfl, SLe.id trivial ⟨⟨_, rfl, .refl _⟩, ⟨_, rfl, .refl _⟩, ⟨_, rfl, .refl _⟩, trivial⟩ (fun R hR => hR), postV_one (by rw [hwh]; rfl)⟩
     · conv => whnf
       exact ⟨(), by rw [hwh]; rfl, SLe.id trivial ⟨⟨_, rfl, .refl _⟩, ⟨_, rfl, .refl _⟩, ⟨_, rfl, .refl _⟩, trivial⟩ (fun R hR => hR)⟩
   · intro hi0
     have hi1 : ¬ 0 < i := by
       have : ¬ (i : Int) > 0 := of_decide_eq_false hi0
       omega
     rw [if_neg hi1] at hwh
     rcases hv with rfl | rfl | rfl
     · conv => whnf
       exact ⟨[(26, .box [.v p.o.V, .v p.HV] t_api_Polygon), (27, ptB x), (28, .box [.v (.int .i64 0)] t_int)], rfl, rfl, SLe.id trivial ⟨⟨_, rfl, .refl _⟩, ⟨_, rfl, .refl _⟩, ⟨_, rfl, .refl _⟩, trivial⟩ (fun R hR => hR), postV_one (by rw [hwh]; rfl)⟩
     · conv => whnf
       exact ⟨(), by rw [hwh]; rfl, SLe.id trivial ⟨⟨_, rfl, .refl _⟩, ⟨_, rfl, .refl _⟩, ⟨_, rfl, .refl _⟩, trivial⟩ (fun R hR => hR)⟩
     · conv => whnf
       exact ⟨[(26, .box [.v p.o.V, .v p.HV] t_api_Polygon), (27, ptB x), (28, .box [.v (.int .i64 (-1))] t_int)], rfl, rfl, SLe.id trivial ⟨⟨_, rfl, .refl _⟩, ⟨_, rfl, .refl _⟩, ⟨_, rfl, .refl _⟩, trivial⟩ (fun R hR => hR), postV_one (by rw [hwh]; rfl)⟩
 · intro j hwh
   rw [ringXs_len, List.drop_of_length_le (by simp)] at hwh
   refine WPS.of TBgood mixed ?_
   conv => whnf
   exact postV_one (by rw [hwh]; rfl)
end Go.Sx
end
section
set_option maxRecDepth 10000
set_option maxHeartbeats 2000000
namespace Go.Sx
open Go Go.Proofs
def insP (q : PL) (x : Pt) : Int × Int := if chkP q ≠ 0 then (0, 1) else if ¬ x.ok then (0, 1) else (whereP q x, 0)
theorem c_pInside (p : Ply) (x : Pt) (hp : p.wf) (hx : x.sm KS) : FnM PP f_polygon_Inside [p.V, pV x] (facts p.F) (retsV (insV (insP p.P x))) := by
 refine FnS.of TBgood mixed h_polygon_Inside rfl rfl (Nat.le_of_ble_eq_true rfl) Ply.F_ok ?_
 intro w hw
 conv => whnf
 refine CallVC.v (c_polyCheck p hp).enters (CallV.facts (c_polyCheck p hp) rfl (fun R hR => hR)) ?_
 unfold insP
 generalize hk : chkP p.P = k
 conv => whnf
 refine br_split ?_ ?_
 · intro hb
   have h1 : k ≠ 0 := by intro h0; rw [h0] at hb; exact absurd hb (by decide)
   rw [if_pos h1]
   conv => whnf
   exact postV_two rfl
 · intro hb
   have h1 : k = 0 := by simpa using hb
   rw [if_neg (by rw [h1]; decide)]
   conv => whnf
   refine CallVC.fn (c_vCheck x (hx.le (by decide))) rfl ?_
   by_cases hok : x.ok
   · rw [if_pos hok, if_neg (not_not_intro hok)]
     conv => whnf
     refine CallVC.v (c_where p x hp (by have := (chkP_R (hk.trans h1)).1; omega) hx).enters (CallV.facts (c_where p x hp (by have := (chkP_R (hk.trans h1)).1; omega) hx) rfl (fun R hR => hR)) ?_
     conv => whnf
     exact postV_two rfl
   · rw [if_neg hok, if_pos hok]
     conv => whnf
     exact postV_two rfl
theorem c_pCorners (p : Ply) (hp : p.wf) (h0 : chkP p.P = 0) : FnM PP f_polygon_Corners [p.V] (facts p.F) (retsT t_api_Point 6 (cornersP p.P).length (rowV ptC (cornersP p.P)) (.int .i64 0)) := by
 refine FnT.of TBgood mixed h_polygon_Corners rfl rfl (Nat.le_of_ble_eq_true rfl) Ply.F_ok ?_
 intro w hw
 obtain ⟨h8, hch, hlen⟩ := chkP_R h0
 conv => whnf
 refine CallVC.v (c_polyCheck p hp).enters (CallV.facts (c_polyCheck p hp) rfl (fun R hR => hR)) ?_
 rw [h0]
 conv => whnf
 refine CallVC.o 8 (c_corners p h8 hlen).enters (CallV.facts (c_corners p h8 hlen) rfl (fun R hR => hR)) rfl rfl ?_
 conv => whnf
 exact ⟨8, rfl, rfl⟩
theorem c_pEdges (p : Ply) (hp : p.wf) (h0 : chkP p.P = 0) : FnM PP f_polygon_Edges [p.V] (facts p.F) (retsT t_api_Segment 12 (edgesP p.P).length (rowV sgC (edgesP p.P)) (.int .i64 0)) := by
 refine FnT.of TBgood mixed h_polygon_Edges rfl rfl (Nat.le_of_ble_eq_true rfl) Ply.F_ok ?_
 intro w hw
 obtain ⟨h8, hch, hlen⟩ := chkP_R h0
 conv => whnf
 refine CallVC.v (c_polyCheck p hp).enters (CallV.facts (c_polyCheck p hp) rfl (fun R hR => hR)) ?_
 rw [h0]
 conv => whnf
 refine CallVC.o 8 (c_pedges p h8 hlen).enters (CallV.facts (c_pedges p h8 hlen) rfl (fun R hR => hR)) rfl rfl ?_
 conv => whnf
 exact ⟨8, rfl, rfl⟩
theorem yl_step {α : Type} {L : List α} {f : α → List Value} {n : Nat} {c : α} {r : List α} (h : L.drop n = c :: r) : n < (L.map f).length ∧ (L.map f).getD n [] = f c ∧ L.drop (n + 1) = r ∧ n + 1 ≤ L.length := by
 have hn : n < L.length := by
   rcases Nat.lt_or_ge n L.length with h1 | h1
   · exact h1
   · rw [List.drop_of_length_le h1] at h; cases h
 have hc : L[n]? = some c := by
   have := congrArg (fun l => l[0]?) h
   simpa using this
 refine ⟨by rw [List.length_map]; exact hn, getD_of (by rw [List.getElem?_map, hc]; rfl), ?_, hn⟩
 rw [drop_cons hc] at h
 exact (List.cons.inj h).2
theorem yl_end {α : Type} {L : List α} {n : Nat} (h : L.drop n = []) (hn : n ≤ L.length) : n = L.length := by
 have := List.length_drop (i := n) (l := L)
 rw [h] at this
 simp at this; omega
end Go.Sx
end
section
set_option maxRecDepth 10000
set_option maxHeartbeats 2000000
namespace Go.Sx
open Go Go.Proofs
def inB (q : PL) (c : Pt) : Bool := decide ((insP q c).2 = 0) && decide ((insP q c).1 ≥ 0)
def meetQ (e e' : Pt × Pt) : Option Pt := if degen (sgE e) ∨ degen (sgE e') then none else (meetV e.1.v e.2.v e'.1.v e'.2.v).map fun x => PQ x.1
def meetsQ (es ts : List (Pt × Pt)) : List Pt := es.flatMap fun e => ts.filterMap (meetQ e)
def commonL (p q : PL) : List Pt := (cornersP p).filter (inB q) ++ ((cornersP q).filter (inB p) ++ meetsQ (edgesP p) (edgesP q))
abbrev ptXs (l : List Pt) : List (List Value) := l.map fun c => [pV c]
theorem c_common (p q : Ply) : FnM PP f_distance_common [p.V, q.V] (facts []) (retsF f_distance_common_1 [p.C, q.C]) := by
 refine FnF.of TBgood mixed h_distance_common rfl rfl (Nat.le_of_ble_eq_true rfl) (by simp) ?_
 intro w hw
 conv => whnf
 refine ⟨[2, 3], rfl, rfl, fun i k' c' h1 h2 => ?_⟩
 match i with
 | 0 => cases h1; cases h2; rfl
 | 1 => cases h1; cases h2; rfl
 | i + 2 => cases h1
theorem cornersP_sm {p : Ply} (hp : p.wf) : Lsm KS (cornersP p.P) := fun x hx => by
 obtain ⟨l, hl, hx⟩ := List.mem_flatten.1 hx
 rw [← PR_map] at hl
 obtain ⟨h, hh, rfl⟩ := List.mem_map.1 hl
 exact (Ply.R_sm hp hh).1 x hx
theorem edgesP_sm {p : Ply} (hp : p.wf) {e : Pt × Pt} (he : e ∈ edgesP p.P) : e.1.sm KS ∧ e.2.sm KS := by
 obtain ⟨l, hl, hx⟩ := List.mem_flatten.1 he
 obtain ⟨r, hr, rfl⟩ := List.mem_map.1 hl
 rw [← PR_map] at hr
 obtain ⟨h, hh, rfl⟩ := List.mem_map.1 hr
 exact edgesL_sm (Ply.R_sm hp hh).1 hx
theorem cornersP_len {p : Ply} (h0 : chkP p.P = 0) : (cornersP p.P).length ≤ 9 * 64 := by
 obtain ⟨h8, hch, hlen⟩ := chkP_R h0
 refine Nat.le_trans (flat_le (k := 64) _ (fun x hx => ?_)) (Nat.mul_le_mul_right 64 (by simp; omega))
 rw [← PR_map] at hx
 obtain ⟨h, hh, rfl⟩ := List.mem_map.1 hx
 exact (hlen h hh).2
theorem edgesP_len {p : Ply} (h0 : chkP p.P = 0) : (edgesP p.P).length ≤ 9 * 64 := by
 obtain ⟨h8, hch, hlen⟩ := chkP_R h0
 refine Nat.le_trans (flat_le (k := 64) _ (fun x hx => ?_)) (Nat.mul_le_mul_right 64 (by simp; omega))
 obtain ⟨l, hl, rfl⟩ := List.mem_map.1 hx
 rw [← PR_map] at hl
 obtain ⟨h, hh, rfl⟩ := List.mem_map.1 hl
 rw [edgesL_len]; exact (hlen h hh).2
theorem polyC_row {A : Addr} {p : Ply} {st : SS} {K : SV → Prop} (hR : SlRes (some A) p.C ∈ st.re) (hA : ∃ b o, A = ⟨b, o, none⟩) (hk : K (.o (.v p.V))) : LoadVC st 2 true (some A) K := by
 obtain ⟨b, o, rfl⟩ := hA
 exact LoadVC.row (off := 0) hR (Addr_add0 _ _) (Nat.le_of_ble_eq_true rfl) (by decide) (fun h => by cases h) hk
abbrev comRe (a1 a2 : Addr) (p q : Ply) : List Res := SlRes (some a1) p.C :: SlRes (some a2) q.C :: (p.F ++ q.F)
theorem comRe_p {a1 a2 : Addr} {p q : Ply} {S R : Res} (h : R ∈ p.F) : R ∈ S :: comRe a1 a2 p q := List.mem_cons_of_mem _ (List.mem_cons_of_mem _ (List.mem_cons_of_mem _ (List.mem_append_left _ h)))
theorem comRe_q {a1 a2 : Addr} {p q : Ply} {S R : Res} (h : R ∈ q.F) : R ∈ S :: comRe a1 a2 p q := List.mem_cons_of_mem _ (List.mem_cons_of_mem _ (List.mem_cons_of_mem _ (List.mem_append_right _ h)))
theorem comRe_ok {a1 a2 : Addr} {p q : Ply} : ∀ R ∈ comRe a1 a2 p q, R.ok := fun R hR => by
 rcases List.mem_cons.1 hR with rfl | hR
 · exact SlRes.ok _ _
 rcases List.mem_cons.1 hR with rfl | hR
 · exact SlRes.ok _ _
 rcases List.mem_append.1 hR with hR | hR
 · exact Ply.F_ok R hR
 · exact Ply.F_ok R hR
theorem c_common1 (a1 a2 : Addr) (p q : Ply) (hp : p.wf) (hq : q.wf) (hp0 : chkP p.P = 0) (hq0 : chkP q.P = 0) : SeqC PP f_distance_common_1 [ptrV a1, ptrV a2] (comRe a1 a2 p q) (ptXs (commonL p.P q.P)) := by
 refine SeqC.of TBgood mixed h_distance_common_1 rfl rfl (Nat.le_of_ble_eq_true rfl) comRe_ok ?_
 intro yl W B R X hW hy
 obtain ⟨b1, o1, rfl⟩ := slf_addr (hW _ (List.mem_cons_self ..)) (by simp [Ply.C])
 obtain ⟨b2, o2, rfl⟩ := slf_addr (hW _ (List.mem_cons_of_mem _ (List.mem_cons_self ..))) (by simp [Ply.C])
 have m1 : ∀ i Z, SlRes (some ⟨b1, o1, none⟩) p.C ∈ R i Z :: comRe ⟨b1, o1, none⟩ ⟨b2, o2, none⟩ p q := fun i Z => List.mem_cons_of_mem _ (List.mem_cons_self ..)
 have m2 : ∀ i Z, SlRes (some ⟨b2, o2, none⟩) q.C ∈ R i Z :: comRe ⟨b1, o1, none⟩ ⟨b2, o2, none⟩ p q := fun i Z => List.mem_cons_of_mem _ (List.mem_cons_of_mem _ (List.mem_cons_self ..))
 obtain ⟨L, hL⟩ : ∃ L, L = commonL p.P q.P := ⟨_, rfl⟩
 rw [← hL] at hy ⊢
 refine WPS.of TBgood mixed ?_
 conv => whnf
 refine polyC_row (m1 _ _) ⟨_, _, rfl⟩ ?_
 conv => whnf
 refine polyC_row (m2 _ _) ⟨_, _, rfl⟩ ?_
 conv => whnf
 refine polyC_row (m2 _ _) ⟨_, _, rfl⟩ ?_
 conv => whnf
 refine polyC_row (m1 _ _) ⟨_, _, rfl⟩ ?_
 conv => whnf
 refine sexec_loop (ι := Nat × Nat × List Nat) (fun ⟨i, n, Z⟩ => ⟨[(0, .o (.v (yieldV yl))), (1, .o (.v (ptrV ⟨b1, o1, none⟩))), (2, .o (.v (ptrV ⟨b2, o2, none⟩))), (29, .o (.v (.agg ⟨[p.o.V, p.HV, q.o.V, q.HV, q.o.V, q.HV, p.o.V, p.HV]⟩))), (30, .o (.v (.int .i64 i)))], [], R n Z :: comRe ⟨b1, o1, none⟩ ⟨b2, o2, none⟩ p q⟩)
   (fun ⟨i, n, Z⟩ => i ≤ 2 ∧ n ≤ L.length ∧ L.drop n = if i = 0 then L else if i = 1 then (cornersP q.P).filter (inB p.P) ++ meetsQ (edgesP p.P) (edgesP q.P) else meetsQ (edgesP p.P) (edgesP q.P)) (fun ⟨i, n, Z⟩ => 2 - i) (0, 0, []) ⟨Nat.zero_le _, Nat.zero_le _, rfl⟩ (SLe.id ⟨rfl, rfl, rfl, rfl, rfl, trivial⟩ trivial (fun R hR => hR)) ?_
 rintro ⟨i, n, Z⟩ ⟨hi, hnl, hdr⟩
 obtain rfl | rfl | rfl : i = 0 ∨ i = 1 ∨ i = 2 := by omega
 · have hdr2 : L.drop n = (cornersP p.P).filter (inB q.P) ++ ((cornersP q.P).filter (inB p.P) ++ meetsQ (edgesP p.P) (edgesP q.P)) := by rw [hdr, if_pos rfl, hL]; rfl
   conv => whnf
   refine ⟨by decide, ?_⟩
   conv => whnf
   refine ⟨by decide, ?_⟩
   conv => whnf
   refine CallVC.t 36 (c_pCorners p hp hp0).enters (CallV.facts (c_pCorners p hp hp0) rfl (fun S hS => by exact comRe_p hS)) rfl rfl ?_
   have hcl := cornersP_len hp0
   have hcs := cornersP_sm hp
   generalize cornersP p.P = cs at hcl hcs hdr2 ⊢
   conv => whnf
   refine sexec_loop (ι := Nat × Nat × List Nat) (fun ⟨k, m, Z⟩ => ⟨[(0, .o (.v (yieldV yl))), (1, .o (.v (ptrV ⟨b1, o1, none⟩))), (2, .o (.v (ptrV ⟨b2, o2, none⟩))), (29, .o (.v (.agg ⟨[p.o.V, p.HV, q.o.V, q.HV, q.o.V, q.HV, p.o.V, p.HV]⟩))), (30, .o (.v (.int .i64 0))), (5, .o (.p 5 0)), (39, .o (.w 36)), (40, .o (.v (.int .i64 cs.length))), (41, .o (.v (.int .i64 k)))], [(5, .box [.v p.o.V, .v p.HV, .v q.o.V, .v q.HV] t_ar2_api_Polygon), (36, .own t_api_Point 6 cs.length (rowV ptC cs))], R m Z :: comRe ⟨b1, o1, none⟩ ⟨b2, o2, none⟩ p q⟩)
     (fun ⟨k, m, Z⟩ => k ≤ cs.length ∧ m ≤ L.length ∧ L.drop m = (cs.drop k).filter (inB q.P) ++ ((cornersP q.P).filter (inB p.P) ++ meetsQ (edgesP p.P) (edgesP q.P))) (fun ⟨k, m, Z⟩ => cs.length - k) (0, n, Z) ⟨Nat.zero_le _, hnl, hdr2⟩ (SLe.id ⟨rfl, rfl, rfl, rfl, rfl, rfl, rfl, rfl, rfl, trivial⟩ ⟨⟨_, rfl, .refl _⟩, ⟨_, rfl, .refl _⟩, trivial⟩ (fun R hR => hR)) ?_
   rintro ⟨k, m, Z⟩ ⟨hk, hml, hdm⟩
   conv => whnf
   refine br_split ?_ ?_
   · intro h
     have hk2 : k < cs.length := by
       have : (k : Int) < (cs.length : Int) := of_decide_eq_true h
       omega
     conv => whnf
     refine ⟨⟨by omega, by omega⟩, ?_⟩
     conv => whnf
     refine RowVC.elem ptC ptC_len (k := k) (by show (k : Int).toNat * 6 = k * 6; rw [Int.toNat_natCast]) (by omega) (by decide) (fun h => by cases h) ?_
     intro c hc
     have hcsm := hcs c (List.mem_of_getElem? hc)
     rw [drop_cons hc] at hdm
     conv => whnf
     refine ⟨by decide, ?_⟩
     conv => whnf
     refine CallVC.v (c_pInside q c hq hcsm).enters (CallV.facts (c_pInside q c hq hcsm) rfl (fun S hS => by exact comRe_q hS)) ?_
     have hin : inB q.P c = (decide ((insP q.P c).2 = 0) && decide ((insP q.P c).1 ≥ 0)) := rfl
     unfold insV
     generalize (insP q.P c).2 = e at hin ⊢
     generalize (insP q.P c).1 = v at hin ⊢
     by_cases he : e = 0
     · subst he
       conv => whnf
       refine br_split ?_ ?_
       · intro h2
         have hin2 : inB q.P c = true := by rw [hin, h2]; rfl
         rw [List.filter_cons, if_pos hin2, List.cons_append] at hdm
         obtain ⟨y1, y2, y3, y4⟩ := yl_step (f := fun c => [pV c]) hdm
         conv => whnf
         refine hy m Z _ _ _ y1 rfl (by rw [y2]; rfl) (fun Z' => ?_) (fun Z' => ?_)
         · conv => whnf
           exact ⟨(k + 1, m + 1, Z'), ⟨by omega, y4, y3⟩, by show cs.length - (k + 1) < cs.length - k; omega, SLe.id ⟨rfl, rfl, rfl, rfl, rfl, rfl, rfl, rfl, some_wrap hk2 (by omega), trivial⟩ ⟨⟨_, rfl, .refl _⟩, ⟨_, rfl, .refl _⟩, trivial⟩ (fun S hS => hS)⟩
         · conv => whnf
           exact .inr ⟨Z', List.mem_cons_self ..⟩
       · intro h2
         have hin2 : inB q.P c = false := by rw [hin, h2]; rfl
         rw [List.filter_cons, if_neg (by rw [hin2]; decide)] at hdm
         conv => whnf
         exact ⟨(k + 1, m, Z), ⟨by omega, hml, hdm⟩, by show cs.length - (k + 1) < cs.length - k; omega, SLe.id ⟨rfl, rfl, rfl, rfl, rfl, rfl, rfl, rfl, some_wrap hk2 (by omega), trivial⟩ ⟨⟨_, rfl, .refl _⟩, ⟨_, rfl, .refl _⟩, trivial⟩ (fun S hS => hS)⟩
     · have hin2 : inB q.P c = false := by rw [hin, decide_eq_false he]; rfl
       rw [List.filter_cons, if_neg (by rw [hin2]; decide)] at hdm
       conv => whnf
       refine br_false (by simpa using he) ?_
       conv => whnf
       exact ⟨(k + 1, m, Z), ⟨by omega, hml, hdm⟩, by show cs.length - (k + 1) < cs.length - k; omega, SLe.id ⟨rfl, rfl, rfl, rfl, rfl, rfl, rfl, rfl, some_wrap hk2 (by omega), trivial⟩ ⟨⟨_, rfl, .refl _⟩, ⟨_, rfl, .refl _⟩, trivial⟩ (fun S hS => hS)⟩
   · intro h
     have hk2 : k = cs.length := by
       have : ¬ (k : Int) < (cs.length : Int) := of_decide_eq_false h
       omega
     rw [hk2, List.drop_length, List.filter_nil, List.nil_append] at hdm
     conv => whnf
     exact ⟨(0 + 1, m, Z), ⟨by omega, hml, hdm⟩, by show 2 - (0 + 1) < 2 - 0; omega, SLe.id ⟨rfl, rfl, rfl, rfl, rfl, trivial⟩ trivial (fun S hS => hS)⟩
 · have hdr2 : L.drop n = (cornersP q.P).filter (inB p.P) ++ meetsQ (edgesP p.P) (edgesP q.P) := hdr
   conv => whnf
   refine ⟨by decide, ?_⟩
   conv => whnf
   refine ⟨by decide, ?_⟩
   conv => whnf
   refine CallVC.t 36 (c_pCorners q hq hq0).enters (CallV.facts (c_pCorners q hq hq0) rfl (fun S hS => by exact comRe_q hS)) rfl rfl ?_
   have hcl := cornersP_len hq0
   have hcs := cornersP_sm hq
   generalize cornersP q.P = cs at hcl hcs hdr2 ⊢
   conv => whnf
   refine sexec_loop (ι := Nat × Nat × List Nat) (fun ⟨k, m, Z⟩ => ⟨[(0, .o (.v (yieldV yl))), (1, .o (.v (ptrV ⟨b1, o1, none⟩))), (2, .o (.v (ptrV ⟨b2, o2, none⟩))), (29, .o (.v (.agg ⟨[p.o.V, p.HV, q.o.V, q.HV, q.o.V, q.HV, p.o.V, p.HV]⟩))), (30, .o (.v (.int .i64 1))), (5, .o (.p 5 0)), (39, .o (.w 36)), (40, .o (.v (.int .i64 cs.length))), (41, .o (.v (.int .i64 k)))], [(5, .box [.v q.o.V, .v q.HV, .v p.o.V, .v p.HV] t_ar2_api_Polygon), (36, .own t_api_Point 6 cs.length (rowV ptC cs))], R m Z :: comRe ⟨b1, o1, none⟩ ⟨b2, o2, none⟩ p q⟩)
     (fun ⟨k, m, Z⟩ => k ≤ cs.length ∧ m ≤ L.length ∧ L.drop m = (cs.drop k).filter (inB p.P) ++ meetsQ (edgesP p.P) (edgesP q.P)) (fun ⟨k, m, Z⟩ => cs.length - k) (0, n, Z) ⟨Nat.zero_le _, hnl, hdr2⟩ (SLe.id ⟨rfl, rfl, rfl, rfl, rfl, rfl, rfl, rfl, rfl, trivial⟩ ⟨⟨_, rfl, .refl _⟩, ⟨_, rfl, .refl _⟩, trivial⟩ (fun R hR => hR)) ?_
   rintro ⟨k, m, Z⟩ ⟨hk, hml, hdm⟩
   conv => whnf
   refine br_split ?_ ?_
   · intro h
     have hk2 : k < cs.length := by
       have : (k : Int) < (cs.length : Int) := of_decide_eq_true h
       omega
     conv => whnf
     refine ⟨⟨by omega, by omega⟩, ?_⟩
     conv => whnf
     refine RowVC.elem ptC ptC_len (k := k) (by show (k : Int).toNat * 6 = k * 6; rw [Int.toNat_natCast]) (by omega) (by decide) (fun h => by cases h) ?_
     intro c hc
     have hcsm := hcs c (List.mem_of_getElem? hc)
     rw [drop_cons hc] at hdm
     conv => whnf
     refine ⟨by decide, ?_⟩
     conv => whnf
     refine CallVC.v (c_pInside p c hp hcsm).enters (CallV.facts (c_pInside p c hp hcsm) rfl (fun S hS => by exact comRe_p hS)) ?_
     have hin : inB p.P c = (decide ((insP p.P c).2 = 0) && decide ((insP p.P c).1 ≥ 0)) := rfl
     unfold insV
     generalize (insP p.P c).2 = e at hin ⊢
     generalize (insP p.P c).1 = v at hin ⊢
     by_cases he : e = 0
     · subst he
       conv => whnf
       refine br_split ?_ ?_
       · intro h2
         have hin2 : inB p.P c = true := by rw [hin, h2]; rfl
         rw [List.filter_cons, if_pos hin2, List.cons_append] at hdm
         obtain ⟨y1, y2, y3, y4⟩ := yl_step (f := fun c => [pV c]) hdm
         conv => whnf
         refine hy m Z _ _ _ y1 rfl (by rw [y2]; rfl) (fun Z' => ?_) (fun Z' => ?_)
         · conv => whnf
           exact ⟨(k + 1, m + 1, Z'), ⟨by omega, y4, y3⟩, by show cs.length - (k + 1) < cs.length - k; omega, SLe.id ⟨rfl, rfl, rfl, rfl, rfl, rfl, rfl, rfl, some_wrap hk2 (by omega), trivial⟩ ⟨⟨_, rfl, .refl _⟩, ⟨_, rfl, .refl _⟩, trivial⟩ (fun S hS => hS)⟩
         · conv => whnf
           exact .inr ⟨Z', List.mem_cons_self ..⟩
       · intro h2
         have hin2 : inB p.P c = false := by rw [hin, h2]; rfl
         rw [List.filter_cons, if_neg (by rw [hin2]; decide)] at hdm
         conv => whnf
         exact ⟨(k + 1, m, Z), ⟨by omega, hml, hdm⟩, by show cs.length - (k + 1) < cs.length - k; omega, SLe.id ⟨rfl, rfl, rfl, rfl, rfl, rfl, rfl, rfl, some_wrap hk2 (by omega), trivial⟩ ⟨⟨_, rfl, .refl _⟩, ⟨_, rfl, .refl _⟩, trivial⟩ (fun S hS => hS)⟩
     · have hin2 : inB p.P c = false := by rw [hin, decide_eq_false he]; rfl
       rw [List.filter_cons, if_neg (by rw [hin2]; decide)] at hdm
       conv => whnf
       refine br_false (by simpa using he) ?_
       conv => whnf
       exact ⟨(k + 1, m, Z), ⟨by omega, hml, hdm⟩, by show cs.length - (k + 1) < cs.length - k; omega, SLe.id ⟨rfl, rfl, rfl, rfl, rfl, rfl, rfl, rfl, some_wrap hk2 (by omega), trivial⟩ ⟨⟨_, rfl, .refl _⟩, ⟨_, rfl, .refl _⟩, trivial⟩ (fun S hS => hS)⟩
   · intro h
     have hk2 : k = cs.length := by
       have : ¬ (k : Int) < (cs.length : Int) := of_decide_eq_false h
       omega
     rw [hk2, List.drop_length, List.filter_nil, List.nil_append] at hdm
     conv => whnf
     exact ⟨(1 + 1, m, Z), ⟨by omega, hml, hdm⟩, by show 2 - (1 + 1) < 2 - 1; omega, SLe.id ⟨rfl, rfl, rfl, rfl, rfl, trivial⟩ trivial (fun S hS => hS)⟩
 · have hdr2 : L.drop n = meetsQ (edgesP p.P) (edgesP q.P) := hdr
   conv => whnf
   refine polyC_row (m1 _ _) ⟨_, _, rfl⟩ ?_
   conv => whnf
   refine CallVC.t 68 (c_pEdges p hp hp0).enters (CallV.facts (c_pEdges p hp hp0) rfl (fun S hS => by exact comRe_p hS)) rfl rfl ?_
   conv => whnf
   refine polyC_row (m2 _ _) ⟨_, _, rfl⟩ ?_
   conv => whnf
   refine CallVC.t 73 (c_pEdges q hq hq0).enters (CallV.facts (c_pEdges q hq hq0) rfl (fun S hS => by exact comRe_q hS)) rfl rfl ?_
   have hel := edgesP_len hp0
   have htl := edgesP_len hq0
   have hes := fun e he => edgesP_sm hp (e := e) he
   have hts := fun e he => edgesP_sm hq (e := e) he
   generalize edgesP p.P = es at hel hes hdr2 ⊢
   generalize edgesP q.P = ts at htl hts hdr2 ⊢
   conv => whnf
   refine sexec_loop (ι := Nat × Nat × List Nat) (fun ⟨i, m, Z⟩ => ⟨[(0, .o (.v (yieldV yl))), (14, .o (.w 73)), (76, .o (.w 68)), (77, .o (.v (.int .i64 es.length))), (78, .o (.v (.int .i64 i)))], [(68, .own t_api_Segment 12 es.length (rowV sgC es)), (73, .own t_api_Segment 12 ts.length (rowV sgC ts))], R m Z :: comRe ⟨b1, o1, none⟩ ⟨b2, o2, none⟩ p q⟩)
     (fun ⟨i, m, Z⟩ => i ≤ es.length ∧ m ≤ L.length ∧ L.drop m = meetsQ (es.drop i) ts) (fun ⟨i, m, Z⟩ => es.length - i) (0, n, Z) ⟨Nat.zero_le _, hnl, hdr2⟩ (SLe.id ⟨rfl, rfl, rfl, rfl, rfl, trivial⟩ ⟨⟨_, rfl, .refl _⟩, ⟨_, rfl, .refl _⟩, trivial⟩ (fun R hR => hR)) ?_
   rintro ⟨i, m, Z⟩ ⟨hi, hml, hdm⟩
   conv => whnf
   refine br_split ?_ ?_
   · intro h
     have hi2 : i < es.length := by
       have : (i : Int) < (es.length : Int) := of_decide_eq_true h
       omega
     conv => whnf
     refine ⟨⟨by omega, by omega⟩, ?_⟩
     conv => whnf
     refine RowVC.elem sgC sgC_len (k := i) (by show (i : Int).toNat * 12 = i * 12; rw [Int.toNat_natCast]) (by omega) (by decide) (fun h => by cases h) ?_
     intro e he
     obtain ⟨he1, he2⟩ := hes e (List.mem_of_getElem? he)
     have hdm2 : L.drop m = ts.filterMap (meetQ e) ++ meetsQ (es.drop (i + 1)) ts := by rw [hdm, drop_cons he]; rfl
     generalize hrest : meetsQ (es.drop (i + 1)) ts = rest at hdm2
     conv => whnf
     refine sexec_loop (ι := Nat × Nat × List Nat) (fun ⟨k, m, Z⟩ => ⟨[(0, .o (.v (yieldV yl))), (14, .o (.w 73)), (76, .o (.w 68)), (77, .o (.v (.int .i64 es.length))), (78, .o (.v (.int .i64 i))), (17, .o (.p 17 0)), (82, .o (.w 73)), (83, .o (.v (.int .i64 ts.length))), (84, .o (.v (.int .i64 k)))], [(68, .own t_api_Segment 12 es.length (rowV sgC es)), (73, .own t_api_Segment 12 ts.length (rowV sgC ts)), (17, .box (sgM e) t_api_Segment)], R m Z :: comRe ⟨b1, o1, none⟩ ⟨b2, o2, none⟩ p q⟩)
       (fun ⟨k, m, Z⟩ => k ≤ ts.length ∧ m ≤ L.length ∧ L.drop m = (ts.drop k).filterMap (meetQ e) ++ rest) (fun ⟨k, m, Z⟩ => ts.length - k) (0, m, Z) ⟨Nat.zero_le _, hml, hdm2⟩ (SLe.id ⟨rfl, rfl, rfl, rfl, rfl, rfl, rfl, rfl, rfl, trivial⟩ ⟨⟨_, rfl, .refl _⟩, ⟨_, rfl, .refl _⟩, ⟨_, rfl, .refl _⟩, trivial⟩ (fun R hR => hR)) ?_
     rintro ⟨k, m, Z⟩ ⟨hk, hml, hdm⟩
     conv => whnf
     refine br_split ?_ ?_
     · intro h
       have hk2 : k < ts.length := by
         have : (k : Int) < (ts.length : Int) := of_decide_eq_true h
         omega
       conv => whnf
       refine ⟨⟨by omega, by omega⟩, ?_⟩
       conv => whnf
       refine RowVC.elem sgC sgC_len (k := k) (by show (k : Int).toNat * 12 = k * 12; rw [Int.toNat_natCast]) (by omega) (by decide) (fun h => by cases h) ?_
       intro e' he'
       obtain ⟨hf1, hf2⟩ := hts e' (List.mem_of_getElem? he')
       rw [drop_cons he'] at hdm
       conv => whnf
       refine CallVC.fn (c_Meet (sgE e) (sgE e') ⟨he1, he2⟩ ⟨hf1, hf2⟩) rfl ?_
       unfold MeetV
       by_cases hdg : degen (sgE e) ∨ degen (sgE e')
       · have hno : meetQ e e' = none := by unfold meetQ; rw [if_pos hdg]
         rw [if_pos hdg]
         rw [List.filterMap_cons, hno] at hdm
         conv => whnf
         exact ⟨(k + 1, m, Z), ⟨by omega, hml, hdm⟩, by show ts.length - (k + 1) < ts.length - k; omega, SLe.id ⟨rfl, rfl, rfl, rfl, rfl, rfl, rfl, rfl, some_wrap hk2 (by omega), trivial⟩ ⟨⟨_, rfl, .refl _⟩, ⟨_, rfl, .refl _⟩, ⟨_, rfl, .refl _⟩, trivial⟩ (fun S hS => hS)⟩
       · rw [if_neg hdg]
         cases hm : meetV (sgE e).A.v (sgE e).B.v (sgE e').A.v (sgE e').B.v with
         | none =>
           have hno : meetQ e e' = none := by unfold meetQ; rw [if_neg hdg, hm]; rfl
           rw [List.filterMap_cons, hno] at hdm
           conv => whnf
           exact ⟨(k + 1, m, Z), ⟨by omega, hml, hdm⟩, by show ts.length - (k + 1) < ts.length - k; omega, SLe.id ⟨rfl, rfl, rfl, rfl, rfl, rfl, rfl, rfl, some_wrap hk2 (by omega), trivial⟩ ⟨⟨_, rfl, .refl _⟩, ⟨_, rfl, .refl _⟩, ⟨_, rfl, .refl _⟩, trivial⟩ (fun S hS => hS)⟩
         | some x =>
           obtain ⟨x1, x2⟩ := x
           have hno : meetQ e e' = some (PQ x1) := by unfold meetQ; rw [if_neg hdg, hm]; rfl
           rw [List.filterMap_cons, hno, List.cons_append] at hdm
           obtain ⟨y1, y2, y3, y4⟩ := yl_step (f := fun c => [pV c]) hdm
           conv => whnf
           refine hy m Z _ _ _ y1 rfl (by rw [y2]; rfl) (fun Z' => ?_) (fun Z' => ?_)
           · conv => whnf
             exact ⟨(k + 1, m + 1, Z'), ⟨by omega, y4, y3⟩, by show ts.length - (k + 1) < ts.length - k; omega, SLe.id ⟨rfl, rfl, rfl, rfl, rfl, rfl, rfl, rfl, some_wrap hk2 (by omega), trivial⟩ ⟨⟨_, rfl, .refl _⟩, ⟨_, rfl, .refl _⟩, ⟨_, rfl, .refl _⟩, trivial⟩ (fun S hS => hS)⟩
           · conv => whnf
             exact .inr ⟨Z', List.mem_cons_self ..⟩
     · intro h
       have hk2 : k = ts.length := by
         have : ¬ (k : Int) < (ts.length : Int) := of_decide_eq_false h
         omega
       rw [hk2, List.drop_length, List.filterMap_nil, List.nil_append, ← hrest] at hdm
       conv => whnf
       exact ⟨(i + 1, m, Z), ⟨by omega, hml, hdm⟩, by show es.length - (i + 1) < es.length - i; omega, SLe.id ⟨rfl, rfl, rfl, rfl, some_wrap hi2 (by omega), trivial⟩ ⟨⟨_, rfl, .refl _⟩, ⟨_, rfl, .refl _⟩, trivial⟩ (fun S hS => hS)⟩
   · intro h
     have hi2 : i = es.length := by
       have : ¬ (i : Int) < (es.length : Int) := of_decide_eq_false h
       omega
     rw [hi2, List.drop_length] at hdm
     have hend := yl_end (show L.drop m = [] from hdm) hml
     conv => whnf
     exact .inl ⟨Z, by rw [List.length_map, ← hend]; exact List.mem_cons_self ..⟩
end Go.Sx
end
section
set_option maxRecDepth 10000
set_option maxHeartbeats 2000000
namespace Go.Sx
open Go Go.Proofs
theorem idxB_neg {f : Nat → Bool} : ∀ (n i : Nat), idxB f i n < 0 → ∀ j, i ≤ j → j < i + n → f j = false
 | 0, i, _, j, h1, h2 => by omega
 | n + 1, i, h, j, h1, h2 => by
   unfold idxB at h
   split at h
   · omega
   · rename_i hf
     by_cases hj : j = i
     · rw [hj]; simpa using hf
     · exact idxB_neg n (i + 1) h j (by omega) (by omega)
theorem chkL_flat {l : List Pt} (h : chkL l = 0) : ∀ i, i < l.length → flatB l i = false := by
 unfold chkL at h
 split at h; · exact absurd h (by decide)
 split at h; · exact absurd h (by decide)
 split at h; · exact absurd h (by decide)
 split at h; · exact absurd h (by decide)
 rename_i h4
 exact fun i hi => idxB_neg l.length 0 (by unfold flatL at h4; omega) i (Nat.zero_le _) (by omega)
theorem cross_self (a : V) : a.cross a = 0 := by unfold V.cross; grind
theorem chkL_nondeg {l : List Pt} (h : chkL l = 0) {e : Pt × Pt} (he : e ∈ edgesL l) : ¬ degen (sgE e) := by
 obtain ⟨i, hi, rfl⟩ := List.mem_map.1 he
 rw [List.mem_range] at hi
 intro hd
 have hf := chkL_flat h i hi
 have hv : (l.getD i P0).v = (l.getD ((i + 1) % l.length) P0).v := cmpV_zero.1 hd
 unfold flatB at hf
 rw [← hv, cross_self] at hf
 exact absurd (show cmpQ 0 0 = 0 from cmpQ_self 0) (of_decide_eq_false hf)
theorem edgesP_nondeg {p : Ply} (h0 : chkP p.P = 0) {e : Pt × Pt} (he : e ∈ edgesP p.P) : ¬ degen (sgE e) := by
 obtain ⟨l, hl, hx⟩ := List.mem_flatten.1 he
 obtain ⟨r, hr, rfl⟩ := List.mem_map.1 hl
 rw [← PR_map] at hr
 obtain ⟨h, hh, rfl⟩ := List.mem_map.1 hr
 exact chkL_nondeg ((chkP_R h0).2.1 h hh) hx
def nearQ (e : Pt × Pt) (c : Pt) : Pt := PQ (nearV e.1.v e.2.v c.v)
def linksL (p q : PL) : List (Pt × Pt) := (cornersP p).flatMap (fun c => (edgesP q).map fun e => (c, nearQ e c)) ++ (cornersP q).flatMap (fun c => (edgesP p).map fun e => (nearQ e c, c))
abbrev lkV (e : Pt × Pt) : Value := .agg ⟨[.bool e.1.x.neg, .string (bs e.1.x.num), .string (bs e.1.x.den), .bool e.1.y.neg, .string (bs e.1.y.num), .string (bs e.1.y.den), .bool e.2.x.neg, .string (bs e.2.x.num), .string (bs e.2.x.den), .bool e.2.y.neg, .string (bs e.2.y.num), .string (bs e.2.y.den)]⟩
abbrev lkXs (l : List (Pt × Pt)) : List (List Value) := l.map fun c => [lkV c]
theorem c_links (p q : Ply) : FnM PP f_distance_links [p.V, q.V] (facts []) (retsF f_distance_links_1 [p.C, q.C]) := by
 refine FnF.of TBgood mixed h_distance_links rfl rfl (Nat.le_of_ble_eq_true rfl) (by simp) ?_
 intro w hw
 conv => whnf
 refine ⟨[2, 3], rfl, rfl, fun i k' c' h1 h2 => ?_⟩
 match i with
 | 0 => cases h1; cases h2; rfl
 | 1 => cases h1; cases h2; rfl
 | i + 2 => cases h1
abbrev metB : ME := .box [.v (fnV f_vector_Distance), .v (fnV f_distance_euclidean_1)] t_distance_metric
theorem c_links1 (a1 a2 : Addr) (p q : Ply) (hp : p.wf) (hq : q.wf) (hp0 : chkP p.P = 0) (hq0 : chkP q.P = 0) : SeqC PP f_distance_links_1 [ptrV a1, ptrV a2] (comRe a1 a2 p q) (lkXs (linksL p.P q.P)) := by
 refine SeqC.of TBgood mixed h_distance_links_1 rfl rfl (Nat.le_of_ble_eq_true rfl) comRe_ok ?_
 intro yl W B R X hW hy
 obtain ⟨b1, o1, rfl⟩ := slf_addr (hW _ (List.mem_cons_self ..)) (by simp [Ply.C])
 obtain ⟨b2, o2, rfl⟩ := slf_addr (hW _ (List.mem_cons_of_mem _ (List.mem_cons_self ..))) (by simp [Ply.C])
 have m1 : ∀ i Z, SlRes (some ⟨b1, o1, none⟩) p.C ∈ R i Z :: comRe ⟨b1, o1, none⟩ ⟨b2, o2, none⟩ p q := fun i Z => List.mem_cons_of_mem _ (List.mem_cons_self ..)
 have m2 : ∀ i Z, SlRes (some ⟨b2, o2, none⟩) q.C ∈ R i Z :: comRe ⟨b1, o1, none⟩ ⟨b2, o2, none⟩ p q := fun i Z => List.mem_cons_of_mem _ (List.mem_cons_of_mem _ (List.mem_cons_self ..))
 obtain ⟨L, hL⟩ : ∃ L, L = linksL p.P q.P := ⟨_, rfl⟩
 rw [← hL] at hy ⊢
 refine WPS.of TBgood mixed ?_
 conv => whnf
 refine CallVC.fn c_euclidean rfl ?_
 conv => whnf
 refine polyC_row (m1 _ _) ⟨_, _, rfl⟩ ?_
 conv => whnf
 refine polyC_row (m2 _ _) ⟨_, _, rfl⟩ ?_
 conv => whnf
 refine polyC_row (m2 _ _) ⟨_, _, rfl⟩ ?_
 conv => whnf
 refine polyC_row (m1 _ _) ⟨_, _, rfl⟩ ?_
 conv => whnf
 refine sexec_loop (ι := Nat × Nat × List Nat) (fun ⟨i, n, Z⟩ => ⟨[(0, .o (.v (yieldV yl))), (1, .o (.v (ptrV ⟨b1, o1, none⟩))), (2, .o (.v (ptrV ⟨b2, o2, none⟩))), (4, .o (.p 4 0)), (23, .o (.v (.agg ⟨[p.o.V, p.HV, q.o.V, q.HV, q.o.V, q.HV, p.o.V, p.HV]⟩))), (24, .o (.v (.int .i64 i)))], [(4, metB)], R n Z :: comRe ⟨b1, o1, none⟩ ⟨b2, o2, none⟩ p q⟩)
   (fun ⟨i, n, Z⟩ => i ≤ 2 ∧ n ≤ L.length ∧ L.drop n = if i = 0 then L else if i = 1 then (cornersP q.P).flatMap (fun c => (edgesP p.P).map fun e => (nearQ e c, c)) else []) (fun ⟨i, n, Z⟩ => 2 - i) (0, 0, []) ⟨Nat.zero_le _, Nat.zero_le _, rfl⟩ (SLe.id ⟨rfl, rfl, rfl, rfl, rfl, rfl, trivial⟩ ⟨⟨_, rfl, .refl _⟩, trivial⟩ (fun R hR => hR)) ?_
 rintro ⟨i, n, Z⟩ ⟨hi, hnl, hdr⟩
 obtain rfl | rfl | rfl : i = 0 ∨ i = 1 ∨ i = 2 := by omega
 · have hdr2 : L.drop n = (cornersP p.P).flatMap (fun c => (edgesP q.P).map fun e => (c, nearQ e c)) ++ (cornersP q.P).flatMap (fun c => (edgesP p.P).map fun e => (nearQ e c, c)) := by rw [hdr, if_pos rfl, hL]; rfl
   conv => whnf
   refine ⟨by decide, ?_⟩
   conv => whnf
   refine ⟨by decide, ?_⟩
   conv => whnf
   refine CallVC.t 31 (c_pCorners p hp hp0).enters (CallV.facts (c_pCorners p hp hp0) rfl (fun S hS => by exact comRe_p hS)) rfl rfl ?_
   conv => whnf
   refine ⟨by decide, ?_⟩
   conv => whnf
   refine CallVC.t 37 (c_pEdges q hq hq0).enters (CallV.facts (c_pEdges q hq hq0) rfl (fun S hS => by exact comRe_q hS)) rfl rfl ?_
   have hcl := cornersP_len hp0
   have hcs := cornersP_sm hp
   have hel := edgesP_len hq0
   have hes := fun e he => edgesP_sm hq (e := e) he
   have hnd := fun e he => edgesP_nondeg hq0 (e := e) he
   obtain ⟨rest, hrest⟩ : ∃ rest : List (Pt × Pt), rest = (cornersP q.P).flatMap (fun c => (edgesP p.P).map fun e => (nearQ e c, c)) := ⟨_, rfl⟩
   rw [← hrest] at hdr2
   generalize cornersP p.P = cs at hcl hcs hdr2 ⊢
   generalize edgesP q.P = es at hel hes hnd hdr2 ⊢
   conv => whnf
   refine sexec_loop (ι := Nat × Nat × List Nat) (fun ⟨k, m, Z⟩ => ⟨[(0, .o (.v (yieldV yl))), (1, .o (.v (ptrV ⟨b1, o1, none⟩))), (2, .o (.v (ptrV ⟨b2, o2, none⟩))), (4, .o (.p 4 0)), (23, .o (.v (.agg ⟨[p.o.V, p.HV, q.o.V, q.HV, q.o.V, q.HV, p.o.V, p.HV]⟩))), (24, .o (.v (.int .i64 0))), (5, .o (.v (.int .i64 0))), (9, .o (.w 37)), (40, .o (.w 31)), (41, .o (.v (.int .i64 cs.length))), (42, .o (.v (.int .i64 k)))], [(4, metB), (31, .own t_api_Point 6 cs.length (rowV ptC cs)), (37, .own t_api_Segment 12 es.length (rowV sgC es))], R m Z :: comRe ⟨b1, o1, none⟩ ⟨b2, o2, none⟩ p q⟩)
     (fun ⟨k, m, Z⟩ => k ≤ cs.length ∧ m ≤ L.length ∧ L.drop m = (cs.drop k).flatMap (fun c => es.map fun e => (c, nearQ e c)) ++ rest) (fun ⟨k, m, Z⟩ => cs.length - k) (0, n, Z) ⟨Nat.zero_le _, hnl, hdr2⟩ (SLe.id ⟨rfl, rfl, rfl, rfl, rfl, rfl, rfl, rfl, rfl, rfl, rfl, trivial⟩ ⟨⟨_, rfl, .refl _⟩, ⟨_, rfl, .refl _⟩, ⟨_, rfl, .refl _⟩, trivial⟩ (fun R hR => hR)) ?_
   rintro ⟨k, m, Z⟩ ⟨hk, hml, hdm⟩
   conv => whnf
   refine br_split ?_ ?_
   · intro h
     have hk2 : k < cs.length := by
       have : (k : Int) < (cs.length : Int) := of_decide_eq_true h
       omega
     conv => whnf
     refine ⟨⟨by omega, by omega⟩, ?_⟩
     conv => whnf
     refine RowVC.elem ptC ptC_len (k := k) (by show (k : Int).toNat * 6 = k * 6; rw [Int.toNat_natCast]) (by omega) (by decide) (fun h => by cases h) ?_
     intro c hc
     have hcsm := hcs c (List.mem_of_getElem? hc)
     have hdm2 : L.drop m = es.map (fun e => (c, nearQ e c)) ++ ((cs.drop (k + 1)).flatMap (fun c => es.map fun e => (c, nearQ e c)) ++ rest) := by rw [hdm, drop_cons hc, List.flatMap_cons, List.append_assoc]
     generalize hrest2 : (cs.drop (k + 1)).flatMap (fun c => es.map fun e => (c, nearQ e c)) ++ rest = rest2 at hdm2
     conv => whnf
     refine sexec_loop (ι := Nat × Nat × List Nat) (fun ⟨j, m, Z⟩ => ⟨[(0, .o (.v (yieldV yl))), (1, .o (.v (ptrV ⟨b1, o1, none⟩))), (2, .o (.v (ptrV ⟨b2, o2, none⟩))), (4, .o (.p 4 0)), (23, .o (.v (.agg ⟨[p.o.V, p.HV, q.o.V, q.HV, q.o.V, q.HV, p.o.V, p.HV]⟩))), (24, .o (.v (.int .i64 0))), (5, .o (.v (.int .i64 0))), (9, .o (.w 37)), (40, .o (.w 31)), (41, .o (.v (.int .i64 cs.length))), (42, .o (.v (.int .i64 k))), (12, .o (.p 12 0)), (46, .o (.w 37)), (47, .o (.v (.int .i64 es.length))), (48, .o (.v (.int .i64 j)))], [(4, metB), (31, .own t_api_Point 6 cs.length (rowV ptC cs)), (37, .own t_api_Segment 12 es.length (rowV sgC es)), (12, ptB c)], R m Z :: comRe ⟨b1, o1, none⟩ ⟨b2, o2, none⟩ p q⟩)
       (fun ⟨j, m, Z⟩ => j ≤ es.length ∧ m ≤ L.length ∧ L.drop m = (es.drop j).map (fun e => (c, nearQ e c)) ++ rest2) (fun ⟨j, m, Z⟩ => es.length - j) (0, m, Z) ⟨Nat.zero_le _, hml, hdm2⟩ (SLe.id ⟨rfl, rfl, rfl, rfl, rfl, rfl, rfl, rfl, rfl, rfl, rfl, rfl, rfl, rfl, rfl, trivial⟩ ⟨⟨_, rfl, .refl _⟩, ⟨_, rfl, .refl _⟩, ⟨_, rfl, .refl _⟩, ⟨_, rfl, .refl _⟩, trivial⟩ (fun R hR => hR)) ?_
     rintro ⟨j, m, Z⟩ ⟨hj, hml, hdm⟩
     conv => whnf
     refine br_split ?_ ?_
     · intro h
       have hj2 : j < es.length := by
         have : (j : Int) < (es.length : Int) := of_decide_eq_true h
         omega
       conv => whnf
       refine ⟨⟨by omega, by omega⟩, ?_⟩
       conv => whnf
       refine RowVC.elem sgC sgC_len (k := j) (by show (j : Int).toNat * 12 = j * 12; rw [Int.toNat_natCast]) (by omega) (by decide) (fun h => by cases h) ?_
       intro e he
       rw [drop_cons he, List.map_cons, List.cons_append] at hdm
       obtain ⟨y1, y2, y3, y4⟩ := yl_step (f := fun c => [lkV c]) hdm
       conv => whnf
       refine DrawVC.quiet (by kernel_rfl) ?_
       conv => whnf
       refine CallVCd.fn (c_euclidean1 (sgE e) c (hes e (List.mem_of_getElem? he)) hcsm (hnd e (List.mem_of_getElem? he))) rfl ?_
       conv => whnf
       refine hy m Z _ _ _ y1 rfl (by rw [y2]; rfl) (fun Z' => ?_) (fun Z' => ?_)
       · conv => whnf
         exact ⟨(j + 1, m + 1, Z'), ⟨by omega, y4, y3⟩, by show es.length - (j + 1) < es.length - j; omega, SLe.id ⟨rfl, rfl, rfl, rfl, rfl, rfl, rfl, rfl, rfl, rfl, rfl, rfl, rfl, rfl, some_wrap hj2 (by omega), trivial⟩ ⟨⟨_, rfl, .refl _⟩, ⟨_, rfl, .refl _⟩, ⟨_, rfl, .refl _⟩, ⟨_, rfl, .refl _⟩, trivial⟩ (fun S hS => hS)⟩
       · conv => whnf
         exact .inr ⟨Z', List.mem_cons_self ..⟩
     · intro h
       have hj2 : j = es.length := by
         have : ¬ (j : Int) < (es.length : Int) := of_decide_eq_false h
         omega
       rw [hj2, List.drop_length, List.map_nil, List.nil_append, ← hrest2] at hdm
       conv => whnf
       exact ⟨(k + 1, m, Z), ⟨by omega, hml, hdm⟩, by show cs.length - (k + 1) < cs.length - k; omega, SLe.id ⟨rfl, rfl, rfl, rfl, rfl, rfl, rfl, rfl, rfl, rfl, some_wrap hk2 (by omega), trivial⟩ ⟨⟨_, rfl, .refl _⟩, ⟨_, rfl, .refl _⟩, ⟨_, rfl, .refl _⟩, trivial⟩ (fun S hS => hS)⟩
   · intro h
     have hk2 : k = cs.length := by
       have : ¬ (k : Int) < (cs.length : Int) := of_decide_eq_false h
       omega
     rw [hk2, List.drop_length, List.flatMap_nil, List.nil_append, hrest] at hdm
     conv => whnf
     exact ⟨(0 + 1, m, Z), ⟨by omega, hml, hdm⟩, by show 2 - (0 + 1) < 2 - 0; omega, SLe.id ⟨rfl, rfl, rfl, rfl, rfl, rfl, trivial⟩ ⟨⟨_, rfl, .refl _⟩, trivial⟩ (fun S hS => hS)⟩
 · have hdr2 : L.drop n = (cornersP q.P).flatMap (fun c => (edgesP p.P).map fun e => (nearQ e c, c)) ++ [] := by rw [List.append_nil]; exact hdr
   conv => whnf
   refine ⟨by decide, ?_⟩
   conv => whnf
   refine ⟨by decide, ?_⟩
   conv => whnf
   refine CallVC.t 31 (c_pCorners q hq hq0).enters (CallV.facts (c_pCorners q hq hq0) rfl (fun S hS => by exact comRe_q hS)) rfl rfl ?_
   conv => whnf
   refine ⟨by decide, ?_⟩
   conv => whnf
   refine CallVC.t 37 (c_pEdges p hp hp0).enters (CallV.facts (c_pEdges p hp hp0) rfl (fun S hS => by exact comRe_p hS)) rfl rfl ?_
   have hcl := cornersP_len hq0
   have hcs := cornersP_sm hq
   have hel := edgesP_len hp0
   have hes := fun e he => edgesP_sm hp (e := e) he
   have hnd := fun e he => edgesP_nondeg hp0 (e := e) he
   obtain ⟨rest, hrest⟩ : ∃ rest : List (Pt × Pt), rest = [] := ⟨_, rfl⟩
   rw [← hrest] at hdr2
   generalize cornersP q.P = cs at hcl hcs hdr2 ⊢
   generalize edgesP p.P = es at hel hes hnd hdr2 ⊢
   conv => whnf
   refine sexec_loop (ι := Nat × Nat × List Nat) (fun ⟨k, m, Z⟩ => ⟨[(0, .o (.v (yieldV yl))), (1, .o (.v (ptrV ⟨b1, o1, none⟩))), (2, .o (.v (ptrV ⟨b2, o2, none⟩))), (4, .o (.p 4 0)), (23, .o (.v (.agg ⟨[p.o.V, p.HV, q.o.V, q.HV, q.o.V, q.HV, p.o.V, p.HV]⟩))), (24, .o (.v (.int .i64 1))), (5, .o (.v (.int .i64 1))), (9, .o (.w 37)), (40, .o (.w 31)), (41, .o (.v (.int .i64 cs.length))), (42, .o (.v (.int .i64 k)))], [(4, metB), (31, .own t_api_Point 6 cs.length (rowV ptC cs)), (37, .own t_api_Segment 12 es.length (rowV sgC es))], R m Z :: comRe ⟨b1, o1, none⟩ ⟨b2, o2, none⟩ p q⟩)
     (fun ⟨k, m, Z⟩ => k ≤ cs.length ∧ m ≤ L.length ∧ L.drop m = (cs.drop k).flatMap (fun c => es.map fun e => (nearQ e c, c)) ++ rest) (fun ⟨k, m, Z⟩ => cs.length - k) (0, n, Z) ⟨Nat.zero_le _, hnl, hdr2⟩ (SLe.id ⟨rfl, rfl, rfl, rfl, rfl, rfl, rfl, rfl, rfl, rfl, rfl, trivial⟩ ⟨⟨_, rfl, .refl _⟩, ⟨_, rfl, .refl _⟩, ⟨_, rfl, .refl _⟩, trivial⟩ (fun R hR => hR)) ?_
   rintro ⟨k, m, Z⟩ ⟨hk, hml, hdm⟩
   conv => whnf
   refine br_split ?_ ?_
   · intro h
     have hk2 : k < cs.length := by
       have : (k : Int) < (cs.length : Int) := of_decide_eq_true h
       omega
     conv => whnf
     refine ⟨⟨by omega, by omega⟩, ?_⟩
     conv => whnf
     refine RowVC.elem ptC ptC_len (k := k) (by show (k : Int).toNat * 6 = k * 6; rw [Int.toNat_natCast]) (by omega) (by decide) (fun h => by cases h) ?_
     intro c hc
     have hcsm := hcs c (List.mem_of_getElem? hc)
     have hdm2 : L.drop m = es.map (fun e => (nearQ e c, c)) ++ ((cs.drop (k + 1)).flatMap (fun c => es.map fun e => (nearQ e c, c)) ++ rest) := by rw [hdm, drop_cons hc, List.flatMap_cons, List.append_assoc]
     generalize hrest2 : (cs.drop (k + 1)).flatMap (fun c => es.map fun e => (nearQ e c, c)) ++ rest = rest2 at hdm2
     conv => whnf
     refine sexec_loop (ι := Nat × Nat × List Nat) (fun ⟨j, m, Z⟩ => ⟨[(0, .o (.v (yieldV yl))), (1, .o (.v (ptrV ⟨b1, o1, none⟩))), (2, .o (.v (ptrV ⟨b2, o2, none⟩))), (4, .o (.p 4 0)), (23, .o (.v (.agg ⟨[p.o.V, p.HV, q.o.V, q.HV, q.o.V, q.HV, p.o.V, p.HV]⟩))), (24, .o (.v (.int .i64 1))), (5, .o (.v (.int .i64 1))), (9, .o (.w 37)), (40, .o (.w 31)), (41, .o (.v (.int .i64 cs.length))), (42, .o (.v (.int .i64 k))), (12, .o (.p 12 0)), (46, .o (.w 37)), (47, .o (.v (.int .i64 es.length))), (48, .o (.v (.int .i64 j)))], [(4, metB), (31, .own t_api_Point 6 cs.length (rowV ptC cs)), (37, .own t_api_Segment 12 es.length (rowV sgC es)), (12, ptB c)], R m Z :: comRe ⟨b1, o1, none⟩ ⟨b2, o2, none⟩ p q⟩)
       (fun ⟨j, m, Z⟩ => j ≤ es.length ∧ m ≤ L.length ∧ L.drop m = (es.drop j).map (fun e => (nearQ e c, c)) ++ rest2) (fun ⟨j, m, Z⟩ => es.length - j) (0, m, Z) ⟨Nat.zero_le _, hml, hdm2⟩ (SLe.id ⟨rfl, rfl, rfl, rfl, rfl, rfl, rfl, rfl, rfl, rfl, rfl, rfl, rfl, rfl, rfl, trivial⟩ ⟨⟨_, rfl, .refl _⟩, ⟨_, rfl, .refl _⟩, ⟨_, rfl, .refl _⟩, ⟨_, rfl, .refl _⟩, trivial⟩ (fun R hR => hR)) ?_
     rintro ⟨j, m, Z⟩ ⟨hj, hml, hdm⟩
     conv => whnf
     refine br_split ?_ ?_
     · intro h
       have hj2 : j < es.length := by
         have : (j : Int) < (es.length : Int) := of_decide_eq_true h
         omega
       conv => whnf
       refine ⟨⟨by omega, by omega⟩, ?_⟩
       conv => whnf
       refine RowVC.elem sgC sgC_len (k := j) (by show (j : Int).toNat * 12 = j * 12; rw [Int.toNat_natCast]) (by omega) (by decide) (fun h => by cases h) ?_
       intro e he
       rw [drop_cons he, List.map_cons, List.cons_append] at hdm
       obtain ⟨y1, y2, y3, y4⟩ := yl_step (f := fun c => [lkV c]) hdm
       conv => whnf
       refine DrawVC.quiet (by kernel_rfl) ?_
       conv => whnf
       refine CallVCd.fn (c_euclidean1 (sgE e) c (hes e (List.mem_of_getElem? he)) hcsm (hnd e (List.mem_of_getElem? he))) rfl ?_
       conv => whnf
       refine hy m Z _ _ _ y1 rfl (by rw [y2]; rfl) (fun Z' => ?_) (fun Z' => ?_)
       · conv => whnf
         exact ⟨(j + 1, m + 1, Z'), ⟨by omega, y4, y3⟩, by show es.length - (j + 1) < es.length - j; omega, SLe.id ⟨rfl, rfl, rfl, rfl, rfl, rfl, rfl, rfl, rfl, rfl, rfl, rfl, rfl, rfl, some_wrap hj2 (by omega), trivial⟩ ⟨⟨_, rfl, .refl _⟩, ⟨_, rfl, .refl _⟩, ⟨_, rfl, .refl _⟩, ⟨_, rfl, .refl _⟩, trivial⟩ (fun S hS => hS)⟩
       · conv => whnf
         exact .inr ⟨Z', List.mem_cons_self ..⟩
     · intro h
       have hj2 : j = es.length := by
         have : ¬ (j : Int) < (es.length : Int) := of_decide_eq_false h
         omega
       rw [hj2, List.drop_length, List.map_nil, List.nil_append, ← hrest2] at hdm
       conv => whnf
       exact ⟨(k + 1, m, Z), ⟨by omega, hml, hdm⟩, by show cs.length - (k + 1) < cs.length - k; omega, SLe.id ⟨rfl, rfl, rfl, rfl, rfl, rfl, rfl, rfl, rfl, rfl, some_wrap hk2 (by omega), trivial⟩ ⟨⟨_, rfl, .refl _⟩, ⟨_, rfl, .refl _⟩, ⟨_, rfl, .refl _⟩, trivial⟩ (fun S hS => hS)⟩
   · intro h
     have hk2 : k = cs.length := by
       have : ¬ (k : Int) < (cs.length : Int) := of_decide_eq_false h
       omega
     rw [hk2, List.drop_length, List.flatMap_nil, List.nil_append, hrest] at hdm
     conv => whnf
     exact ⟨(1 + 1, m, Z), ⟨by omega, hml, hdm⟩, by show 2 - (1 + 1) < 2 - 1; omega, SLe.id ⟨rfl, rfl, rfl, rfl, rfl, rfl, trivial⟩ ⟨⟨_, rfl, .refl _⟩, trivial⟩ (fun S hS => hS)⟩
 · have hend := yl_end (show L.drop n = [] from hdr) hnl
   conv => whnf
   exact .inl ⟨Z, by rw [List.length_map, ← hend]; exact List.mem_cons_self ..⟩
end Go.Sx
end
section
set_option maxRecDepth 10000
set_option maxHeartbeats 2000000
namespace Go.Sx
open Go Go.Proofs
theorem meet_sz {k : Nat} {a b c d : V} (ha : SzV k a) (hb : SzV k b) (hc : SzV k c) (hd : SzV k d) {x : V × V} (h : meetV a b c d = some x) : SzV (19 * k + 13) x.1 ∧ SzV (19 * k + 13) x.2 := by
 unfold meetV at h
 split at h
 · split at h
   · cases h
   · cases h
     have := (ha.at hb (((hc.sub ha).cross (hd.sub hc)).div ((hb.sub ha).cross (hd.sub hc)))).le (show _ ≤ 19 * k + 13 by omega)
     exact ⟨this, this⟩
 · split at h
   · cases h
   · split at h
     · cases h
     · cases h
       exact ⟨(gt_sz (ord_sz ha hb).1 (ord_sz hc hd).1).le (by omega), (lt_sz (ord_sz ha hb).2 (ord_sz hc hd).2).le (by omega)⟩
def beforeB (a b : Pt × Pt) : Bool := if cmpQ (a.1.v.dist a.2.v) (b.1.v.dist b.2.v) ≠ 0 then decide (cmpQ (a.1.v.dist a.2.v) (b.1.v.dist b.2.v) < 0) else if cmpV a.1.v b.1.v ≠ 0 then decide (cmpV a.1.v b.1.v < 0) else decide (cmpV a.2.v b.2.v < 0)
abbrev KN : Nat := 200000
theorem c_before (a b : Pt × Pt) (ha : a.1.sm KN ∧ a.2.sm KN) (hb : b.1.sm KN ∧ b.2.sm KN) : Fn PP f_distance_before [lkV a, lkV b] (.bool (beforeB a b)) := by
 have za := (ha.1.sz (by decide)).dist (ha.2.sz (by decide))
 have zb := (hb.1.sz (by decide)).dist (hb.2.sz (by decide))
 refine Fn.of TBgood mixed h_distance_before rfl rfl (Nat.le_of_ble_eq_true rfl) ?_
 intro w
 conv => whnf
 refine DrawVC.quiet (by kernel_rfl) ?_
 conv => whnf
 refine CallVCd.fn (c_vDistance a.1 a.2 (ha.1.le (by decide)) (ha.2.le (by decide))) rfl ?_
 conv => whnf
 refine CallVCd.fn (c_vDistance b.1 b.2 (hb.1.le (by decide)) (hb.2.le (by decide))) rfl ?_
 conv => whnf
 refine CallVCd.fn (c_rCompare (Q (a.1.v.dist a.2.v)) (Q (b.1.v.dist b.2.v)) (za.q.le (by decide)) (zb.q.le (by decide))) rfl ?_
 rw [Q_v, Q_v]
 unfold beforeB
 generalize cmpQ (a.1.v.dist a.2.v) (b.1.v.dist b.2.v) = c1
 conv => whnf
 refine br_split ?_ ?_
 · intro hc
   rw [if_pos (by intro h0; rw [h0] at hc; exact absurd hc (by decide))]
   conv => whnf
   exact postV_one rfl
 · intro hc
   have hc0 : c1 = 0 := by simpa using hc
   rw [if_neg (not_not_intro hc0)]
   conv => whnf
   refine CallVC.fn (c_vCompare a.1 b.1 (ha.1.le (by decide)) (hb.1.le (by decide))) rfl ?_
   generalize cmpV a.1.v b.1.v = c2
   conv => whnf
   refine br_split ?_ ?_
   · intro hc
     rw [if_pos (by intro h0; rw [h0] at hc; exact absurd hc (by decide))]
     conv => whnf
     exact postV_one rfl
   · intro hc
     have hc0 : c2 = 0 := by simpa using hc
     rw [if_neg (not_not_intro hc0)]
     conv => whnf
     refine CallVC.fn (c_vCompare a.2 b.2 (ha.2.le (by decide)) (hb.2.le (by decide))) rfl ?_
     conv => whnf
     exact postV_one rfl
def stepC (b : Option Pt) (c : Pt) : Option Pt := match b with
 | none => some c
 | some x => if cmpV c.v x.v < 0 then some c else some x
def stepL (b : Option (Pt × Pt)) (l : Pt × Pt) : Option (Pt × Pt) := match b with
 | none => some l
 | some x => if beforeB l x = true then some l else some x
def P00 : Pt × Pt := (P0, P0)
def polysD (p q : PL) : Rat × (Pt × Pt) × Int := if chkP p ≠ 0 then (0, P00, 1) else if chkP q ≠ 0 then (0, P00, 1) else match (commonL p q).foldl stepC none with
 | some c => (0, (c, c), 0)
 | none => (((((linksL p q).foldl stepL none).getD P00).1.v.dist (((linksL p q).foldl stepL none).getD P00).2.v), ((linksL p q).foldl stepL none).getD P00, 0)
theorem fold_take {α β : Type} {f : β → α → β} {b : β} {l : List α} {i : Nat} {x : α} (h : l[i]? = some x) : (l.take (i + 1)).foldl f b = f ((l.take i).foldl f b) x := by rw [take_snoc' h, List.foldl_append]; rfl
theorem stepC_mem {p : Pt → Prop} : ∀ (l : List Pt) (b : Option Pt), (∀ x, b = some x → p x) → (∀ x ∈ l, p x) → ∀ x, l.foldl stepC b = some x → p x
 | [], b, hb, _, x, h => hb x h
 | c :: l, b, hb, hl, x, h => stepC_mem l (stepC b c) (fun y hy => by
   unfold stepC at hy
   split at hy
   · cases hy; exact hl _ (List.mem_cons_self ..)
   · split at hy
     · cases hy; exact hl _ (List.mem_cons_self ..)
     · cases hy; exact hb _ rfl) (fun y hy => hl y (List.mem_cons_of_mem _ hy)) x h
theorem stepL_mem {p : Pt × Pt → Prop} : ∀ (l : List (Pt × Pt)) (b : Option (Pt × Pt)), (∀ x, b = some x → p x) → (∀ x ∈ l, p x) → ∀ x, l.foldl stepL b = some x → p x
 | [], b, hb, _, x, h => hb x h
 | c :: l, b, hb, hl, x, h => stepL_mem l (stepL b c) (fun y hy => by
   unfold stepL at hy
   split at hy
   · cases hy; exact hl _ (List.mem_cons_self ..)
   · split at hy
     · cases hy; exact hl _ (List.mem_cons_self ..)
     · cases hy; exact hb _ rfl) (fun y hy => hl y (List.mem_cons_of_mem _ hy)) x h
theorem meetQ_sm {e e' : Pt × Pt} (h1 : e.1.sm KS ∧ e.2.sm KS) (h2 : e'.1.sm KS ∧ e'.2.sm KS) {x : Pt} (h : meetQ e e' = some x) : x.sm KN := by
 unfold meetQ at h
 split at h
 · cases h
 · obtain ⟨y, hy, rfl⟩ := Option.map_eq_some_iff.1 h
   exact ((meet_sz (h1.1.sz (k := KS) (by decide)) (h1.2.sz (by decide)) (h2.1.sz (by decide)) (h2.2.sz (by decide)) hy).1.q).le (by decide)
theorem commonL_sm {p q : Ply} (hp : p.wf) (hq : q.wf) : ∀ x ∈ commonL p.P q.P, x.sm KN := fun x hx => by
 rcases List.mem_append.1 hx with hx | hx
 · exact (cornersP_sm hp x ((List.mem_filter.1 hx).1)).le (by decide)
 rcases List.mem_append.1 hx with hx | hx
 · exact (cornersP_sm hq x ((List.mem_filter.1 hx).1)).le (by decide)
 obtain ⟨e, he, hx⟩ := List.mem_flatMap.1 hx
 obtain ⟨e', he', hx⟩ := List.mem_filterMap.1 hx
 exact meetQ_sm (edgesP_sm hp he) (edgesP_sm hq he') hx
theorem nearQ_sm {e : Pt × Pt} (h1 : e.1.sm KS ∧ e.2.sm KS) {c : Pt} (hc : c.sm KS) : (nearQ e c).sm KN := ((near_sz (h1.1.sz (by decide)) (h1.2.sz (by decide)) (hc.sz (by decide))).q).le (by decide)
theorem linksL_sm {p q : Ply} (hp : p.wf) (hq : q.wf) : ∀ x ∈ linksL p.P q.P, x.1.sm KN ∧ x.2.sm KN := fun x hx => by
 rcases List.mem_append.1 hx with hx | hx
 · obtain ⟨c, hc, hx⟩ := List.mem_flatMap.1 hx
   obtain ⟨e, he, rfl⟩ := List.mem_map.1 hx
   have := cornersP_sm hp c hc
   exact ⟨this.le (by decide), nearQ_sm (edgesP_sm hq he) this⟩
 · obtain ⟨c, hc, hx⟩ := List.mem_flatMap.1 hx
   obtain ⟨e, he, rfl⟩ := List.mem_map.1 hx
   have := cornersP_sm hq c hc
   exact ⟨nearQ_sm (edgesP_sm hp he) this, this.le (by decide)⟩
abbrev plM (p : Ply) : ME := .box [.v p.o.V, .v p.HV] t_api_Polygon
abbrev sgM2 (e : Pt × Pt) : ME := .box (sgM e) t_api_Segment
abbrev bM (b : Bool) : ME := .box [.v (.bool b)] t_bool
def cc (b : Option Pt) : Pt × Pt := match b with
 | none => P00
 | some c => (c, c)
theorem xs_get {α : Type} {l : List α} {f : α → List Value} {i : Nat} (h : i < (l.map f).length) : ∃ x, l[i]? = some x ∧ (l.map f).getD i [] = f x := by
 rw [List.length_map] at h
 exact ⟨l[i], List.getElem?_eq_getElem h, getD_of (by rw [List.getElem?_map, List.getElem?_eq_getElem h]; rfl)⟩
abbrev pdV (x : Rat × (Pt × Pt) × Int) : Value := .tuple #[qV x.1, lkV x.2.1, .int .i64 x.2.2]
theorem c_Polygons (p q : Ply) (hp : p.wf) (hq : q.wf) : FnM PP f_distance_Polygons [p.V, q.V] (facts (p.F ++ q.F)) (retsV (pdV (polysD p.P q.P))) := by
 refine FnM.ofS TBgood mixed h_distance_Polygons rfl rfl (Nat.le_of_ble_eq_true rfl) (fun R hR => (List.mem_append.1 hR).elim (Ply.F_ok R) (Ply.F_ok R)) (fun w l st E w' hp hm => postV_ok hp hm) ?_
 intro w hw
 refine WPS.peel TBgood mixed ?_
 conv => whnf
 refine WPS.seq ?_
 refine WPS.of TBgood mixed ?_
 conv => whnf
 refine CallVC.v (c_polyCheck p hp).enters (CallV.facts (c_polyCheck p hp) rfl (fun R hR => List.mem_append_left _ hR)) ?_
 unfold polysD
 generalize hk : chkP p.P = k
 conv => whnf
 refine br_split ?_ ?_
 · intro hb
   have h1 : k ≠ 0 := by intro h0; rw [h0] at hb; exact absurd hb (by decide)
   rw [if_pos h1]
   conv => whnf
   refine postV_three ?_
   rw [pdV, qV, rawV0]; rfl
 intro hb
 have h1 : k = 0 := by simpa using hb
 rw [if_neg (not_not_intro h1)]
 have hp0 := hk.trans h1
 conv => whnf
 refine CallVC.v (c_polyCheck q hq).enters (CallV.facts (c_polyCheck q hq) rfl (fun R hR => List.mem_append_right _ hR)) ?_
 generalize hk2 : chkP q.P = k2
 conv => whnf
 refine br_split ?_ ?_
 · intro hb
   have h1 : k2 ≠ 0 := by intro h0; rw [h0] at hb; exact absurd hb (by decide)
   rw [if_pos h1]
   conv => whnf
   refine postV_three ?_
   rw [pdV, qV, rawV0]; rfl
 intro hb
 have h2 : k2 = 0 := by simpa using hb
 rw [if_neg (not_not_intro h2)]
 have hq0 := hk2.trans h2
 conv => whnf
 refine WPS.peel TBgood mixed ?_
 conv => whnf
 refine WPS.peel TBgood mixed ?_
 conv => whnf
 refine WPS.seq ?_
 refine WPS.seq ?_
 refine WPS.of TBgood mixed ?_
 conv => whnf
 refine CallVC.f2 (c_common p q).enters (CallV.facts (c_common p q) rfl (by simp)) (fun a1 a2 => ?_)
 conv => whnf
 refine WPS.block ?_
 obtain ⟨L, hL⟩ : ∃ L, L = commonL p.P q.P := ⟨_, rfl⟩
 have hLs : ∀ x ∈ L, x.sm KN := by rw [hL]; exact commonL_sm hp hq
 have hsq := c_common1 a1 a2 p q hp hq hp0 hq0
 rw [← hL] at hsq ⊢
 refine WPS.range TBgood mixed rfl rfl hsq (fun S hS => hS) 6 [(2, .o (.p 58 0)), (3, .o (.p 59 0)), (4, .o (.p 60 0)), (5, .o (.p 61 0)), (7, .o (.p 62 0)), (8, .o (.p 63 0)), (6, .o (.v (.int .i64 0)))]
   (fun i (_ : Unit) => [(58, plM p), (59, plM q), (60, ratM R0), (61, sgM2 P00), (62, sgM2 (cc ((L.take i).foldl stepC none))), (63, bM ((L.take i).foldl stepC none).isSome)])
   (fun i _ => True) () trivial (SLe.mk (fun k => bif Nat.beq k 58 then 2 else bif Nat.beq k 59 then 3 else bif Nat.beq k 60 then 4 else bif Nat.beq k 61 then 5 else bif Nat.beq k 62 then 7 else bif Nat.beq k 63 then 8 else k) ⟨rfl, rfl, rfl, rfl, rfl, rfl, rfl, trivial⟩ ⟨⟨_, rfl, .refl _⟩, ⟨_, rfl, .refl _⟩, ⟨_, rfl, .refl _⟩, ⟨_, rfl, .refl _⟩, ⟨_, rfl, .refl _⟩, ⟨_, rfl, .refl _⟩, trivial⟩ rfl (fun R hR => hR)) rfl
   (fun i j _ => ⟨rfl, rfl⟩) rfl (fun x hx => by obtain ⟨e, _, rfl⟩ := List.mem_map.1 hx; rfl) rfl ?_ ?_
 · rintro W1 X i _ Rx hi _
   obtain ⟨c, hc, hx⟩ := xs_get hi
   rw [hx]
   have hnext := fold_take (f := stepC) (b := none) hc
   have hcs := hLs c (List.mem_of_getElem? hc)
   have hbs := fun x h => stepC_mem (p := fun x => x.sm KN) (L.take i) none (fun y hy => by cases hy) (fun y hy => hLs y (List.mem_of_mem_take hy)) x h
   generalize (L.take i).foldl stepC none = b at hnext hbs ⊢
   cases b with
   | none =>
     conv => whnf
     refine ⟨rfl, fun Ry => ?_⟩
     conv => whnf
     refine ⟨(), trivial, SLe.id trivial ⟨⟨_, rfl, .refl _⟩, ⟨_, rfl, .refl _⟩, ⟨_, rfl, .refl _⟩, ⟨_, rfl, .refl _⟩, ⟨_, rfl, ?_⟩, ⟨_, rfl, ?_⟩, trivial⟩ (fun R hR => hR)⟩
     · rw [hnext]; exact .refl _
     · rw [hnext]; exact .refl _
   | some x =>
     have hxs := hbs x rfl
     conv => whnf
     refine ⟨rfl, fun Ry => ?_⟩
     conv => whnf
     refine CallVC.fn (c_vCompare c x (hcs.le (by decide)) (hxs.le (by decide))) rfl ?_
     conv => whnf
     refine br_split ?_ ?_
     · intro h
       have h' : stepC (some x) c = some c := if_pos (of_decide_eq_true h)
       rw [h'] at hnext
       conv => whnf
       refine ⟨(), trivial, SLe.id trivial ⟨⟨_, rfl, .refl _⟩, ⟨_, rfl, .refl _⟩, ⟨_, rfl, .refl _⟩, ⟨_, rfl, .refl _⟩, ⟨_, rfl, ?_⟩, ⟨_, rfl, ?_⟩, trivial⟩ (fun R hR => hR)⟩
       · rw [hnext]; exact .refl _
       · rw [hnext]; exact .refl _
     · intro h
       have h' : stepC (some x) c = some x := if_neg (of_decide_eq_false h)
       rw [h'] at hnext
       conv => whnf
       refine ⟨(), trivial, SLe.id trivial ⟨⟨_, rfl, .refl _⟩, ⟨_, rfl, .refl _⟩, ⟨_, rfl, .refl _⟩, ⟨_, rfl, .refl _⟩, ⟨_, rfl, ?_⟩, ⟨_, rfl, ?_⟩, trivial⟩ (fun R hR => hR)⟩
       · rw [hnext]; exact .refl _
       · rw [hnext]; exact .refl _
 rintro _ _
 rw [List.length_map, List.take_length]
 cases hb : L.foldl stepC none with
 | some c =>
   refine WPS.of TBgood mixed ?_
   conv => whnf
   refine DrawVC.late [(2, 60, [1])] (by kernel_rfl) ?_
   conv => whnf
   refine postV_three ?_
   rw [pdV, qV, rawV0]; rfl
 | none =>
   refine WPS.peel TBgood mixed ?_
   conv => whnf
   refine WPS.seq ?_
   refine WPS.seq ?_
   refine WPS.of TBgood mixed ?_
   conv => whnf
   refine CallVC.f2 (c_links p q).enters (CallV.facts (c_links p q) rfl (by simp)) (fun a3 a4 => ?_)
   conv => whnf
   refine WPS.block ?_
   obtain ⟨M, hM⟩ : ∃ M, M = linksL p.P q.P := ⟨_, rfl⟩
   have hMs : ∀ x ∈ M, x.1.sm KN ∧ x.2.sm KN := by rw [hM]; exact linksL_sm hp hq
   have hsq2 := c_links1 a3 a4 p q hp hq hp0 hq0
   rw [← hM] at hsq2 ⊢
   refine WPS.range TBgood mixed rfl rfl hsq2 (fun S hS => ?_) 6 [(2, .o (.p 58 0)), (3, .o (.p 59 0)), (4, .o (.p 60 0)), (5, .o (.p 61 0)), (7, .o (.p 62 0)), (8, .o (.p 63 0)), (6, .o (.v (.int .i64 0)))]
     (fun i (_ : Unit) => [(58, plM p), (59, plM q), (60, ratM R0), (61, sgM2 P00), (62, sgM2 (((M.take i).foldl stepL none).getD P00)), (63, bM ((M.take i).foldl stepL none).isSome)])
     (fun i _ => True) () trivial (SLe.id ⟨rfl, rfl, rfl, rfl, rfl, rfl, rfl, trivial⟩ ⟨⟨_, rfl, .refl _⟩, ⟨_, rfl, .refl _⟩, ⟨_, rfl, .refl _⟩, ⟨_, rfl, .refl _⟩, ⟨_, rfl, .refl _⟩, ⟨_, rfl, .refl _⟩, trivial⟩ (fun R hR => hR)) rfl
     (fun i j _ => ⟨rfl, rfl⟩) rfl (fun x hx => by obtain ⟨e, _, rfl⟩ := List.mem_map.1 hx; rfl) rfl ?_ ?_
   · rcases List.mem_cons.1 hS with rfl | hS
     · exact List.mem_cons_self ..
     rcases List.mem_cons.1 hS with rfl | hS
     · exact List.mem_cons_of_mem _ (List.mem_cons_self ..)
     · exact List.mem_cons_of_mem _ (List.mem_cons_of_mem _ (List.mem_cons_of_mem _ (List.mem_cons_of_mem _ hS)))
   · rintro W1 X i _ Rx hi _
     obtain ⟨c, hc, hx⟩ := xs_get hi
     rw [hx]
     have hnext := fold_take (f := stepL) (b := none) hc
     have hcs := hMs c (List.mem_of_getElem? hc)
     have hbs := fun x h => stepL_mem (p := fun x => x.1.sm KN ∧ x.2.sm KN) (M.take i) none (fun y hy => by cases hy) (fun y hy => hMs y (List.mem_of_mem_take hy)) x h
     generalize (M.take i).foldl stepL none = b at hnext hbs ⊢
     cases b with
     | none =>
       conv => whnf
       refine ⟨rfl, fun Ry => ?_⟩
       conv => whnf
       refine ⟨(), trivial, SLe.id trivial ⟨⟨_, rfl, .refl _⟩, ⟨_, rfl, .refl _⟩, ⟨_, rfl, .refl _⟩, ⟨_, rfl, .refl _⟩, ⟨_, rfl, ?_⟩, ⟨_, rfl, ?_⟩, trivial⟩ (fun R hR => hR)⟩
       · rw [hnext]; exact .refl _
       · rw [hnext]; exact .refl _
     | some x =>
       have hxs := hbs x rfl
       conv => whnf
       refine ⟨rfl, fun Ry => ?_⟩
       conv => whnf
       refine CallVC.fn (c_before c x hcs hxs) rfl ?_
       cases h : beforeB c x with
       | true =>
         have h' : stepL (some x) c = some c := if_pos h
         rw [h'] at hnext
         conv => whnf
         refine ⟨(), trivial, SLe.id trivial ⟨⟨_, rfl, .refl _⟩, ⟨_, rfl, .refl _⟩, ⟨_, rfl, .refl _⟩, ⟨_, rfl, .refl _⟩, ⟨_, rfl, ?_⟩, ⟨_, rfl, ?_⟩, trivial⟩ (fun R hR => hR)⟩
         · rw [hnext]; exact .refl _
         · rw [hnext]; exact .refl _
       | false =>
         have h' : stepL (some x) c = some x := if_neg (by rw [h]; decide)
         rw [h'] at hnext
         conv => whnf
         refine ⟨(), trivial, SLe.id trivial ⟨⟨_, rfl, .refl _⟩, ⟨_, rfl, .refl _⟩, ⟨_, rfl, .refl _⟩, ⟨_, rfl, .refl _⟩, ⟨_, rfl, ?_⟩, ⟨_, rfl, ?_⟩, trivial⟩ (fun R hR => hR)⟩
         · rw [hnext]; exact .refl _
         · rw [hnext]; exact .refl _
   rintro _ _
   rw [List.length_map, List.take_length]
   have hbs : ∀ x : Pt × Pt, x = (M.foldl stepL none).getD P00 → x.1.sm KN ∧ x.2.sm KN := fun x hx => by
     cases hb : M.foldl stepL none with
     | none => rw [hx, hb]; exact ⟨⟨⟨Nat.zero_le _, Nat.zero_le _⟩, ⟨Nat.zero_le _, Nat.zero_le _⟩⟩, ⟨Nat.zero_le _, Nat.zero_le _⟩, ⟨Nat.zero_le _, Nat.zero_le _⟩⟩
     | some y =>
       rw [hb] at hx
       rw [hx]
       exact stepL_mem (p := fun x => x.1.sm KN ∧ x.2.sm KN) M none (fun y hy => by cases hy) hMs y hb
   generalize (M.foldl stepL none).getD P00 = x at hbs ⊢
   obtain ⟨hx1, hx2⟩ := hbs x rfl
   refine WPS.of TBgood mixed ?_
   conv => whnf
   refine DrawVC.late [(6, 60, [5])] (by kernel_rfl) ?_
   conv => whnf
   refine CallVCd.fn (c_vDistance x.1 x.2 (hx1.le (by decide)) (hx2.le (by decide))) rfl ?_
   conv => whnf
   exact postV_three rfl
end Go.Sx
end
section
set_option maxRecDepth 10000
set_option maxHeartbeats 2000000
namespace Go.Sx
open Go Go.Proofs
abbrev pt (x y : Int) : Pt := PQ ⟨(x : Rat), (y : Rat)⟩
theorem pt_sm {x y : Int} (h1 : x.natAbs < 256) (h2 : y.natAbs < 256) : (pt x y).sm KS := by
 have h : ∀ z : Int, z.natAbs < 256 → (Q (z : Rat)).sm KS := fun z hz => (show Sz 1 (z : Rat) from ⟨by simpa using hz, by simp⟩).q.le (by decide)
 exact ⟨h x h1, h y h2⟩
abbrev triP (b : Nat) (x y z : Pt) : Ply := ⟨⟨some ⟨b, 0, none⟩, 3, [x, y, z]⟩, none, 0, []⟩
theorem triP_wf {b : Nat} {x y z : Pt} (hx : x.sm KS) (hy : y.sm KS) (hz : z.sm KS) : (triP b x y z).wf := by
 refine ⟨fun p hp => ?_, by simp, by simp, by simp, by simp⟩
 simp only [List.mem_cons, List.not_mem_nil, or_false] at hp
 rcases hp with rfl | rfl | rfl
 · exact hx
 · exact hy
 · exact hz
theorem aw1 : dPt euPt ⟨pt 0 0, pt 4 0⟩ (pt 3 3) = (9, 0) := by decide +kernel
theorem aw2 : dPt sqPt ⟨pt 0 0, pt 4 0⟩ (pt 3 3) = (3, 0) := by decide +kernel
theorem aw3 : dPt euPt ⟨pt 0 0, pt 2 0⟩ (pt 3 3) = (10, 0) := by decide +kernel
theorem aw4 : dPt sqPt ⟨pt 0 0, pt 2 0⟩ (pt 3 3) = (3, 0) := by decide +kernel
theorem aw5 : polysD ⟨[pt 0 0, pt 2 0, pt 0 2], []⟩ ⟨[pt 3 3, pt 5 3, pt 3 5], []⟩ = (8, (pt 1 1, pt 3 3), 0) := by decide +kernel
theorem c_pt (x y : Int) (h1 : x.natAbs < 256) (h2 : y.natAbs < 256) : Fn PP f_vector_Of [.int .i64 x, .int .i64 y] (pV (pt x y)) := c_vOf x y (by omega) (by omega) (by omega) (by omega)
theorem c_awake : Fn PP f_narrowslaw26_awake [] (.bool true) := by
 have s00 := pt_sm (x := 0) (y := 0) (by decide) (by decide)
 have s40 := pt_sm (x := 4) (y := 0) (by decide) (by decide)
 have s20 := pt_sm (x := 2) (y := 0) (by decide) (by decide)
 have s02 := pt_sm (x := 0) (y := 2) (by decide) (by decide)
 have s33 := pt_sm (x := 3) (y := 3) (by decide) (by decide)
 have s53 := pt_sm (x := 5) (y := 3) (by decide) (by decide)
 have s35 := pt_sm (x := 3) (y := 5) (by decide) (by decide)
 refine Fn.ofF (FnM.ofS TBgood mixed h_narrowslaw26_awake rfl rfl (Nat.le_of_ble_eq_true rfl) (by simp) (fun w l st E w' hp hm => postV_ok hp hm) ?_)
 intro w hw
 refine WPS.peel TBgood mixed ?_
 conv => whnf
 refine WPS.peel TBgood mixed ?_
 conv => whnf
 refine CallVC.fn (c_pt 0 0 (by decide) (by decide)) rfl ?_
 conv => whnf
 refine CallVC.fn (c_pt 4 0 (by decide) (by decide)) rfl ?_
 conv => whnf
 refine CallVC.fn (c_pt 0 0 (by decide) (by decide)) rfl ?_
 conv => whnf
 refine CallVC.fn (c_pt 2 0 (by decide) (by decide)) rfl ?_
 conv => whnf
 refine WPS.peel TBgood mixed ?_
 conv => whnf
 refine DrawVC.late [(7, 3, [5])] (by kernel_rfl) ?_
 conv => whnf
 refine CallVCd.fn (c_pt 3 3 (by decide) (by decide)) rfl ?_
 conv => whnf
 refine CallVCd.fn (c_dPoint ⟨pt 0 0, pt 4 0⟩ (pt 3 3) ⟨s00, s40⟩ s33) rfl ?_
 rw [aw1]
 conv => whnf
 refine WPS.peel TBgood mixed ?_
 conv => whnf
 refine DrawVC.late [(7, 5, [5])] (by kernel_rfl) ?_
 conv => whnf
 refine CallVCd.fn (c_pt 3 3 (by decide) (by decide)) rfl ?_
 conv => whnf
 refine CallVCd.fn (c_dSquarePoint ⟨pt 0 0, pt 4 0⟩ (pt 3 3) ⟨s00, s40⟩ s33) rfl ?_
 rw [aw2]
 conv => whnf
 refine WPS.peel TBgood mixed ?_
 conv => whnf
 refine DrawVC.late [(7, 7, [5])] (by kernel_rfl) ?_
 conv => whnf
 refine CallVCd.fn (c_pt 3 3 (by decide) (by decide)) rfl ?_
 conv => whnf
 refine CallVCd.fn (c_dPoint ⟨pt 0 0, pt 2 0⟩ (pt 3 3) ⟨s00, s20⟩ s33) rfl ?_
 rw [aw3]
 conv => whnf
 refine WPS.peel TBgood mixed ?_
 conv => whnf
 refine DrawVC.late [(7, 9, [5])] (by kernel_rfl) ?_
 conv => whnf
 refine CallVCd.fn (c_pt 3 3 (by decide) (by decide)) rfl ?_
 conv => whnf
 refine CallVCd.fn (c_dSquarePoint ⟨pt 0 0, pt 2 0⟩ (pt 3 3) ⟨s00, s20⟩ s33) rfl ?_
 rw [aw4]
 conv => whnf
 refine WPS.peel TBgood mixed ?_
 conv => whnf
 refine CallVC.fn (c_pt 0 0 (by decide) (by decide)) rfl ?_
 conv => whnf
 refine CallVC.fn (c_pt 2 0 (by decide) (by decide)) rfl ?_
 conv => whnf
 refine CallVC.fn (c_pt 0 2 (by decide) (by decide)) rfl ?_
 conv => whnf
 refine WPS.peel TBgood mixed ?_
 conv => whnf
 refine CallVC.fn (c_pt 3 3 (by decide) (by decide)) rfl ?_
 conv => whnf
 refine CallVC.fn (c_pt 5 3 (by decide) (by decide)) rfl ?_
 conv => whnf
 refine CallVC.fn (c_pt 3 5 (by decide) (by decide)) rfl ?_
 conv => whnf
 refine WPS.freeze 50 rfl (fun b1 => ?_)
 refine WPS.freeze 55 rfl (fun b2 => ?_)
 have hcall := c_Polygons (triP b1 (pt 0 0) (pt 2 0) (pt 0 2)) (triP b2 (pt 3 3) (pt 5 3) (pt 3 5)) (triP_wf s00 s20 s02) (triP_wf s33 s53 s35)
 rw [show polysD (triP b1 (pt 0 0) (pt 2 0) (pt 0 2)).P (triP b2 (pt 3 3) (pt 5 3) (pt 3 5)).P = (8, (pt 1 1, pt 3 3), 0) from aw5] at hcall
 refine WPS.of TBgood mixed ?_
 conv => whnf
 refine CallVC.v hcall.enters (CallV.factsT hcall rfl (fun R hR => ?_)) ?_
 · rcases List.mem_append.1 hR with hR | hR
   · rcases List.mem_cons.1 hR with rfl | hR
     · exact .inl (List.mem_cons_of_mem _ (List.mem_cons_self ..))
     · rw [List.mem_singleton.1 hR]; exact .inr (fun w => .inl rfl)
   · rcases List.mem_cons.1 hR with rfl | hR
     · exact .inl (List.mem_cons_self ..)
     · rw [List.mem_singleton.1 hR]; exact .inr (fun w => .inl rfl)
 conv => whnf
 refine DrawVC.quiet (by kernel_rfl) ?_
 conv => whnf
 refine CallVCd.fn (c_rOf 9 (by decide) (by decide)) rfl ?_
 conv => whnf
 refine br_true ((eqR (Q 9) (Q ((9 : Int) : Rat))).trans (decide_eq_true rfl)) ?_
 conv => whnf
 refine CallVCd.fn (c_rOf 3 (by decide) (by decide)) rfl ?_
 conv => whnf
 refine br_true ((eqR (Q 3) (Q ((3 : Int) : Rat))).trans (decide_eq_true rfl)) ?_
 conv => whnf
 refine CallVCd.fn (c_rOf 10 (by decide) (by decide)) rfl ?_
 conv => whnf
 refine br_true ((eqR (Q 10) (Q ((10 : Int) : Rat))).trans (decide_eq_true rfl)) ?_
 conv => whnf
 refine CallVCd.fn (c_rOf 3 (by decide) (by decide)) rfl ?_
 conv => whnf
 refine br_true ((eqR (Q 3) (Q ((3 : Int) : Rat))).trans (decide_eq_true rfl)) ?_
 conv => whnf
 refine CallVCd.fn (c_rOf 8 (by decide) (by decide)) rfl ?_
 conv => whnf
 refine br_true ((eqR (Q 8) (Q ((8 : Int) : Rat))).trans (decide_eq_true rfl)) ?_
 conv => whnf
 refine CallVCd.fn (c_pt 1 1 (by decide) (by decide)) rfl ?_
 conv => whnf
 refine CallVCd.fn (c_pt 3 3 (by decide) (by decide)) rfl ?_
 conv => whnf
 refine postV_one (congrArg Value.bool ?_)
 simp
end Go.Sx
end
section
set_option maxRecDepth 10000
set_option maxHeartbeats 2000000
namespace Go.Sx
open Go Go.Proofs
theorem LoadVC.fld {α : Type} {st : SS} {A A' : Option Addr} {xs : List α} {j o m n : Nat} {agg : Bool} {K : SV → Prop} {x : α} (f : α → List Value) (hf : ∀ x, (f x).length = n) (hR : SlRes A (rowV f xs) ∈ st.re) (hx : xs[j]? = some x) (hA : A' = A.map (·.add (j * n + o)))
   (ho : o + m ≤ n) (h0 : 0 < m) (h1 : agg = false → m = 1) (hk : K (mkV agg (((f x).drop o).take m))) : LoadVC st m agg A' K := by
 have hj : j < xs.length := (List.getElem?_eq_some_iff.1 hx).1
 have hlen : (rowV f xs).length = xs.length * n := rowV_length hf xs
 have hle : j * n + n ≤ xs.length * n := by rw [← Nat.succ_mul]; exact Nat.mul_le_mul_right n hj
 refine LoadVC.row (off := j * n + o) hR hA (by omega) h0 h1 ?_
 have hp : ((rowV f xs).drop (j * n)).take n = f x := rowV_part hf hx
 have he : ((rowV f xs).drop (j * n + o)).take m = ((f x).drop o).take m := by
   rw [← hp, ← List.drop_drop, List.drop_take, List.take_take, Nat.min_eq_left (by omega)]
 rw [he]; exact hk
def bigP (k : Nat) (p : Pt) : Bool := decide (k < p.x.num.length) || (decide (k < p.x.den.length) || (decide (k < p.y.num.length) || decide (k < p.y.den.length)))
theorem bigP_sm {k : Nat} {p : Pt} (h : bigP k p = false) : p.sm k := by
 simp only [bigP, Bool.or_eq_false_iff, decide_eq_false_iff_not, Nat.not_lt] at h
 exact ⟨⟨h.1, h.2.1⟩, h.2.2.1, h.2.2.2⟩
theorem c_Great07 (A : Option Addr) (c : Nat) (l : List Pt) (hl : l.length ≤ 1000000) :
   FnM PP f_narrowsref07_Great [.slice A l.length c] (facts [SlRes A (rowV ptC l)]) (retsV (.bool (l.any (bigP 12)))) := by
 refine FnS.of TBgood mixed h_narrowsref07_Great rfl rfl (Nat.le_of_ble_eq_true rfl) (by simp [SlRes.ok]) ?_
 intro w hw
 obtain ⟨n, hn⟩ : ∃ n, n = l.length := ⟨_, rfl⟩
 have hA : 0 < n → ∃ b o, A = some ⟨b, o, none⟩ := fun h => by
   have h1 : A.isSome = true := slres_some (facts_one hw) (by rw [rowV_length ptC_len]; omega)
   obtain ⟨a, rfl⟩ := Option.isSome_iff_exists.1 h1
   obtain ⟨b, o, rfl⟩ := slf_addr (facts_one hw) (by intro h2; have := congrArg List.length h2; rw [rowV_length ptC_len] at this; simp at this; omega)
   exact ⟨b, o, rfl⟩
 rw [← hn] at hl ⊢
 conv => whnf
 refine sexec_loop (ι := Nat) (fun i => ⟨[(0, .o (.v (.slice A n c))), (3, .o (.v (.int .i64 i)))], [], [SlRes A (rowV ptC l)]⟩)
   (fun i => i ≤ n ∧ l.any (bigP 12) = (l.drop i).any (bigP 12)) (fun i => n - i) 0 ⟨Nat.zero_le _, rfl⟩
   (SLe.id ⟨rfl, rfl, trivial⟩ trivial (fun R hR => hR)) ?_
 rintro i ⟨hi, hx⟩
 conv => whnf
 refine br_split ?_ ?_
 · intro h
   have hi2 : i < n := by
     have : (i : Int) < (n : Int) := of_decide_eq_true h
     omega
   obtain ⟨b, o, rfl⟩ := hA (by omega)
   obtain ⟨p, hp⟩ : ∃ p, l[i]? = some p := ⟨_, List.getElem?_eq_getElem (by omega)⟩
   rw [drop_cons hp, List.any_cons] at hx
   conv => whnf
   have hadd : Option.map (fun a : Addr => a.add ((i : Int).toNat * ty25.size)) (some ⟨b, o, none⟩) = some ⟨b, o + i * 6, none⟩ := by
     show some ((⟨b, o, none⟩ : Addr).add ((i : Int).toNat * 6)) = _
     rw [Int.toNat_natCast, Addr.add_lit]
   have hfl : ∀ z, (some ⟨b, o + i * 6 + z, none⟩ : Option Addr) = (some (⟨b, o, none⟩ : Addr)).map (fun a => a.add (i * 6 + z)) := fun z => by
     rw [Option.map_some, Addr.add_lit, Nat.add_assoc]
   have hlast : bigP 12 p = true → l.any (bigP 12) = true := fun h => by rw [hx, h, Bool.true_or]
   refine ⟨⟨by omega, by omega, rfl⟩, ?_⟩
   rw [hadd]
   conv => whnf
   refine LoadVC.fld (o := 1) ptC ptC_len (List.mem_singleton.2 rfl) hp (hfl 1) (by decide) (by decide) (fun _ => rfl) ?_
   conv => whnf
   refine br_split ?_ ?_
   · intro h
     have h1 : 12 < p.x.num.length := by
       have : ((p.x.num.length : Nat) : Int) > 12 := of_decide_eq_true h
       omega
     conv => whnf
     refine postV_one (congrArg Value.bool (hlast ?_).symm)
     simp only [bigP, Bool.or_eq_true, decide_eq_true_eq]
     omega
   intro h
   have hf1 : ¬ 12 < p.x.num.length := by
     have : ¬ ((p.x.num.length : Nat) : Int) > 12 := of_decide_eq_false h
     omega
   conv => whnf
   refine ⟨⟨by omega, by omega, rfl⟩, ?_⟩
   rw [hadd]
   conv => whnf
   refine LoadVC.fld (o := 2) ptC ptC_len (List.mem_singleton.2 rfl) hp (hfl 2) (by decide) (by decide) (fun _ => rfl) ?_
   conv => whnf
   refine br_split ?_ ?_
   · intro h
     have h1 : 12 < p.x.den.length := by
       have : ((p.x.den.length : Nat) : Int) > 12 := of_decide_eq_true h
       omega
     conv => whnf
     refine postV_one (congrArg Value.bool (hlast ?_).symm)
     simp only [bigP, Bool.or_eq_true, decide_eq_true_eq]
     omega
   intro h
   have hf2 : ¬ 12 < p.x.den.length := by
     have : ¬ ((p.x.den.length : Nat) : Int) > 12 := of_decide_eq_false h
     omega
   conv => whnf
   refine ⟨⟨by omega, by omega, rfl⟩, ?_⟩
   rw [hadd]
   conv => whnf
   refine LoadVC.fld (o := 4) ptC ptC_len (List.mem_singleton.2 rfl) hp (hfl 4) (by decide) (by decide) (fun _ => rfl) ?_
   conv => whnf
   refine br_split ?_ ?_
   · intro h
     have h1 : 12 < p.y.num.length := by
       have : ((p.y.num.length : Nat) : Int) > 12 := of_decide_eq_true h
       omega
     conv => whnf
     refine postV_one (congrArg Value.bool (hlast ?_).symm)
     simp only [bigP, Bool.or_eq_true, decide_eq_true_eq]
     omega
   intro h
   have hf4 : ¬ 12 < p.y.num.length := by
     have : ¬ ((p.y.num.length : Nat) : Int) > 12 := of_decide_eq_false h
     omega
   conv => whnf
   refine ⟨⟨by omega, by omega, rfl⟩, ?_⟩
   rw [hadd]
   conv => whnf
   refine LoadVC.fld (o := 5) ptC ptC_len (List.mem_singleton.2 rfl) hp (hfl 5) (by decide) (by decide) (fun _ => rfl) ?_
   conv => whnf
   refine br_split ?_ ?_
   · intro h
     have h1 : 12 < p.y.den.length := by
       have : ((p.y.den.length : Nat) : Int) > 12 := of_decide_eq_true h
       omega
     conv => whnf
     refine postV_one (congrArg Value.bool (hlast ?_).symm)
     simp only [bigP, Bool.or_eq_true, decide_eq_true_eq]
     omega
   intro h
   have hf5 : ¬ 12 < p.y.den.length := by
     have : ¬ ((p.y.den.length : Nat) : Int) > 12 := of_decide_eq_false h
     omega
   conv => whnf
   have hno : bigP 12 p = false := by
     simp only [bigP, Bool.or_eq_false_iff, decide_eq_false_iff_not]
     exact ⟨hf1, hf2, hf4, hf5⟩
   rw [hno, Bool.false_or] at hx
   exact ⟨i + 1, ⟨by omega, hx⟩, by omega, SLe.id ⟨rfl, some_wrap hi2 (by omega), trivial⟩ trivial (fun R hR => hR)⟩
 · intro h
   have hi2 : i = n := by
     have : ¬ (i : Int) < (n : Int) := of_decide_eq_false h
     omega
   rw [hi2, hn, List.drop_length] at hx
   conv => whnf
   refine postV_one ?_
   rw [hx]; rfl
end Go.Sx
end
section
set_option maxRecDepth 10000
set_option maxHeartbeats 2000000
namespace Go.Sx
open Go Go.Proofs
theorem c_great (A : Option Addr) (c : Nat) (l : List Pt) (hl : l.length ≤ 1000000) :
   FnM PP f_narrowslaw26_great [.slice A l.length c] (facts [SlRes A (rowV ptC l)]) (retsV (.bool (l.any (bigP 12)))) := by
 refine FnS.of TBgood mixed h_narrowslaw26_great rfl rfl (Nat.le_of_ble_eq_true rfl) (by simp [SlRes.ok]) ?_
 intro w hw
 conv => whnf
 refine CallVC.v (c_Great07 A c l hl).enters (CallV.facts (c_Great07 A c l hl) rfl (fun R hR => hR)) ?_
 conv => whnf
 exact postV_one rfl
end Go.Sx
end
section
namespace Go.Sx
theorem lt_step {a b t : Rat} (h0 : 0 < t) : a < a + (b - a) * t ↔ a < b := by
 constructor
 · intro h
   rcases Rat.le_total (a := b) (b := a) with h1 | h1
   · exfalso; have := Rat.mul_nonneg (show 0 ≤ a - b by grind) (show 0 ≤ t by grind); grind
   · by_cases he : a = b
     · exfalso; rw [he] at h; grind
     · grind
 · intro h
   have := Rat.mul_pos (show 0 < b - a by grind) h0; grind
theorem gt_step {a b t : Rat} (h0 : 0 < t) : a + (b - a) * t < a ↔ b < a := by
 constructor
 · intro h
   rcases Rat.le_total (a := a) (b := b) with h1 | h1
   · exfalso; have := Rat.mul_nonneg (show 0 ≤ b - a by grind) (show 0 ≤ t by grind); grind
   · by_cases he : a = b
     · exfalso; rw [he] at h; grind
     · grind
 · intro h
   have := Rat.mul_pos (show 0 < a - b by grind) h0; grind
theorem cmp_step {a b t : Rat} (h0 : 0 < t) : cmpQ a (a + (b - a) * t) = cmpQ a b := by
 unfold cmpQ; simp only [lt_step h0, gt_step h0]
theorem cmp_step' {a b t : Rat} (h1 : t < 1) : cmpQ (a + (b - a) * t) b = cmpQ a b := by
 have e : a + (b - a) * t = b + (a - b) * (1 - t) := by grind
 have h0 : 0 < 1 - t := by grind
 rw [e]; unfold cmpQ; simp only [lt_step h0, gt_step h0]
theorem cmpV_step {a b : V} {t : Rat} (h0 : 0 < t) : cmpV a (a.at b t) = cmpV a b := by
 unfold cmpV
 rw [show (a.at b t).x = a.x + (b.x - a.x) * t from rfl, show (a.at b t).y = a.y + (b.y - a.y) * t from rfl, cmp_step h0, cmp_step h0]
theorem cmpV_step' {a b : V} {t : Rat} (h1 : t < 1) : cmpV (a.at b t) b = cmpV a b := by
 unfold cmpV
 rw [show (a.at b t).x = a.x + (b.x - a.x) * t from rfl, show (a.at b t).y = a.y + (b.y - a.y) * t from rfl, cmp_step' h1, cmp_step' h1]
end Go.Sx
end
section
set_option maxRecDepth 10000
set_option maxHeartbeats 2000000
namespace Go.Sx
open Go Go.Proofs
end Go.Sx
end
section
namespace Go.Sx
theorem cmpQ_val (x y : Rat) : (cmpQ x y = -1 ∧ x < y) ∨ (cmpQ x y = 0 ∧ x = y) ∨ (cmpQ x y = 1 ∧ y < x) := by
 unfold cmpQ; split
 · exact .inl ⟨rfl, by assumption⟩
 · split
   · exact .inr (.inr ⟨rfl, by assumption⟩)
   · exact .inr (.inl ⟨rfl, by grind⟩)
def ltP2 (a b : V) : Prop := a.x < b.x ∨ (a.x = b.x ∧ a.y < b.y)
theorem cmpV_val (a b : V) : (cmpV a b = -1 ∧ ltP2 a b) ∨ (cmpV a b = 0 ∧ a = b) ∨ (cmpV a b = 1 ∧ ltP2 b a) := by
 unfold cmpV ltP2
 rcases cmpQ_val a.x b.x with ⟨h1, h2⟩ | ⟨h1, h2⟩ | ⟨h1, h2⟩
 · rw [h1, if_pos (by decide)]; exact .inl ⟨rfl, .inl h2⟩
 · rw [h1, if_neg (by decide)]
   rcases cmpQ_val a.y b.y with ⟨h3, h4⟩ | ⟨h3, h4⟩ | ⟨h3, h4⟩
   · exact .inl ⟨h3, .inr ⟨h2, h4⟩⟩
   · exact .inr (.inl ⟨h3, V.ext' h2 h4⟩)
   · exact .inr (.inr ⟨h3, .inr ⟨h2.symm, h4⟩⟩)
 · rw [h1, if_pos (by decide)]; exact .inr (.inr ⟨rfl, .inl h2⟩)
theorem ltP2_irr {a : V} : ¬ ltP2 a a := by unfold ltP2; grind
theorem ltP2_trans {a b c : V} (h : ltP2 a b) (k : ltP2 b c) : ltP2 a c := by unfold ltP2 at *; grind
theorem cmpV_lt {a b : V} : cmpV a b < 0 ↔ ltP2 a b := by
 rcases cmpV_val a b with ⟨h1, h2⟩ | ⟨h1, h2⟩ | ⟨h1, h2⟩
 · rw [h1]; exact ⟨fun _ => h2, fun _ => by decide⟩
 · rw [h1, h2]; exact ⟨fun h => absurd h (by decide), fun h => absurd h ltP2_irr⟩
 · rw [h1]; exact ⟨fun h => absurd h (by decide), fun h => absurd (ltP2_trans h h2) ltP2_irr⟩
theorem cmpV_gt {a b : V} : cmpV a b > 0 ↔ ltP2 b a := by
 rcases cmpV_val a b with ⟨h1, h2⟩ | ⟨h1, h2⟩ | ⟨h1, h2⟩
 · rw [h1]; exact ⟨fun h => absurd h (by decide), fun h => absurd (ltP2_trans h h2) ltP2_irr⟩
 · rw [h1, h2]; exact ⟨fun h => absurd h (by decide), fun h => absurd h ltP2_irr⟩
 · rw [h1]; exact ⟨fun _ => h2, fun _ => by decide⟩
theorem ltP2_tri (a b : V) : ltP2 a b ∨ a = b ∨ ltP2 b a := by
 rcases cmpV_val a b with ⟨h1, h2⟩ | ⟨h1, h2⟩ | ⟨h1, h2⟩
 · exact .inl h2
 · exact .inr (.inl h2)
 · exact .inr (.inr h2)
def leP2 (a b : V) : Prop := ¬ ltP2 b a
theorem leP2_refl (a : V) : leP2 a a := ltP2_irr
theorem leP2_trans {a b c : V} (h : leP2 a b) (k : leP2 b c) : leP2 a c := fun h2 => by
 rcases ltP2_tri a b with h3 | h3 | h3
 · exact k (ltP2_trans h2 h3)
 · rw [h3] at h2; exact k h2
 · exact h h3
theorem lt_le {a b : V} (h : ltP2 a b) : leP2 a b := fun k => ltP2_irr (ltP2_trans h k)
theorem cmpV_le {a b : V} : cmpV a b ≤ 0 ↔ leP2 a b := by
 rw [leP2, ← cmpV_gt]; omega
theorem at_le {a b : V} {t : Rat} (h0 : 0 ≤ t) (h1 : t ≤ 1) (h : leP2 a b) : leP2 a (a.at b t) ∧ leP2 (a.at b t) b := by
 by_cases e0 : t = 0
 · rw [e0, V.at_zero]; exact ⟨leP2_refl a, h⟩
 by_cases e1 : t = 1
 · rw [e1, V.at_one]; exact ⟨h, leP2_refl b⟩
 rw [← cmpV_le, ← cmpV_le, cmpV_step (by grind), cmpV_step' (by grind)]
 exact ⟨cmpV_le.2 h, cmpV_le.2 h⟩
theorem le_at {a b p : V} (hab : a ≠ b) (hc : (b - a).cross (p - a) = 0) (h1 : leP2 a p) (h2 : leP2 p b) : ∃ t, (0 ≤ t ∧ t ≤ 1) ∧ p = a.at b t := by
 refine betw_at hab ?_
 unfold betwB
 have hm : 0 ≤ cmpV a p * cmpV p b := Int.mul_nonneg_of_nonpos_of_nonpos (cmpV_le.2 h1) (cmpV_le.2 h2)
 rw [hc, decide_eq_true (cmpQ_eq.2 rfl), decide_eq_true hm, decide_eq_true (show cmpV a b ≠ 0 from fun h => hab (cmpV_zero.1 h))]
 rfl
theorem at_swap (a b : V) (t : Rat) : b.at a t = a.at b (1 - t) := V.ext' (by simp only [V.at_x]; grind) (by simp only [V.at_y]; grind)
end Go.Sx
end
section
namespace Go.Sx
def onS (a b p : V) : Prop := ∃ t : Rat, (0 ≤ t ∧ t ≤ 1) ∧ p = a.at b t
theorem onS_swap {a b p : V} : onS a b p ↔ onS b a p := by
 constructor <;> rintro ⟨t, ⟨h0, h1⟩, rfl⟩ <;> exact ⟨1 - t, ⟨by grind, by grind⟩, by rw [at_swap]⟩
theorem onS_left (a b : V) : onS a b a := ⟨0, ⟨by grind, by grind⟩, (V.at_zero a b).symm⟩
theorem onS_right (a b : V) : onS a b b := ⟨1, ⟨by grind, by grind⟩, (V.at_one a b).symm⟩
theorem ord_le (a b : V) : leP2 (ordV a b).1 (ordV a b).2 ∧ (∀ p, onS (ordV a b).1 (ordV a b).2 p ↔ onS a b p) ∧ ((ordV a b = (a, b)) ∨ (ordV a b = (b, a))) := by
 unfold ordV
 by_cases h : cmpV a b > 0
 · rw [if_pos h]; exact ⟨lt_le (cmpV_gt.1 h), fun p => onS_swap, .inr rfl⟩
 · rw [if_neg h]; exact ⟨cmpV_le.1 (by show cmpV a b ≤ 0; omega), fun p => Iff.rfl, .inl rfl⟩
theorem onS_le {a b p : V} (h : leP2 a b) (hp : onS a b p) : leP2 a p ∧ leP2 p b := by
 obtain ⟨t, ⟨h0, h1⟩, rfl⟩ := hp; exact at_le h0 h1 h
theorem gt_le (a b : V) : leP2 a (gtV a b) ∧ leP2 b (gtV a b) ∧ (gtV a b = a ∨ gtV a b = b) ∧ ∀ p, leP2 a p → leP2 b p → leP2 (gtV a b) p := by
 unfold gtV
 by_cases h : cmpV a b < 0
 · rw [if_pos h]; exact ⟨lt_le (cmpV_lt.1 h), leP2_refl b, .inr rfl, fun p _ h => h⟩
 · rw [if_neg h]
   exact ⟨leP2_refl a, fun k => h (cmpV_lt.2 k), .inl rfl, fun p h _ => h⟩
theorem lt_le' (a b : V) : leP2 (ltV a b) a ∧ leP2 (ltV a b) b ∧ (ltV a b = a ∨ ltV a b = b) ∧ ∀ p, leP2 p a → leP2 p b → leP2 p (ltV a b) := by
 unfold ltV
 by_cases h : cmpV a b < 0
 · rw [if_pos h]; exact ⟨leP2_refl a, lt_le (cmpV_lt.1 h), .inl rfl, fun p h _ => h⟩
 · rw [if_neg h]
   exact ⟨fun k => h (cmpV_lt.2 k), leP2_refl b, .inr rfl, fun p _ h => h⟩
theorem unitB_iff {t : Rat} : unitB t = true ↔ 0 ≤ t ∧ t ≤ 1 := by
 unfold unitB; rw [Bool.and_eq_true, decide_eq_true_eq, decide_eq_true_eq, cmpQ_ge, cmpQ_le]
theorem cramer {a b c d : V} (h : (b - a).cross (d - c) ≠ 0) (t s : Rat) :
   a.at b t = c.at d s ↔ t = (c - a).cross (d - c) / (b - a).cross (d - c) ∧ s = (c - a).cross (b - a) / (b - a).cross (d - c) := by
 have e1 : (c - a).cross (d - c) / (b - a).cross (d - c) * (b - a).cross (d - c) = (c - a).cross (d - c) := Rat.div_mul_cancel h
 have e2 : (c - a).cross (b - a) / (b - a).cross (d - c) * (b - a).cross (d - c) = (c - a).cross (b - a) := Rat.div_mul_cancel h
 generalize (c - a).cross (d - c) / (b - a).cross (d - c) = T at e1 ⊢
 generalize (c - a).cross (b - a) / (b - a).cross (d - c) = U at e2 ⊢
 simp only [V.cross, V.sub_x, V.sub_y] at h e1 e2
 constructor
 · intro he
   have hx : a.x + (b.x - a.x) * t = c.x + (d.x - c.x) * s := congrArg V.x he
   have hy : a.y + (b.y - a.y) * t = c.y + (d.y - c.y) * s := congrArg V.y he
   constructor
   · have : (t - T) * ((b.x - a.x) * (d.y - c.y) - (b.y - a.y) * (d.x - c.x)) = 0 := by grind
     rcases Rat.mul_eq_zero.1 this with h2 | h2
     · grind
     · exact absurd h2 h
   · have : (s - U) * ((b.x - a.x) * (d.y - c.y) - (b.y - a.y) * (d.x - c.x)) = 0 := by grind
     rcases Rat.mul_eq_zero.1 this with h2 | h2
     · grind
     · exact absurd h2 h
 · rintro ⟨rfl, rfl⟩
   have kx : (a.x + (b.x - a.x) * t - (c.x + (d.x - c.x) * s)) * ((b.x - a.x) * (d.y - c.y) - (b.y - a.y) * (d.x - c.x)) = 0 := by grind
   have ky : (a.y + (b.y - a.y) * t - (c.y + (d.y - c.y) * s)) * ((b.x - a.x) * (d.y - c.y) - (b.y - a.y) * (d.x - c.x)) = 0 := by grind
   refine V.ext' ?_ ?_
   · show a.x + (b.x - a.x) * t = c.x + (d.x - c.x) * s
     rcases Rat.mul_eq_zero.1 kx with h2 | h2
     · grind
     · exact absurd h2 h
   · show a.y + (b.y - a.y) * t = c.y + (d.y - c.y) * s
     rcases Rat.mul_eq_zero.1 ky with h2 | h2
     · grind
     · exact absurd h2 h
theorem meet_pts {a b c d : V} (hab : a ≠ b) (hcd : c ≠ d) : (∀ x, meetV a b c d = some x → onS a b x.1 ∧ onS c d x.1 ∧ onS a b x.2 ∧ onS c d x.2 ∧ leP2 x.1 x.2 ∧ ∀ p, onS a b p → onS c d p → leP2 x.1 p ∧ leP2 p x.2) ∧ (meetV a b c d = none → ∀ p, onS a b p → onS c d p → False) := by
 unfold meetV
 by_cases hx : cmpQ ((b - a).cross (d - c)) 0 ≠ 0
 · rw [if_pos hx]
   have hne : (b - a).cross (d - c) ≠ 0 := fun h => hx (cmpQ_eq.2 h)
   by_cases hu : (!unitB ((c - a).cross (d - c) / (b - a).cross (d - c)) || !unitB ((c - a).cross (b - a) / (b - a).cross (d - c))) = true
   · rw [if_pos hu]
     refine ⟨(fun x h => by cases h), fun _ p => ?_⟩
     rintro ⟨t, ⟨h0, h1⟩, rfl⟩ ⟨s, ⟨k0, k1⟩, he⟩
     obtain ⟨e1, e2⟩ := (cramer hne t s).1 he
     rw [← e1, ← e2, unitB_iff.2 ⟨h0, h1⟩, unitB_iff.2 ⟨k0, k1⟩] at hu
     exact absurd hu (by decide)
   · rw [if_neg hu]
     simp only [Bool.or_eq_true, Bool.not_eq_true', not_or, Bool.not_eq_false] at hu
     obtain ⟨u1, u2⟩ := hu
     refine ⟨fun x h => ?_, (fun h => by cases h)⟩
     cases h
     have hon1 : onS a b (a.at b ((c - a).cross (d - c) / (b - a).cross (d - c))) := ⟨_, unitB_iff.1 u1, rfl⟩
     have hon2 : onS c d (a.at b ((c - a).cross (d - c) / (b - a).cross (d - c))) := ⟨_, unitB_iff.1 u2, (cramer hne _ _).2 ⟨rfl, rfl⟩⟩
     refine ⟨hon1, hon2, hon1, hon2, leP2_refl _, fun p => ?_⟩
     rintro ⟨t, ⟨h0, h1⟩, rfl⟩ ⟨s, ⟨k0, k1⟩, he⟩
     obtain ⟨e1, e2⟩ := (cramer hne t s).1 he
     rw [← e1]; exact ⟨leP2_refl _, leP2_refl _⟩
 · rw [if_neg hx]
   have h0 : (b - a).cross (d - c) = 0 := cmpQ_eq.1 (Decidable.not_not.1 hx)
   by_cases hy : cmpQ ((b - a).cross (c - a)) 0 ≠ 0
   · rw [if_pos hy]
     refine ⟨(fun x h => by cases h), fun _ p => ?_⟩
     rintro ⟨t, _, rfl⟩ ⟨s, _, he⟩
     apply hy
     rw [cmpQ_eq]
     have hx : a.x + (b.x - a.x) * t = c.x + (d.x - c.x) * s := congrArg V.x he
     have hy : a.y + (b.y - a.y) * t = c.y + (d.y - c.y) * s := congrArg V.y he
     simp only [V.cross, V.sub_x, V.sub_y] at h0 ⊢
     grind
   · rw [if_neg hy]
     have h1 : (b - a).cross (c - a) = 0 := cmpQ_eq.1 (Decidable.not_not.1 hy)
     obtain ⟨o1, o2, o3⟩ := ord_le a b
     obtain ⟨q1, q2, q3⟩ := ord_le c d
     obtain ⟨g1, g2, g3, g4⟩ := gt_le (ordV a b).1 (ordV c d).1
     obtain ⟨l1, l2, l3, l4⟩ := lt_le' (ordV a b).2 (ordV c d).2
     have ra : (d - c).cross (a - c) = 0 := by
       have hd : b.x - a.x ≠ 0 ∨ b.y - a.y ≠ 0 := by
         by_cases k : b.x = a.x
         · right; intro k2; exact hab (V.ext' k.symm (by grind))
         · left; grind
       simp only [V.cross, V.sub_x, V.sub_y] at h0 h1 ⊢
       rcases hd with k | k
       · have : (b.x - a.x) * ((d.x - c.x) * (a.y - c.y) - (d.y - c.y) * (a.x - c.x)) = 0 := by grind
         rcases Rat.mul_eq_zero.1 this with k2 | k2
         · exact absurd k2 k
         · exact k2
       · have : (b.y - a.y) * ((d.x - c.x) * (a.y - c.y) - (d.y - c.y) * (a.x - c.x)) = 0 := by grind
         rcases Rat.mul_eq_zero.1 this with k2 | k2
         · exact absurd k2 k
         · exact k2
     have onl : ∀ p, (p = a ∨ p = b ∨ p = c ∨ p = d) → (b - a).cross (p - a) = 0 ∧ (d - c).cross (p - c) = 0 := by
       intro p hp
       simp only [V.cross, V.sub_x, V.sub_y] at h0 h1 ra ⊢
       rcases hp with rfl | rfl | rfl | rfl
       · exact ⟨by grind, ra⟩
       · exact ⟨by grind, by grind⟩
       · exact ⟨h1, by grind⟩
       · exact ⟨by grind, by grind⟩
     have ends : ∀ p, (p = (ordV a b).1 ∨ p = (ordV a b).2 ∨ p = (ordV c d).1 ∨ p = (ordV c d).2) → (p = a ∨ p = b ∨ p = c ∨ p = d) := by
       intro p hp
       rcases o3 with e | e <;> rcases q3 with f | f <;> rw [e, f] at hp <;> simp only at hp <;> grind
     have on2 : ∀ p, (p = (ordV a b).1 ∨ p = (ordV a b).2 ∨ p = (ordV c d).1 ∨ p = (ordV c d).2) → leP2 (ordV a b).1 p → leP2 p (ordV a b).2 → leP2 (ordV c d).1 p → leP2 p (ordV c d).2 → onS a b p ∧ onS c d p := by
       intro p hp k1 k2 k3 k4
       obtain ⟨c1, c2⟩ := onl p (ends p hp)
       constructor
       · rw [← o2]
         refine le_at ?_ ?_ k1 k2
         · rcases o3 with e | e <;> rw [e]
           · exact hab
           · exact fun h => hab h.symm
         · rcases o3 with e | e <;> rw [e]
           · exact c1
           · simp only [V.cross, V.sub_x, V.sub_y] at c1 ⊢; grind
       · rw [← q2]
         refine le_at ?_ ?_ k3 k4
         · rcases q3 with e | e <;> rw [e]
           · exact hcd
           · exact fun h => hcd h.symm
         · rcases q3 with e | e <;> rw [e]
           · exact c2
           · simp only [V.cross, V.sub_x, V.sub_y] at c2 ⊢; grind
     have both : ∀ p, onS a b p → onS c d p → leP2 (gtV (ordV a b).1 (ordV c d).1) p ∧ leP2 p (ltV (ordV a b).2 (ordV c d).2) := fun p p1 p2 => by
       obtain ⟨k1, k2⟩ := onS_le o1 ((o2 p).2 p1)
       obtain ⟨k3, k4⟩ := onS_le q1 ((q2 p).2 p2)
       exact ⟨g4 p k1 k3, l4 p k2 k4⟩
     by_cases hz : cmpV (gtV (ordV a b).1 (ordV c d).1) (ltV (ordV a b).2 (ordV c d).2) > 0
     · rw [if_pos hz]
       refine ⟨(fun x h => by cases h), fun _ p p1 p2 => ?_⟩
       obtain ⟨k1, k2⟩ := both p p1 p2
       exact leP2_trans k1 k2 (cmpV_gt.1 hz)
     · rw [if_neg hz]
       have hle : leP2 (gtV (ordV a b).1 (ordV c d).1) (ltV (ordV a b).2 (ordV c d).2) := cmpV_le.1 (by omega)
       refine ⟨fun x h => ?_, (fun h => by cases h)⟩
       cases h
       have e1 := on2 (gtV (ordV a b).1 (ordV c d).1) (by rcases g3 with e | e <;> rw [e] <;> simp) g1 (leP2_trans hle l1) g2 (leP2_trans hle l2)
       have e2 := on2 (ltV (ordV a b).2 (ordV c d).2) (by rcases l3 with e | e <;> rw [e] <;> simp) (leP2_trans g1 hle) l1 (leP2_trans g2 hle) l2
       exact ⟨e1.1, e1.2, e2.1, e2.2, hle, both⟩
theorem meet_iff {a b c d : V} (hab : a ≠ b) (hcd : c ≠ d) : (meetV a b c d).isSome = true ↔ ∃ p, onS a b p ∧ onS c d p := by
 obtain ⟨h1, h2⟩ := meet_pts hab hcd
 cases hm : meetV a b c d with
 | none => exact ⟨fun h => absurd h (by simp), fun ⟨p, p1, p2⟩ => (h2 hm p p1 p2).elim⟩
 | some x => obtain ⟨k1, k2, _⟩ := h1 x hm; exact ⟨fun _ => ⟨x.1, k1, k2⟩, fun _ => rfl⟩
end Go.Sx
end
section
namespace Go.Sx
structure Met (D : V → V → V → Rat) (δ : V → V → Rat) : Prop where
 le : ∀ {a b p q : V}, a ≠ b → onS a b q → D a b p ≤ δ q p
 at_ : ∀ (a b p : V), ∃ q, onS a b q ∧ D a b p = δ q p
 comm : ∀ p q, δ p q = δ q p
 nn : ∀ p q, 0 ≤ δ p q
 zero : ∀ p q, δ p q = 0 → p = q
 self : ∀ p, δ p p = 0
 move : ∀ p q v, δ (p + v) (q + v) = δ p q
theorem at_move (a b v : V) (t : Rat) : (a + v).at (b + v) t = a.at b t + v := V.ext' (by simp only [V.at_x, V.add_x]; grind) (by simp only [V.at_y, V.add_y]; grind)
theorem onS_move {a b p v : V} : onS (a + v) (b + v) (p + v) ↔ onS a b p := by
 constructor
 · rintro ⟨t, h, e⟩
   refine ⟨t, h, ?_⟩
   rw [at_move] at e
   have e1 : p.x + v.x = (a.at b t).x + v.x := congrArg V.x e
   have e2 : p.y + v.y = (a.at b t).y + v.y := congrArg V.y e
   exact V.ext' (by grind) (by grind)
 · rintro ⟨t, h, rfl⟩; exact ⟨t, h, (at_move a b v t).symm⟩
theorem sub_add_v (q v : V) : q - v + v = q := V.ext' (by simp only [V.add_x, V.sub_x]; grind) (by simp only [V.add_y, V.sub_y]; grind)
theorem add_ne {a b v : V} (h : a ≠ b) : a + v ≠ b + v := fun e => h (V.ext' (by have := congrArg V.x e; simp only [V.add_x] at this; grind) (by have := congrArg V.y e; simp only [V.add_y] at this; grind))
section
variable {D : V → V → V → Rat} {δ : V → V → Rat}
theorem Met.shift (m : Met D δ) {a b : V} (h : a ≠ b) (p v : V) : D (a + v) (b + v) (p + v) = D a b p := by
 obtain ⟨q, h1, e1⟩ := m.at_ a b p
 obtain ⟨r, h2, e2⟩ := m.at_ (a + v) (b + v) (p + v)
 refine Rat.le_antisymm ?_ ?_
 · rw [e1, ← m.move q p v]; exact m.le (add_ne h) (onS_move.2 h1)
 · rw [e2, ← sub_add_v r v, m.move]
   rw [← sub_add_v r v] at h2
   exact m.le h (onS_move.1 h2)
end
theorem ext4_le {a b c d m : Rat} : m ≤ extQ (-1) a [b, c, d] ↔ m ≤ a ∧ m ≤ b ∧ m ≤ c ∧ m ≤ d := by
 have one : ∀ x y : Rat, cmpQ y x = -1 ↔ y < x := fun x y => by
   rcases cmpQ_val y x with ⟨h1, h2⟩ | ⟨h1, h2⟩ | ⟨h1, h2⟩
   · exact ⟨fun _ => h2, fun _ => h1⟩
   · rw [h1]; exact ⟨fun h => absurd h (by decide), fun h => by grind⟩
   · rw [h1]; exact ⟨fun h => absurd h (by decide), fun h => by grind⟩
 simp only [extQ, one]
 split <;> split <;> split <;> constructor <;> intro h <;> grind
end Go.Sx
end
section
namespace Go.Sx
section
variable {D : V → V → V → Rat} {δ : V → V → Rat} {a b c d : V}
end
end Go.Sx
end
section
set_option maxRecDepth 10000
set_option maxHeartbeats 2000000
namespace Go.Sx
open Go Go.Proofs
structure SgOk (s : Sg) : Prop where
 sm : s.sm KS
 a : s.A.ok
 b : s.B.ok
 nd : ¬ degen s
theorem SgOk.ne {s : Sg} (h : SgOk s) : s.A.v ≠ s.B.v := fun e => h.nd (cmpV_zero.2 e)
end Go.Sx
end
