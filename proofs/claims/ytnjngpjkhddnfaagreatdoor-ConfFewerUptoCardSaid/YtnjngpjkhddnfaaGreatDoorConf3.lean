/- conf.Read: walked. -/
import Derived.Test.YtnjngpjkhddnfaaGreatDoorConf2
import Derived.Test.YtnjngpjkhddnfaaGreatDoorDelC
import Derived.Test.YtnjngpjkhddnfaaGreatDoorAbsG3
set_option linter.all false
namespace Go.Proofs.YtnjngpjkhddnfaaGreatDoor
open Go Go.Abs

def sp1 : ByteArray := ⟨#[32]⟩
def nl1 : ByteArray := ⟨#[10]⟩
theorem splitC_le {c : UInt8} : ∀ (l : List UInt8), ∀ x ∈ splitC c l, x.length ≤ l.length
 | [], x, h => by simp [splitC] at h; simp [h]
 | b :: r, x, h => by
   unfold splitC at h
   split at h
   · rcases List.mem_cons.1 h with h | h
     · rw [h]; exact Nat.zero_le _
     · have := splitC_le r x h
       rw [List.length_cons]; omega
   · cases e : splitC c r with
     | nil => exact absurd e (splitC_ne r)
     | cons y t =>
       rw [e] at h
       rcases List.mem_cons.1 h with h | h
       · have := splitC_le r y (by rw [e]; exact List.mem_cons_self ..)
         rw [h, List.length_cons, List.length_cons]; omega
       · have := splitC_le r x (by rw [e]; exact List.mem_cons_of_mem _ h)
         rw [List.length_cons]; omega
theorem splitV_one (c : UInt8) (s : ByteArray) : splitV s ⟨#[c]⟩ = (splitC c s.data.toList).map fun l => (⟨l.toArray⟩ : ByteArray) := split_one s
theorem splitV_le {c : UInt8} {s x : ByteArray} (h : x ∈ splitV s ⟨#[c]⟩) : x.size ≤ s.size := by
 rw [splitV_one] at h
 obtain ⟨l, hl, rfl⟩ := List.mem_map.1 h
 have := splitC_le _ _ hl
 have e := Lib.size_eq s
 show l.toArray.size ≤ s.size
 rw [List.size_toArray]; omega
theorem splitV_len {c : UInt8} {s : ByteArray} : (splitV s ⟨#[c]⟩).length ≤ s.size + 1 := by
 rw [splitV_one, List.length_map, splitC_len]
 have := List.count_le_length (a := c) (l := s.data.toList)
 have e := Lib.size_eq s
 omega
theorem splitV_pos {c : UInt8} {s : ByteArray} : 0 < (splitV s ⟨#[c]⟩).length := by
 rw [splitV_one, List.length_map, splitC_len]; omega
def wordsP (l : ByteArray) : List ByteArray := (splitV l sp1).filter neB
structure RdS where
 frame : Int
 wants : List Want
 jobs : List PlanJob
 st : Int
def RdS.plan (r : RdS) : Plan := ⟨r.frame, r.wants, r.jobs⟩
def plan0 : Plan := ⟨0, [], []⟩
def nAt (w : List ByteArray) (k : Nat) (n : Int) : Int := (numsV (w.drop 1) n).1.getD k Dat.d0
def lineS (r : RdS) (w : List ByteArray) : Option RdS :=
 if w.getD 0 Dat.d0 = frameB ∧ r.st = 0 then (if (numsV (w.drop 1) 1).2 = true then some ⟨nAt w 0 1, r.wants, r.jobs, 1⟩ else none)
 else if w.getD 0 Dat.d0 = wantB0 ∧ r.st = 1 then (if (numsV (w.drop 1) 4).2 = true then some ⟨r.frame, r.wants ++ [⟨nAt w 0 4, nAt w 1 4, nAt w 2 4, nAt w 3 4⟩], r.jobs, r.st⟩ else none)
 else if w.getD 0 Dat.d0 = jobB ∧ 0 < r.st then (if (numsV (w.drop 1) 4).2 = true then some ⟨r.frame, r.wants, r.jobs ++ [⟨nAt w 0 4, ⟨nAt w 1 4, nAt w 2 4, nAt w 3 4⟩⟩], 2⟩ else none)
 else none
def remB (w : List ByteArray) : Prop := w.length = 0 ∨ byteAt (w.getD 0 Dat.d0) 0 = 35
instance (w : List ByteArray) : Decidable (remB w) := inferInstanceAs (Decidable (_ ∨ _))
def readS : List ByteArray → Int → RdS → Plan × Int × Int
 | [], n, r => if r.st = 0 then (plan0, n, 10) else if pchkV r.plan = 0 then (r.plan, 0, 0) else (plan0, 0, pchkV r.plan)
 | l :: t, n, r => if remB (wordsP l) then readS t (n + 1) r else match lineS r (wordsP l) with
   | none => (plan0, n, 10)
   | some r' => readS t (n + 1) r'
def linesR (s : ByteArray) : List ByteArray := if (splitV s nl1).getD ((splitV s nl1).length - 1) Dat.d0 = .empty then (splitV s nl1).take ((splitV s nl1).length - 1) else splitV s nl1
def readV (s : ByteArray) : Plan × Int × Int := if 65536 < s.size then (plan0, 0, 2) else readS (linesR s) 0 ⟨0, [], [], 0⟩
structure RcX (L : List ByteArray) where
 k : Nat
 hk : k ≤ L.length
 r : RdS
 hw : r.wants.length ≤ k
 hj : r.jobs.length ≤ k
 hr : readS L 0 ⟨0, [], [], 0⟩ = readS (L.drop k) k r
theorem lines_of {s : ByteArray} : (linesR s).length ≤ (splitV s nl1).length ∧ (∀ k, k < (linesR s).length → (splitV s nl1).getD k Dat.d0 = (linesR s).getD k Dat.d0) ∧
   ((splitV s nl1).getD ((splitV s nl1).length - 1) Dat.d0 = .empty → (linesR s).length = (splitV s nl1).length - 1) ∧ (¬ (splitV s nl1).getD ((splitV s nl1).length - 1) Dat.d0 = .empty → (linesR s).length = (splitV s nl1).length) := by
 unfold linesR
 by_cases h : (splitV s nl1).getD ((splitV s nl1).length - 1) Dat.d0 = .empty
 · rw [if_pos h]
   have hl : ((splitV s nl1).take ((splitV s nl1).length - 1)).length = (splitV s nl1).length - 1 := by rw [List.length_take]; omega
   refine ⟨by omega, fun k hk => ?_, fun _ => hl, fun q => absurd h q⟩
   rw [List.getD_eq_getElem?_getD, List.getD_eq_getElem?_getD, List.getElem?_take, if_pos (by omega)]
 · rw [if_neg h]
   exact ⟨Nat.le_refl _, fun _ _ => rfl, fun q => absurd q h, fun _ => rfl⟩
theorem lines_size {s : ByteArray} {r : List ByteArray} (h : r = splitV s ⟨#[10]⟩) (hs : s.size ≤ 65536) (k : Nat) : (r.getD k Dat.d0).size ≤ 65536 := by
 rw [h, List.getD_eq_getElem?_getD]
 cases h : (splitV s ⟨#[10]⟩)[k]? with
 | none => exact Nat.zero_le _
 | some x => exact Nat.le_trans (splitV_le (List.mem_of_getElem? h)) hs
theorem lines_len {s : ByteArray} {r : List ByteArray} (h : r = splitV s ⟨#[10]⟩) (hs : s.size ≤ 65536) : r.length ≤ 65537 := by
 rw [h]; exact Nat.le_trans splitV_len (by omega)
theorem wordsP_def (l : ByteArray) : (splitV l ⟨⟨[32]⟩⟩).filter neB = wordsP l := rfl
theorem wordsP_len (l : ByteArray) : (wordsP l).length ≤ l.size + 1 := Nat.le_trans (List.length_filter_le ..) splitV_len
theorem wordsP_le {l x : ByteArray} (h : x ∈ wordsP l) : x.size ≤ l.size := splitV_le (List.mem_filter.1 h).1
theorem wordsP_ne {l x : ByteArray} (h : x ∈ wordsP l) : 0 < x.size := by
 have h2 := of_decide_eq_true (List.mem_filter.1 h).2
 rcases Nat.eq_zero_or_pos x.size with q | q
 · exfalso; refine h2 ?_
   cases x with
   | mk d =>
     have : d.size = 0 := q
     rw [Array.size_eq_zero_iff] at this
     rw [this]; rfl
 · exact q
theorem nums_ok {w : List ByteArray} {n : Int} (h : (numsV w n).2 = true) : ((numsV w n).1.length : Int) = n := by
 unfold numsV at h ⊢
 split at h
 · rename_i c
   rw [if_pos c]
   have h := of_decide_eq_true h
   show ((w.map numU).length : Int) = n
   rw [List.length_map]; exact h
 · cases h
theorem line_1 {r : RdS} {w : List ByteArray} (h : w.getD 0 Dat.d0 = frameB ∧ r.st = 0) : lineS r w = if (numsV (w.drop 1) 1).2 = true then some ⟨nAt w 0 1, r.wants, r.jobs, 1⟩ else none := by
 rw [lineS, if_pos h]
theorem line_2 {r : RdS} {w : List ByteArray} (h : w.getD 0 Dat.d0 = wantB0 ∧ r.st = 1) (h0 : ¬ (w.getD 0 Dat.d0 = frameB ∧ r.st = 0)) : lineS r w = if (numsV (w.drop 1) 4).2 = true then some ⟨r.frame, r.wants ++ [⟨nAt w 0 4, nAt w 1 4, nAt w 2 4, nAt w 3 4⟩], r.jobs, r.st⟩ else none := by
 rw [lineS, if_neg h0, if_pos h]
theorem line_3 {r : RdS} {w : List ByteArray} (h : w.getD 0 Dat.d0 = jobB ∧ 0 < r.st) (h0 : ¬ (w.getD 0 Dat.d0 = frameB ∧ r.st = 0)) (h1 : ¬ (w.getD 0 Dat.d0 = wantB0 ∧ r.st = 1)) : lineS r w = if (numsV (w.drop 1) 4).2 = true then some ⟨r.frame, r.wants, r.jobs ++ [⟨nAt w 0 4, ⟨nAt w 1 4, nAt w 2 4, nAt w 3 4⟩⟩], 2⟩ else none := by
 rw [lineS, if_neg h0, if_neg h1, if_pos h]
theorem line_0 {r : RdS} {w : List ByteArray} (h0 : ¬ (w.getD 0 Dat.d0 = frameB ∧ r.st = 0)) (h1 : ¬ (w.getD 0 Dat.d0 = wantB0 ∧ r.st = 1)) (h2 : ¬ (w.getD 0 Dat.d0 = jobB ∧ 0 < r.st)) : lineS r w = none := by
 rw [lineS, if_neg h0, if_neg h1, if_neg h2]
theorem drop_consB {l : List ByteArray} {k : Nat} (h : k < l.length) : l.drop k = l.getD k Dat.d0 :: l.drop (k + 1) := by
 rw [List.drop_eq_getElem_cons h, List.getD_eq_getElem?_getD, List.getElem?_eq_getElem h]; rfl
theorem read_rem {L : List ByteArray} {k : Nat} {r : RdS} (hk : k < L.length) (h : remB (wordsP (L.getD k Dat.d0))) : readS (L.drop k) k r = readS (L.drop (k + 1)) ((k + 1 : Nat) : Int) r := by
 rw [drop_consB hk, readS, if_pos h]; rfl
theorem read_bad {L : List ByteArray} {k : Nat} {r : RdS} (hk : k < L.length) (h : ¬ remB (wordsP (L.getD k Dat.d0))) (e : lineS r (wordsP (L.getD k Dat.d0)) = none) : readS (L.drop k) k r = (plan0, (k : Int), 10) := by
 rw [drop_consB hk, readS, if_neg h, e]
theorem read_ok {L : List ByteArray} {k : Nat} {r r2 : RdS} (hk : k < L.length) (h : ¬ remB (wordsP (L.getD k Dat.d0))) (e : lineS r (wordsP (L.getD k Dat.d0)) = some r2) : readS (L.drop k) k r = readS (L.drop (k + 1)) ((k + 1 : Nat) : Int) r2 := by
 rw [drop_consB hk, readS, if_neg h, e]; rfl
theorem read_end {L : List ByteArray} {k : Nat} {r : RdS} (hk : L.length ≤ k) : readS (L.drop k) k r = if r.st = 0 then (plan0, (k : Int), 10) else if pchkV r.plan = 0 then (r.plan, 0, 0) else (plan0, 0, pchkV r.plan) := by
 rw [List.drop_eq_nil_of_le hk, readS]
theorem val_tl (w : List ByteArray) (h : 0 < w.length) : slV (α := ByteArray) (.sl 1 (fun _ => ((w.length : Int) - 1).toNat) fun k => Dat.enc fun _ => w.getD (k () + 1) Dat.d0) = w.drop 1 := val_dropI w 1 1 (by decide) (by omega)
theorem not_rem {w : List ByteArray} (h1 : ¬ ((w.length : Int) = 0)) (h2 : ¬ byteAt (w.getD 0 Dat.d0) 0 = 35) : ¬ remB w := fun q => by
 rcases q with q | q
 · omega
 · exact h2 q
theorem rem_a {w : List ByteArray} (h1 : (w.length : Int) = 0) : remB w := .inl (by omega)
theorem rem_b {w : List ByteArray} (h1 : byteAt (w.getD 0 Dat.d0) 0 = 35) : remB w := .inr h1
noncomputable def cLi : FuncId → Con := fun f => match f with
 | 53 => pureCon numsC_C
 | _ => fun _ _ _ => Bad 1001
theorem cLi_ok : ConOk Tryz.prog cLi := fun f A H K h => by
 unfold cLi at h
 split at h
 · exact ⟨⟨Tryz.f53, Tryz.func53, by kernel_rfl, by kernel_rfl⟩, pureCon_ok numsC_ok h⟩
 · cases h
def dLi : FuncId → Option Dt := fun f => match f with
 | _ => none
theorem dLi_ok : DetOk Tryz.prog dLi := fun f d h => by
 unfold dLi at h
 split at h
 · cases h
noncomputable def cRe : FuncId → Con := fun f => match f with
 | 19 => pureCon splitC_C
 | 27 => delW_K
 | 21 => pureCon (detPC pchk_D)
 | 29 => inlCon E cLi (draws E dLi) [0, 1, 4, 5, 6, 7, 8, 9, 10, 11, 29, 41, 59, 85, 103] Tryz.f29
 | _ => fun _ _ _ => Bad 1001
theorem cRe_ok : ConOk Tryz.prog cRe := fun f A H K h => by
 unfold cRe at h
 split at h
 · exact ⟨⟨Tryz.f19, Tryz.func19, by kernel_rfl, by kernel_rfl⟩, pureCon_ok splitC_ok h⟩
 · exact ⟨⟨Tryz.f27, Tryz.func27, by kernel_rfl, by kernel_rfl⟩, delW_ok h⟩
 · exact ⟨⟨Tryz.f21, Tryz.func21, by kernel_rfl, by kernel_rfl⟩, pureCon_ok pchk_ok h⟩
 · exact ⟨⟨Tryz.f29, Tryz.func29, by kernel_rfl, by kernel_rfl⟩, inl_ok envOk zl cLi_ok (draws_ok envOk zl dLi_ok mixed) Tryz.func29 h⟩
 · cases h
def dRe : FuncId → Option Dt := fun f => match f with
 | 21 => some (.c pchk_D)
 | _ => none
theorem dRe_ok : DetOk Tryz.prog dRe := fun f d h => by
 unfold dRe at h
 split at h
 · cases h; exact ⟨⟨Tryz.f21, Tryz.func21, by kernel_rfl, by kernel_rfl⟩, pchk_ok⟩
 · cases h
def readC_R (r : Th (Plan × Int × Int)) : AV := .tup [.agg [.i .i64 fun _ => (r ()).1.frame, .own 0 fun _ => (r ()).1.wants.length, .own 1 fun _ => (r ()).1.jobs.length], .i .i64 fun _ => (r ()).2.1, .i .i64 fun _ => (r ()).2.2]
def readC_H (r : Th (Plan × Int × Int)) : Hp := [vecO 28 fun _ => (r ()).1.wants, vecO 33 fun _ => (r ()).1.jobs]
def readC_C : PC := fun A K => match A with
 | [.s s] => Ob (fun _ => True) (Gen (α := Plan × Int × Int) (fun _ => readV (s ())) fun r => K (readC_R fun _ => r) (readC_H fun _ => r))
 | _ => Bad 1002
set_option maxRecDepth 100000 in
set_option maxHeartbeats 4000000 in
theorem readC_vc (s : ByteArray) : FnOk Tryz.prog 17 [.s fun _ => s] [] (outA (readC_R fun _ => readV s) (readC_H fun _ => readV s)) := by
 refine fn_ok envOk zl cRe_ok (draws_ok envOk zl dRe_ok mixed) (keep := [0, 2, 3, 4, 5, 6, 7, 8, 9, 10, 13, 23, 29, 30, 31, 32, 48, 51, 57, 65]) Tryz.func17 rfl ?_
 have fin0 : ∀ n e H kl, readV s = (plan0, n, e) → outA (readC_R fun _ => readV s) (readC_H fun _ => readV s) (.tup [.agg [.i .i64 fun _ => 0, .nil, .nil], .i .i64 fun _ => n, .i .i64 fun _ => e]) H kl := fun n e H kl h => by
   rw [h]
   cbv
   repeat' first | (refine Stp.mk ?_; cbv) | (refine Gen.mk fun r hr => ?_; (try simp only [Dat.ok, Dat.dec, Leaf.ok, Leaf.val, Z0, Z1, Z2, Z3, Z4, Z5, Z6, Z7, val_sl, val_nil] at hr); cbv) | exact trivial | rfl | refine Both.mk ?_ ?_ | (refine Imp.mk fun h => ?_; (try dsimp only at h); (try simp only [nc, Int.toNat_natCast, ne_eq, zz] at h); (try simp only [nc] at h)) | refine Ob.mk ?_ ?_ | refine Chk.mk (by kernel_rfl) ?_ | refine Eq'.mk ?_ | (refine AllN.mk fun i hi => ?_; cbv) | (refine AllC.mk fun c hc hcm => ?_; (try dsimp only at hc); cbv) | (refine AllS.mk fun r hr => ?_; (try simp only [Dat.ok, Dat.dec, Leaf.ok, Leaf.val, Z0, Z1, Z2, Z3, Z4, Z5, Z6, Z7, val_sl] at hr); cbv)
   all_goals exact absurd hi (Nat.not_lt_zero _)
 generalize hK : outA (readC_R fun _ => readV s) (readC_H fun _ => readV s) = K at fin0 ⊢
 cbv
 repeat' first | (show Stp _; exfalso; first | omega | (exact h ‹_›) | (exact absurd ‹_› h) | (exact Bool.false_ne_true (h.symm.trans (show _ = true by assumption)))) | (refine Stp.mk ?_; cbv) | (refine Gen.mk fun r hr => ?_; (try simp only [Dat.ok, Dat.dec, Leaf.ok, Leaf.val, Z0, Z1, Z2, Z3, Z4, Z5, Z6, Z7, val_sl, val_nil] at hr); cbv) | exact trivial | rfl | refine Both.mk ?_ ?_ | (refine Imp.mk fun h => ?_; (try dsimp only at h); (try simp only [nc, Int.toNat_natCast, ne_eq, zz] at h); (try simp only [nc] at h)) | refine Ob.mk ?_ ?_ | refine Chk.mk (by kernel_rfl) ?_ | refine Eq'.mk ?_ | (refine AllN.mk fun i hi => ?_; cbv) | (refine AllC.mk fun c hc hcm => ?_; (try dsimp only at hc); cbv) | (refine AllS.mk fun r hr => ?_; (try simp only [Dat.ok, Dat.dec, Leaf.ok, Leaf.val, Z0, Z1, Z2, Z3, Z4, Z5, Z6, Z7, val_sl] at hr); cbv)
 all_goals ((try dsimp only at *); (try simp only [nc, Int.toNat_natCast, ne_eq, zz] at *); (try simp only [nc] at *))
 all_goals try simp only [Dat.dec, Leaf.val, Z0, Z1, Z2, Z3, Z4, Z5, Z6, Z7, val_sl] at *
 all_goals have rp : 0 < (splitV s ⟨#[10]⟩).length := splitV_pos
 all_goals try have hr9 : r = splitV s ⟨#[10]⟩ := hr
 all_goals try rw [← hr9] at rp
 all_goals try have hLn := lines_len hr9 (by omega)
 all_goals try first
   | (refine fin0 _ _ _ _ ?_
      unfold readV; rw [if_pos (by omega)]
      done)
   | exact ⟨by omega, by decide⟩
   | (unfold InR; omega)
   | exact ⟨by omega, by omega⟩
   | exact ⟨trivial, by omega, by omega⟩
   | omega
 all_goals have eP : readV s = readS (linesR s) 0 ⟨0, [], [], 0⟩ := if_neg (by omega)
 all_goals have hsz : s.size ≤ 65536 := by omega
 all_goals have l1 := lines_of (s := s)
 all_goals have hr8 : splitV s nl1 = r := hr9.symm
 all_goals have hLs := lines_size hr9 hsz
 all_goals rw [hr8] at l1
 all_goals obtain ⟨l1, l2, l3, l4⟩ := l1
 all_goals have et : ((r.length : Int) - 1).toNat = r.length - 1 := by omega
 all_goals simp only [et] at *
 all_goals try have l5 := l3 (by assumption)
 all_goals try have l5 := l4 (by assumption)
 all_goals clear l3 l4 hr8 hr9 hr
 all_goals generalize linesR s = L at *
 iterate 2
   · refine LoopVC.frame [3, 4, 7, 8, 9, 31, 32, 48, 51] (RcX L) (fun x => [(31, .i .i64 fun _ => x.k)]) (fun x => [(2, .blk [.i .i64 fun _ => x.r.frame, .own 3 fun _ => x.r.wants.length, .own 4 fun _ => x.r.jobs.length, .i .i64 fun _ => x.r.st]), (3, vecO 28 fun _ => x.r.wants), (4, vecO 33 fun _ => x.r.jobs)]) [2, 3, 4] (fun x => L.length - x.k) ⟨0, Nat.zero_le _, ⟨0, [], [], 0⟩, Nat.le_refl _, Nat.le_refl _, rfl⟩ rfl (fun _ => rfl) ?_ ?_ fun ⟨k, hk, st, hw, hj, hR⟩ => ?_
     · cbv
       repeat' first | (refine Stp.mk ?_; cbv) | (refine Gen.mk fun r hr => ?_; (try simp only [Dat.ok, Dat.dec, Leaf.ok, Leaf.val, Z0, Z1, Z2, Z3, Z4, Z5, Z6, Z7, val_sl, val_nil] at hr); cbv) | exact trivial | rfl | refine Both.mk ?_ ?_ | (refine Imp.mk fun h => ?_; (try dsimp only at h); (try simp only [nc, Int.toNat_natCast, ne_eq, zz] at h); (try simp only [nc] at h)) | refine Ob.mk ?_ ?_ | refine Chk.mk (by kernel_rfl) ?_ | refine Eq'.mk ?_ | (refine AllN.mk fun i hi => ?_; cbv) | (refine AllC.mk fun c hc hcm => ?_; (try dsimp only at hc); cbv) | (refine AllS.mk fun r hr => ?_; (try simp only [Dat.ok, Dat.dec, Leaf.ok, Leaf.val, Z0, Z1, Z2, Z3, Z4, Z5, Z6, Z7, val_sl] at hr); cbv)
       all_goals first | exact absurd hi (Nat.not_lt_zero _) | fail
     · cbv
       repeat' first | (refine Stp.mk ?_; cbv) | (refine Gen.mk fun r hr => ?_; (try simp only [Dat.ok, Dat.dec, Leaf.ok, Leaf.val, Z0, Z1, Z2, Z3, Z4, Z5, Z6, Z7, val_sl, val_nil] at hr); cbv) | exact trivial | rfl | refine Both.mk ?_ ?_ | (refine Imp.mk fun h => ?_; (try dsimp only at h); (try simp only [nc, Int.toNat_natCast, ne_eq, zz] at h); (try simp only [nc] at h)) | refine Ob.mk ?_ ?_ | refine Chk.mk (by kernel_rfl) ?_ | refine Eq'.mk ?_ | (refine AllN.mk fun i hi => ?_; cbv) | (refine AllC.mk fun c hc hcm => ?_; (try dsimp only at hc); cbv) | (refine AllS.mk fun r hr => ?_; (try simp only [Dat.ok, Dat.dec, Leaf.ok, Leaf.val, Z0, Z1, Z2, Z3, Z4, Z5, Z6, Z7, val_sl] at hr); cbv)
       all_goals first | exact absurd hi (Nat.not_lt_zero _) | fail
     have hk9 : k ≤ L.length := hk
     have hw9 : st.wants.length ≤ k := hw
     have hj9 : st.jobs.length ≤ k := hj
     have hR9 : readS L 0 ⟨0, [], [], 0⟩ = readS (L.drop k) k st := hR
     have ls := hLs k
     cbv
     repeat' first | (show Stp _; exfalso; first | omega | (exact h ‹_›) | (exact absurd ‹_› h) | (exact Bool.false_ne_true (h.symm.trans (show _ = true by assumption)))) | (refine Stp.mk ?_; cbv) | (refine Gen.mk fun r hr => ?_; (try simp only [Dat.ok, Dat.dec, Leaf.ok, Leaf.val, Z0, Z1, Z2, Z3, Z4, Z5, Z6, Z7, val_sl, val_nil] at hr); cbv) | exact trivial | rfl | refine Both.mk ?_ ?_ | (refine Imp.mk fun h => ?_; (try dsimp only at h); (try simp only [nc, Int.toNat_natCast, ne_eq, zz] at h); (try simp only [nc] at h)) | refine Ob.mk ?_ ?_ | refine Chk.mk (by kernel_rfl) ?_ | refine Eq'.mk ?_ | (refine AllN.mk fun i hi => ?_; cbv) | (refine AllC.mk fun c hc hcm => ?_; (try dsimp only at hc); cbv) | (refine AllS.mk fun r hr => ?_; (try simp only [Dat.ok, Dat.dec, Leaf.ok, Leaf.val, Z0, Z1, Z2, Z3, Z4, Z5, Z6, Z7, val_sl] at hr); cbv)
     all_goals ((try dsimp only at *); (try simp only [nc, Int.toNat_natCast, ne_eq, zz] at *); (try simp only [nc] at *))
     all_goals try rw [nc] at *
     all_goals try simp only [Dat.dec, Leaf.val, Z0, Z1, Z2, Z3, Z4, Z5, Z6, Z7, val_sl] at *
     all_goals subst_vars
     all_goals try have hk2 : k < L.length := by omega
     all_goals try have hg := l2 k hk2
     all_goals try simp only [hg] at *
     all_goals try simp only [wordsP_def, show Int.toNat 0 = 0 from rfl, show Int.toNat 1 = 1 from rfl, show Int.toNat 2 = 2 from rfl, show Int.toNat 3 = 3 from rfl] at *
     all_goals have w1 := wordsP_len (L.getD k Dat.d0)
     all_goals have w2 : ∀ x ∈ wordsP (L.getD k Dat.d0), x.size ≤ _ := fun x h => wordsP_le h
     all_goals have w3 : ∀ x ∈ wordsP (L.getD k Dat.d0), 0 < x.size := fun x h => wordsP_ne h
     all_goals try have r1 := fun q => hR9.trans (read_rem (r := st) hk2 q)
     all_goals try have r2 := fun q q2 => eP.trans (hR9.trans (read_bad (r := st) hk2 q q2))
     all_goals try have r3 := fun x q q2 => hR9.trans (read_ok (r := st) (r2 := x) hk2 q q2)
     all_goals generalize wordsP (L.getD k Dat.d0) = w at *
     all_goals try have vt := val_tl w (by omega)
     all_goals try simp only [vt] at *
     all_goals try have n0 := nums_ok (w := w.drop 1) (n := 1) (by assumption)
     all_goals try have n0 := nums_ok (w := w.drop 1) (n := 4) (by assumption)
     all_goals try have hrm := not_rem (w := w) (by assumption) (by assumption)
     all_goals try have hre := rem_a (w := w) (by assumption)
     all_goals try have hre := rem_b (w := w) (by assumption)
     all_goals try have c1 : lineS st w = _ := line_1 ⟨by assumption, by assumption⟩
     all_goals try have c1 : lineS st w = _ := line_2 ⟨by assumption, by assumption⟩ (fun q => by first | exact absurd q.1 (by assumption) | exact absurd q.2 (by assumption))
     all_goals try have c1 : lineS st w = _ := line_3 ⟨by assumption, by assumption⟩ (fun q => by first | exact absurd q.1 (by assumption) | exact absurd q.2 (by assumption)) (fun q => by first | exact absurd q.1 (by assumption) | exact absurd q.2 (by assumption))
     all_goals try have c1 : lineS st w = none := line_0 (fun q => by first | exact absurd q.1 (by assumption) | exact absurd q.2 (by assumption)) (fun q => by first | exact absurd q.1 (by assumption) | exact absurd q.2 (by assumption)) (fun q => by first | exact absurd q.1 (by assumption) | (have := q.2; omega))
     all_goals first
       | exact ⟨by omega, by omega⟩
       | omega
       | exact ⟨Nat.lt_of_le_of_lt ls (by decide), by decide⟩
       | exact ⟨rfl, trivial, fun i _ => Dat.hok _, trivial, Nat.le_trans splitV_len (Nat.le_trans (Nat.succ_le_succ ls) (by decide))⟩
       | (show InR ((k : Int) + 1); unfold InR; omega)
       | exact ⟨by decide, by have := w3 _ (getD_mem' (show 0 < w.length by omega)); omega⟩
       | exact ⟨by decide, by omega, by omega⟩
       | exact ⟨Nat.le_refl _, Nat.le_refl _, by omega, by omega, Nat.le_refl _⟩
       | (refine ⟨⟨rfl, fun i _ => Dat.hok _⟩, ?_, fun x h => ?_⟩
          · rw [List.length_drop]; omega
          · exact Nat.le_trans (w2 x (List.mem_of_mem_drop h)) (by omega))
       | (refine fin0 _ _ _ _ (r2 hrm ?_)
          rw [c1]
          try rw [if_neg (by rw [show (numsV _ _).2 = false by assumption]; exact Bool.false_ne_true)])
       | (refine ⟨⟨k + 1, by omega, st, Nat.le_succ_of_le hw9, Nat.le_succ_of_le hj9, r1 hre⟩, ?_, ?_, rfl, by (try dsimp only); omega⟩
          · cbv
            repeat' first | (refine Stp.mk ?_; cbv) | (refine Gen.mk fun r hr => ?_; (try simp only [Dat.ok, Dat.dec, Leaf.ok, Leaf.val, Z0, Z1, Z2, Z3, Z4, Z5, Z6, Z7, val_sl, val_nil] at hr); cbv) | exact trivial | rfl | refine Both.mk ?_ ?_ | (refine Imp.mk fun h => ?_; (try dsimp only at h); (try simp only [nc, Int.toNat_natCast, ne_eq, zz] at h); (try simp only [nc] at h)) | refine Ob.mk ?_ ?_ | refine Chk.mk (by kernel_rfl) ?_ | refine Eq'.mk ?_ | (refine AllN.mk fun i hi => ?_; cbv) | (refine AllC.mk fun c hc hcm => ?_; (try dsimp only at hc); cbv) | (refine AllS.mk fun r hr => ?_; (try simp only [Dat.ok, Dat.dec, Leaf.ok, Leaf.val, Z0, Z1, Z2, Z3, Z4, Z5, Z6, Z7, val_sl] at hr); cbv)
          · cbv
            repeat' first | (refine Stp.mk ?_; cbv) | (refine Gen.mk fun r hr => ?_; (try simp only [Dat.ok, Dat.dec, Leaf.ok, Leaf.val, Z0, Z1, Z2, Z3, Z4, Z5, Z6, Z7, val_sl, val_nil] at hr); cbv) | exact trivial | rfl | refine Both.mk ?_ ?_ | (refine Imp.mk fun h => ?_; (try dsimp only at h); (try simp only [nc, Int.toNat_natCast, ne_eq, zz] at h); (try simp only [nc] at h)) | refine Ob.mk ?_ ?_ | refine Chk.mk (by kernel_rfl) ?_ | refine Eq'.mk ?_ | (refine AllN.mk fun i hi => ?_; cbv) | (refine AllC.mk fun c hc hcm => ?_; (try dsimp only at hc); cbv) | (refine AllS.mk fun r hr => ?_; (try simp only [Dat.ok, Dat.dec, Leaf.ok, Leaf.val, Z0, Z1, Z2, Z3, Z4, Z5, Z6, Z7, val_sl] at hr); cbv))
       | (have a : (numsV (w.drop 1) 1).2 = false := by assumption
          have b : (numsV (w.drop 1) 1).2 = true := by assumption
          exact Bool.noConfusion (a.symm.trans b))
       | (have a : (numsV (w.drop 1) 4).2 = false := by assumption
          have b : (numsV (w.drop 1) 4).2 = true := by assumption
          exact Bool.noConfusion (a.symm.trans b))
       | (refine ⟨⟨k + 1, by omega, ⟨nAt w 0 1, st.wants, st.jobs, 1⟩, Nat.le_succ_of_le hw9, Nat.le_succ_of_le hj9, r3 _ hrm (c1.trans (if_pos (by assumption)))⟩, ?_, ?_, rfl, by (try dsimp only); omega⟩
          · cbv
            repeat' first | (refine Stp.mk ?_; cbv) | (refine Gen.mk fun r hr => ?_; (try simp only [Dat.ok, Dat.dec, Leaf.ok, Leaf.val, Z0, Z1, Z2, Z3, Z4, Z5, Z6, Z7, val_sl, val_nil] at hr); cbv) | exact trivial | rfl | refine Both.mk ?_ ?_ | (refine Imp.mk fun h => ?_; (try dsimp only at h); (try simp only [nc, Int.toNat_natCast, ne_eq, zz] at h); (try simp only [nc] at h)) | refine Ob.mk ?_ ?_ | refine Chk.mk (by kernel_rfl) ?_ | refine Eq'.mk ?_ | (refine AllN.mk fun i hi => ?_; cbv) | (refine AllC.mk fun c hc hcm => ?_; (try dsimp only at hc); cbv) | (refine AllS.mk fun r hr => ?_; (try simp only [Dat.ok, Dat.dec, Leaf.ok, Leaf.val, Z0, Z1, Z2, Z3, Z4, Z5, Z6, Z7, val_sl] at hr); cbv)
          · cbv
            repeat' first | (refine Stp.mk ?_; cbv) | (refine Gen.mk fun r hr => ?_; (try simp only [Dat.ok, Dat.dec, Leaf.ok, Leaf.val, Z0, Z1, Z2, Z3, Z4, Z5, Z6, Z7, val_sl, val_nil] at hr); cbv) | exact trivial | rfl | refine Both.mk ?_ ?_ | (refine Imp.mk fun h => ?_; (try dsimp only at h); (try simp only [nc, Int.toNat_natCast, ne_eq, zz] at h); (try simp only [nc] at h)) | refine Ob.mk ?_ ?_ | refine Chk.mk (by kernel_rfl) ?_ | refine Eq'.mk ?_ | (refine AllN.mk fun i hi => ?_; cbv) | (refine AllC.mk fun c hc hcm => ?_; (try dsimp only at hc); cbv) | (refine AllS.mk fun r hr => ?_; (try simp only [Dat.ok, Dat.dec, Leaf.ok, Leaf.val, Z0, Z1, Z2, Z3, Z4, Z5, Z6, Z7, val_sl] at hr); cbv))
       | (refine ⟨⟨k + 1, by omega, ⟨st.frame, st.wants ++ [⟨nAt w 0 4, nAt w 1 4, nAt w 2 4, nAt w 3 4⟩], st.jobs, st.st⟩, by rw [List.length_append, List.length_singleton]; omega, Nat.le_succ_of_le hj9, r3 _ hrm (c1.trans (if_pos (by assumption)))⟩, ?_, ?_, rfl, by (try dsimp only); omega⟩
          · cbv
            repeat' first | (refine Stp.mk ?_; cbv) | (refine Gen.mk fun r hr => ?_; (try simp only [Dat.ok, Dat.dec, Leaf.ok, Leaf.val, Z0, Z1, Z2, Z3, Z4, Z5, Z6, Z7, val_sl, val_nil] at hr); cbv) | exact trivial | rfl | refine Both.mk ?_ ?_ | (refine Imp.mk fun h => ?_; (try dsimp only at h); (try simp only [nc, Int.toNat_natCast, ne_eq, zz] at h); (try simp only [nc] at h)) | refine Ob.mk ?_ ?_ | refine Chk.mk (by kernel_rfl) ?_ | refine Eq'.mk ?_ | (refine AllN.mk fun i hi => ?_; cbv) | (refine AllC.mk fun c hc hcm => ?_; (try dsimp only at hc); cbv) | (refine AllS.mk fun r hr => ?_; (try simp only [Dat.ok, Dat.dec, Leaf.ok, Leaf.val, Z0, Z1, Z2, Z3, Z4, Z5, Z6, Z7, val_sl] at hr); cbv)
            all_goals first
              | (simp; done)
              | (have e := gd_snoc st.wants ⟨nAt w 0 4, nAt w 1 4, nAt w 2 4, nAt w 3 4⟩ Dat.d0 i (by assumption)
                 dsimp only
                 rw [e]; cases decide (i < st.wants.length) <;> rfl)
              | fail
          · cbv
            repeat' first | (refine Stp.mk ?_; cbv) | (refine Gen.mk fun r hr => ?_; (try simp only [Dat.ok, Dat.dec, Leaf.ok, Leaf.val, Z0, Z1, Z2, Z3, Z4, Z5, Z6, Z7, val_sl, val_nil] at hr); cbv) | exact trivial | rfl | refine Both.mk ?_ ?_ | (refine Imp.mk fun h => ?_; (try dsimp only at h); (try simp only [nc, Int.toNat_natCast, ne_eq, zz] at h); (try simp only [nc] at h)) | refine Ob.mk ?_ ?_ | refine Chk.mk (by kernel_rfl) ?_ | refine Eq'.mk ?_ | (refine AllN.mk fun i hi => ?_; cbv) | (refine AllC.mk fun c hc hcm => ?_; (try dsimp only at hc); cbv) | (refine AllS.mk fun r hr => ?_; (try simp only [Dat.ok, Dat.dec, Leaf.ok, Leaf.val, Z0, Z1, Z2, Z3, Z4, Z5, Z6, Z7, val_sl] at hr); cbv)
            all_goals first
              | (simp; done)
              | (have e := gd_snoc st.wants ⟨nAt w 0 4, nAt w 1 4, nAt w 2 4, nAt w 3 4⟩ Dat.d0 i (by assumption)
                 dsimp only
                 rw [e]; cases decide (i < st.wants.length) <;> rfl)
              | fail)
       | (refine ⟨⟨k + 1, by omega, ⟨st.frame, st.wants, st.jobs ++ [⟨nAt w 0 4, ⟨nAt w 1 4, nAt w 2 4, nAt w 3 4⟩⟩], 2⟩, Nat.le_succ_of_le hw9, by rw [List.length_append, List.length_singleton]; omega, r3 _ hrm (c1.trans (if_pos (by assumption)))⟩, ?_, ?_, rfl, by (try dsimp only); omega⟩
          · cbv
            repeat' first | (refine Stp.mk ?_; cbv) | (refine Gen.mk fun r hr => ?_; (try simp only [Dat.ok, Dat.dec, Leaf.ok, Leaf.val, Z0, Z1, Z2, Z3, Z4, Z5, Z6, Z7, val_sl, val_nil] at hr); cbv) | exact trivial | rfl | refine Both.mk ?_ ?_ | (refine Imp.mk fun h => ?_; (try dsimp only at h); (try simp only [nc, Int.toNat_natCast, ne_eq, zz] at h); (try simp only [nc] at h)) | refine Ob.mk ?_ ?_ | refine Chk.mk (by kernel_rfl) ?_ | refine Eq'.mk ?_ | (refine AllN.mk fun i hi => ?_; cbv) | (refine AllC.mk fun c hc hcm => ?_; (try dsimp only at hc); cbv) | (refine AllS.mk fun r hr => ?_; (try simp only [Dat.ok, Dat.dec, Leaf.ok, Leaf.val, Z0, Z1, Z2, Z3, Z4, Z5, Z6, Z7, val_sl] at hr); cbv)
            all_goals first
              | (simp; done)
              | (have e := gd_snoc st.jobs ⟨nAt w 0 4, ⟨nAt w 1 4, nAt w 2 4, nAt w 3 4⟩⟩ Dat.d0 i (by assumption)
                 dsimp only
                 rw [e]; cases decide (i < st.jobs.length) <;> rfl)
              | fail
          · cbv
            repeat' first | (refine Stp.mk ?_; cbv) | (refine Gen.mk fun r hr => ?_; (try simp only [Dat.ok, Dat.dec, Leaf.ok, Leaf.val, Z0, Z1, Z2, Z3, Z4, Z5, Z6, Z7, val_sl, val_nil] at hr); cbv) | exact trivial | rfl | refine Both.mk ?_ ?_ | (refine Imp.mk fun h => ?_; (try dsimp only at h); (try simp only [nc, Int.toNat_natCast, ne_eq, zz] at h); (try simp only [nc] at h)) | refine Ob.mk ?_ ?_ | refine Chk.mk (by kernel_rfl) ?_ | refine Eq'.mk ?_ | (refine AllN.mk fun i hi => ?_; cbv) | (refine AllC.mk fun c hc hcm => ?_; (try dsimp only at hc); cbv) | (refine AllS.mk fun r hr => ?_; (try simp only [Dat.ok, Dat.dec, Leaf.ok, Leaf.val, Z0, Z1, Z2, Z3, Z4, Z5, Z6, Z7, val_sl] at hr); cbv)
            all_goals first
              | (simp; done)
              | (have e := gd_snoc st.jobs ⟨nAt w 0 4, ⟨nAt w 1 4, nAt w 2 4, nAt w 3 4⟩⟩ Dat.d0 i (by assumption)
                 dsimp only
                 rw [e]; cases decide (i < st.jobs.length) <;> rfl)
              | fail)
       | (refine fin0 _ _ _ _ ?_
          rw [eP, hR9, read_end (by omega), if_pos (by assumption)]
          congr 2; omega)
       | (refine fin0 _ _ _ _ ?_
          rw [eP, hR9, read_end (by omega), if_neg (by assumption), if_neg (by assumption)]; rfl)
       | (refine ⟨⟨trivial, ⟨rfl, fun i _ => Dat.hok _⟩, rfl, fun i _ => Dat.hok _⟩, (?_ : st.wants.length ≤ 9223372036854775807 ∧ st.jobs.length ≤ 9223372036854775807)⟩
          exact ⟨by omega, by omega⟩)
       | (have eR : readV s = (st.plan, 0, 0) := by rw [eP, hR9, read_end (by omega), if_neg (by assumption), if_pos (by assumption)]
          rw [eR]
          cbv
          repeat' first | (refine Stp.mk ?_; cbv) | (refine Gen.mk fun r hr => ?_; (try simp only [Dat.ok, Dat.dec, Leaf.ok, Leaf.val, Z0, Z1, Z2, Z3, Z4, Z5, Z6, Z7, val_sl, val_nil] at hr); cbv) | exact trivial | rfl | refine Both.mk ?_ ?_ | (refine Imp.mk fun h => ?_; (try dsimp only at h); (try simp only [nc, Int.toNat_natCast, ne_eq, zz] at h); (try simp only [nc] at h)) | refine Ob.mk ?_ ?_ | refine Chk.mk (by kernel_rfl) ?_ | refine Eq'.mk ?_ | (refine AllN.mk fun i hi => ?_; cbv) | (refine AllC.mk fun c hc hcm => ?_; (try dsimp only at hc); cbv) | (refine AllS.mk fun r hr => ?_; (try simp only [Dat.ok, Dat.dec, Leaf.ok, Leaf.val, Z0, Z1, Z2, Z3, Z4, Z5, Z6, Z7, val_sl] at hr); cbv)
          all_goals fail)
       | fail
theorem readC_ok : PcOk Tryz.prog 17 (readC_C) := fun A K h => by
 unfold readC_C at h
 split at h
 · rename_i s
   cases h with
   | mk h1 h2 =>
     refine FnOk.pre ?_ (A' := [.s fun _ => s ()]) (.mk (.mk rfl) (trivial))
     exact FnOk.out (K := fun r H _ => K r H) (readC_vc (s ())) rfl h2.out
 · cases h

end Go.Proofs.YtnjngpjkhddnfaaGreatDoor
