/- The closure of rank.Find, and slices.IndexFunc with it: walked. -/
import Derived.Test.YtabchkekhpmpiaaRank2
set_option linter.all false
namespace Go.Proofs.Ytabchkekhpmpiaa
open Go Go.Abs

def othL (l : List Task) (i : Int) : List Int → List Task
  | [] => []
  | j :: r => if j = i then othL l i r else l.getD j.toNat Dat.d0 :: othL l i r
def okF (l : List Task) (s : Set) (left : List Int) (i : Int) : Bool := decide ((replyV (othL l i left ++ [l.getD i.toNat Dat.d0]) (othL l i left).length s).2 = 0)
theorem othL_len {l : List Task} {i : Int} : ∀ {left : List Int}, (othL l i left).length ≤ left.length
  | [] => Nat.le_refl _
  | j :: r => by
    have := othL_len (l := l) (i := i) (left := r)
    rw [othL]
    split <;> simp only [List.length_cons] <;> omega
theorem othL_drop {l : List Task} {i : Int} {left : List Int} {k : Nat} (hk : k < left.length) : othL l i (left.drop k) = if left.getD k 0 = i then othL l i (left.drop (k + 1)) else l.getD (left.getD k 0).toNat Dat.d0 :: othL l i (left.drop (k + 1)) := by
  rw [drop_cons 0 hk, othL]
structure F2P (left : List Int) (l : List Task) (s : Set) : Prop where
  h1 : left.length ≤ 100
  h2 : ∀ j ∈ left, 0 ≤ j ∧ j.toNat < l.length
  h3 : s.spans.length ≤ 9223372036854775807
def f2_D : Det := fun A => match A with
  | [.i .i64 i, .rp [x], .rp [y], .rp c] => some (fun _ => Leaf.ok (List Int) x ∧ Leaf.ok (List Task) y ∧ Dat.ok Set c ∧ F2P (Leaf.val x) (Leaf.val y) (Dat.dec c) ∧ 0 ≤ i () ∧ (i ()).toNat < (Leaf.val y : List Task).length, .b fun _ => okF (Leaf.val y) (Dat.dec c) (Leaf.val x) (i ()))
  | _ => none
structure F2X (l : List Task) (i : Int) (left : List Int) where
  k : Nat
  out : List Task
  hk : k ≤ left.length
  hl : out.length ≤ k
  hr : othL l i left = out ++ othL l i (left.drop k)
def dF2 : FuncId → Option Dt := fun f => match f with
  | 16 => some (.c reply_D)
  | _ => none
theorem dF2_ok : DetOk Try.prog dF2 := fun f d h => by
  unfold dF2 at h
  split at h
  · cases h; exact ⟨⟨Try.f16, Try.func16, by kernel_rfl, by kernel_rfl⟩, reply_ok⟩
  · cases h
set_option maxRecDepth 100000 in
set_option maxHeartbeats 4000000 in
theorem f2_vc (left : List Int) (l : List Task) (s : Set) (i : Int) (hp : F2P left l s) (hi0 : 0 ≤ i) (hi1 : i.toNat < l.length) : FnOk Try.prog 53 [.i .i64 fun _ => i, .rp [Leaf.av fun _ => left], .rp [Leaf.av fun _ => l], .rp (Dat.enc fun _ => s)] [] (outA (.b fun _ => okF l s left i) []) := by
  refine fn_ok envOk zl noCon_ok (draws_ok envOk zl dF2_ok mixed) (keep := [0, 1, 2, 3, 5, 6, 8, 10, 11, 12, 13, 14, 19]) Try.func53 rfl ?_
  obtain ⟨p1, p2, p3⟩ := hp
  have hg : ∀ k, k < left.length → 0 ≤ left.getD k 0 ∧ (left.getD k 0).toNat < l.length := fun k hk => by
    rw [List.getD_eq_getElem?_getD, List.getElem?_eq_getElem hk]
    exact p2 _ (List.getElem_mem hk)
  have fin : ∀ (b : PUnit → Bool) H kl, b () = okF l s left i → outA (.b fun _ => okF l s left i) [] (.b b) H kl := fun b H kl h => by
    rw [← h]
    cbv
    repeat' first | (refine Stp.mk ?_; cbv) | (refine Gen.mk fun r hr => ?_; (try simp only [Dat.ok, Dat.dec, Leaf.ok, Leaf.val, Span.eta, Set.eta, Task.eta, Done.eta, Late.eta, val_sl, val_nil] at hr); cbv) | exact trivial | rfl | refine Both.mk ?_ ?_ | (refine Imp.mk fun h => ?_; (try dsimp only at h); (try simp only [nc, Int.toNat_natCast, Bool.not_eq_true', Bool.not_eq_false', decide_eq_true_eq, decide_eq_false_iff_not, beq_iff_eq, beq_eq_false_iff_ne, ba_inj, bne_iff_ne, ne_eq, Bool.and_eq_true, Bool.or_eq_true, Bool.and_eq_false_iff, Bool.or_eq_false_iff, Int.not_le, Int.not_lt, Nat.not_le, Nat.not_lt] at h); (try simp only [nc] at h)) | refine Ob.mk ?_ ?_ | refine Chk.mk (by kernel_rfl) ?_ | refine Eq'.mk ?_ | (refine AllN.mk fun i hi => ?_; cbv) | (refine AllS.mk fun r hr => ?_; (try simp only [Dat.ok, Dat.dec, Leaf.ok, Leaf.val, Span.eta, Set.eta, Task.eta, Done.eta, Late.eta, val_sl] at hr); cbv)
  generalize outA (.b fun _ => okF l s left i) [] = K at fin ⊢
  cbv
  refine LoopVC.frame [6, 8, 13, 14, 19] (F2X l i left) (fun x => [(13, .i .i64 fun _ => x.k), (6, .own 0 fun _ => x.out.length)]) (fun x => [(0, vecO 32 fun _ => x.out)]) [0] (fun x => left.length - x.k) ⟨0, [], Nat.zero_le _, Nat.le_refl _, by rw [List.drop_zero]; rfl⟩ rfl (fun _ => rfl) ?_ ?_ fun ⟨k, out, hk, hl, hr⟩ => ?_
  · cbv
    repeat' first | (refine Stp.mk ?_; cbv) | (refine Gen.mk fun r hr => ?_; (try simp only [Dat.ok, Dat.dec, Leaf.ok, Leaf.val, Span.eta, Set.eta, Task.eta, Done.eta, Late.eta, val_sl, val_nil] at hr); cbv) | exact trivial | rfl | refine Both.mk ?_ ?_ | (refine Imp.mk fun h => ?_; (try dsimp only at h); (try simp only [nc, Int.toNat_natCast, Bool.not_eq_true', Bool.not_eq_false', decide_eq_true_eq, decide_eq_false_iff_not, beq_iff_eq, beq_eq_false_iff_ne, ba_inj, bne_iff_ne, ne_eq, Bool.and_eq_true, Bool.or_eq_true, Bool.and_eq_false_iff, Bool.or_eq_false_iff, Int.not_le, Int.not_lt, Nat.not_le, Nat.not_lt] at h); (try simp only [nc] at h)) | refine Ob.mk ?_ ?_ | refine Chk.mk (by kernel_rfl) ?_ | refine Eq'.mk ?_ | (refine AllN.mk fun i hi => ?_; cbv) | (refine AllS.mk fun r hr => ?_; (try simp only [Dat.ok, Dat.dec, Leaf.ok, Leaf.val, Span.eta, Set.eta, Task.eta, Done.eta, Late.eta, val_sl] at hr); cbv)
  · cbv
    repeat' first | (refine Stp.mk ?_; cbv) | (refine Gen.mk fun r hr => ?_; (try simp only [Dat.ok, Dat.dec, Leaf.ok, Leaf.val, Span.eta, Set.eta, Task.eta, Done.eta, Late.eta, val_sl, val_nil] at hr); cbv) | exact trivial | rfl | refine Both.mk ?_ ?_ | (refine Imp.mk fun h => ?_; (try dsimp only at h); (try simp only [nc, Int.toNat_natCast, Bool.not_eq_true', Bool.not_eq_false', decide_eq_true_eq, decide_eq_false_iff_not, beq_iff_eq, beq_eq_false_iff_ne, ba_inj, bne_iff_ne, ne_eq, Bool.and_eq_true, Bool.or_eq_true, Bool.and_eq_false_iff, Bool.or_eq_false_iff, Int.not_le, Int.not_lt, Nat.not_le, Nat.not_lt] at h); (try simp only [nc] at h)) | refine Ob.mk ?_ ?_ | refine Chk.mk (by kernel_rfl) ?_ | refine Eq'.mk ?_ | (refine AllN.mk fun i hi => ?_; cbv) | (refine AllS.mk fun r hr => ?_; (try simp only [Dat.ok, Dat.dec, Leaf.ok, Leaf.val, Span.eta, Set.eta, Task.eta, Done.eta, Late.eta, val_sl] at hr); cbv)
  · cbv
    repeat' first | (show Stp _; exfalso; first | omega | (exact h ‹_›) | (exact absurd ‹_› h) | (exact Bool.false_ne_true (h.symm.trans (show _ = true by assumption)))) | (refine Stp.mk ?_; cbv) | (refine Gen.mk fun r hr => ?_; (try simp only [Dat.ok, Dat.dec, Leaf.ok, Leaf.val, Span.eta, Set.eta, Task.eta, Done.eta, Late.eta, val_sl, val_nil] at hr); cbv) | exact trivial | rfl | refine Both.mk ?_ ?_ | (refine Imp.mk fun h => ?_; (try dsimp only at h); (try simp only [nc, Int.toNat_natCast, Bool.not_eq_true', Bool.not_eq_false', decide_eq_true_eq, decide_eq_false_iff_not, beq_iff_eq, beq_eq_false_iff_ne, ba_inj, bne_iff_ne, ne_eq, Bool.and_eq_true, Bool.or_eq_true, Bool.and_eq_false_iff, Bool.or_eq_false_iff, Int.not_le, Int.not_lt, Nat.not_le, Nat.not_lt] at h); (try simp only [nc] at h)) | refine Ob.mk ?_ ?_ | refine Chk.mk (by kernel_rfl) ?_ | refine Eq'.mk ?_ | (refine AllN.mk fun i hi => ?_; cbv) | (refine AllS.mk fun r hr => ?_; (try simp only [Dat.ok, Dat.dec, Leaf.ok, Leaf.val, Span.eta, Set.eta, Task.eta, Done.eta, Late.eta, val_sl] at hr); cbv)
    all_goals ((try dsimp only at *); (try simp only [nc, Int.toNat_natCast, Bool.not_eq_true', Bool.not_eq_false', decide_eq_true_eq, decide_eq_false_iff_not, beq_iff_eq, beq_eq_false_iff_ne, ba_inj, bne_iff_ne, ne_eq, Bool.and_eq_true, Bool.or_eq_true, Bool.and_eq_false_iff, Bool.or_eq_false_iff, Int.not_le, Int.not_lt, Nat.not_le, Nat.not_lt] at *); (try simp only [nc] at *))
    all_goals try rw [nc] at *
    all_goals try simp only [Dat.dec, Leaf.val, Span.eta, Set.eta, Task.eta, Done.eta, Late.eta, val_sl] at *
    all_goals have v1 := val_snoc (α := Task) out [.i .i64 fun _ => (l.getD i.toNat Dat.d0).long, .i .i64 fun _ => (l.getD i.toNat Dat.d0).every, .i .i64 fun _ => (l.getD i.toNat Dat.d0).due] 3 (out.length + 1) rfl rfl ⟨trivial, trivial, trivial⟩
    all_goals simp only [Dat.dec, Leaf.val] at v1
    all_goals have v2 : (⟨(l.getD i.toNat Dat.d0).long, (l.getD i.toNat Dat.d0).every, (l.getD i.toNat Dat.d0).due⟩ : Task) = l.getD i.toNat Dat.d0 := rfl
    all_goals rw [v2] at v1
    all_goals try rw [v1]
    all_goals first
      | omega
      | exact ⟨by omega, by omega⟩
      | exact ⟨Nat.le_refl _, trivial, by omega, by omega⟩
      | exact ⟨Nat.le_refl _, Nat.le_refl _, by omega, by omega⟩
      | (unfold InR; omega)
      | (have := hg k (by omega); exact ⟨this.1, Int.lt_of_toNat_lt' this.1 this.2⟩)
      | exact ⟨Nat.le_refl _, ⟨rfl, fun i _ => ok_row rfl (Dat.hok _) ⟨trivial, trivial, trivial⟩⟩, ⟨trivial, rfl, fun i _ => Dat.hok _⟩, show (out ++ [_]).length ≤ _ by rw [snocT_len]; omega, p3⟩
      | (have hk2 : k < left.length := by omega
         refine ⟨⟨k + 1, out ++ [l.getD (left.getD k 0).toNat Dat.d0], by omega, by rw [snocT_len]; omega, by rw [hr, othL_drop hk2, if_neg (by assumption)]; simp⟩, ?_, ?_, rfl, show left.length - (k + 1) < left.length - k by omega⟩
         · cbv
           repeat' first | (refine Stp.mk ?_; cbv) | (refine Gen.mk fun r hr => ?_; (try simp only [Dat.ok, Dat.dec, Leaf.ok, Leaf.val, Span.eta, Set.eta, Task.eta, Done.eta, Late.eta, val_sl, val_nil] at hr); cbv) | exact trivial | rfl | refine Both.mk ?_ ?_ | (refine Imp.mk fun h => ?_; (try dsimp only at h); (try simp only [nc, Int.toNat_natCast, Bool.not_eq_true', Bool.not_eq_false', decide_eq_true_eq, decide_eq_false_iff_not, beq_iff_eq, beq_eq_false_iff_ne, ba_inj, bne_iff_ne, ne_eq, Bool.and_eq_true, Bool.or_eq_true, Bool.and_eq_false_iff, Bool.or_eq_false_iff, Int.not_le, Int.not_lt, Nat.not_le, Nat.not_lt] at h); (try simp only [nc] at h)) | refine Ob.mk ?_ ?_ | refine Chk.mk (by kernel_rfl) ?_ | refine Eq'.mk ?_ | (refine AllN.mk fun i hi => ?_; cbv) | (refine AllS.mk fun r hr => ?_; (try simp only [Dat.ok, Dat.dec, Leaf.ok, Leaf.val, Span.eta, Set.eta, Task.eta, Done.eta, Late.eta, val_sl] at hr); cbv)
           all_goals first | rfl | exact (snocT_len _ _).symm
         · cbv
           repeat' first | (refine Stp.mk ?_; cbv) | (refine Gen.mk fun r hr => ?_; (try simp only [Dat.ok, Dat.dec, Leaf.ok, Leaf.val, Span.eta, Set.eta, Task.eta, Done.eta, Late.eta, val_sl, val_nil] at hr); cbv) | exact trivial | rfl | refine Both.mk ?_ ?_ | (refine Imp.mk fun h => ?_; (try dsimp only at h); (try simp only [nc, Int.toNat_natCast, Bool.not_eq_true', Bool.not_eq_false', decide_eq_true_eq, decide_eq_false_iff_not, beq_iff_eq, beq_eq_false_iff_ne, ba_inj, bne_iff_ne, ne_eq, Bool.and_eq_true, Bool.or_eq_true, Bool.and_eq_false_iff, Bool.or_eq_false_iff, Int.not_le, Int.not_lt, Nat.not_le, Nat.not_lt] at h); (try simp only [nc] at h)) | refine Ob.mk ?_ ?_ | refine Chk.mk (by kernel_rfl) ?_ | refine Eq'.mk ?_ | (refine AllN.mk fun i hi => ?_; cbv) | (refine AllS.mk fun r hr => ?_; (try simp only [Dat.ok, Dat.dec, Leaf.ok, Leaf.val, Span.eta, Set.eta, Task.eta, Done.eta, Late.eta, val_sl] at hr); cbv)
           all_goals ((try dsimp only at *); (try simp only [nc, Int.toNat_natCast, Bool.not_eq_true', Bool.not_eq_false', decide_eq_true_eq, decide_eq_false_iff_not, beq_iff_eq, beq_eq_false_iff_ne, ba_inj, bne_iff_ne, ne_eq, Bool.and_eq_true, Bool.or_eq_true, Bool.and_eq_false_iff, Bool.or_eq_false_iff, Int.not_le, Int.not_lt, Nat.not_le, Nat.not_lt] at *); (try simp only [nc] at *))
           all_goals first
             | exact (snocT_len _ _).symm
             | (rw [gd_snoc _ _ _ _ (by assumption)]; cases decide (i < out.length) <;> rfl)
             | (rename_i q _; rw [gd_snoc _ _ _ _ (by assumption)]; cases decide (q < out.length) <;> rfl)
             | fail)
      | (have hk2 : k < left.length := by omega
         refine ⟨⟨k + 1, out, by omega, by omega, by rw [hr, othL_drop hk2, if_pos (by assumption)]⟩, ?_, ?_, rfl, show left.length - (k + 1) < left.length - k by omega⟩
         · cbv
           repeat' first | (refine Stp.mk ?_; cbv) | (refine Gen.mk fun r hr => ?_; (try simp only [Dat.ok, Dat.dec, Leaf.ok, Leaf.val, Span.eta, Set.eta, Task.eta, Done.eta, Late.eta, val_sl, val_nil] at hr); cbv) | exact trivial | rfl | refine Both.mk ?_ ?_ | (refine Imp.mk fun h => ?_; (try dsimp only at h); (try simp only [nc, Int.toNat_natCast, Bool.not_eq_true', Bool.not_eq_false', decide_eq_true_eq, decide_eq_false_iff_not, beq_iff_eq, beq_eq_false_iff_ne, ba_inj, bne_iff_ne, ne_eq, Bool.and_eq_true, Bool.or_eq_true, Bool.and_eq_false_iff, Bool.or_eq_false_iff, Int.not_le, Int.not_lt, Nat.not_le, Nat.not_lt] at h); (try simp only [nc] at h)) | refine Ob.mk ?_ ?_ | refine Chk.mk (by kernel_rfl) ?_ | refine Eq'.mk ?_ | (refine AllN.mk fun i hi => ?_; cbv) | (refine AllS.mk fun r hr => ?_; (try simp only [Dat.ok, Dat.dec, Leaf.ok, Leaf.val, Span.eta, Set.eta, Task.eta, Done.eta, Late.eta, val_sl] at hr); cbv)
         · cbv
           repeat' first | (refine Stp.mk ?_; cbv) | (refine Gen.mk fun r hr => ?_; (try simp only [Dat.ok, Dat.dec, Leaf.ok, Leaf.val, Span.eta, Set.eta, Task.eta, Done.eta, Late.eta, val_sl, val_nil] at hr); cbv) | exact trivial | rfl | refine Both.mk ?_ ?_ | (refine Imp.mk fun h => ?_; (try dsimp only at h); (try simp only [nc, Int.toNat_natCast, Bool.not_eq_true', Bool.not_eq_false', decide_eq_true_eq, decide_eq_false_iff_not, beq_iff_eq, beq_eq_false_iff_ne, ba_inj, bne_iff_ne, ne_eq, Bool.and_eq_true, Bool.or_eq_true, Bool.and_eq_false_iff, Bool.or_eq_false_iff, Int.not_le, Int.not_lt, Nat.not_le, Nat.not_lt] at h); (try simp only [nc] at h)) | refine Ob.mk ?_ ?_ | refine Chk.mk (by kernel_rfl) ?_ | refine Eq'.mk ?_ | (refine AllN.mk fun i hi => ?_; cbv) | (refine AllS.mk fun r hr => ?_; (try simp only [Dat.ok, Dat.dec, Leaf.ok, Leaf.val, Span.eta, Set.eta, Task.eta, Done.eta, Late.eta, val_sl] at hr); cbv))
      | (refine fin _ _ _ ?_
         have ho : othL l i left = out := by rw [hr, List.drop_eq_nil_of_le (by omega), othL, List.append_nil]
         unfold okF
         rw [ho]
         rfl)
      | fail
theorem f2_ok : PcOk Try.prog 53 (detPC f2_D) := det_okA fun A p r h hp0 => by
  unfold f2_D at h
  split at h
  · rename_i i x y c
    cases h
    obtain ⟨g1, g2, g3, hp, h0, h1⟩ := hp0
    exact ⟨rfl, FnOk.pre (A' := [.i .i64 fun _ => i (), .rp [Leaf.av fun _ => (Leaf.val x : List Int)], .rp [Leaf.av fun _ => (Leaf.val y : List Task)], .rp (Dat.enc fun _ => (Dat.dec c : Set))]) (f2_vc _ _ _ _ hp h0 h1) (.mk (.mk (.mk rfl) (.mk rfl)) (.mk (.mk (.mk (Leaf.hle _ g1) trivial) rfl) (.mk (.mk (.mk (Leaf.hle _ g2) trivial) rfl) (.mk (.mk (Dat.hle _ g3) (Dat.hclosed _)) trivial))))⟩
  · cases h
def pF (p : Int → Bool) : Nat → List Int → Int
  | _, [] => -1
  | k, y :: r => if p y = true then (k : Int) else pF p (k + 1) r
theorem pF_drop {p : Int → Bool} {l : List Int} {k : Nat} (hk : k < l.length) : pF p k (l.drop k) = if p (l.getD k 0) = true then (k : Int) else pF p (k + 1) (l.drop (k + 1)) := by
  rw [drop_cons 0 hk, pF]
structure PfX (p : Int → Bool) (l : List Int) where
  k : Nat
  hk : k ≤ l.length
  hr : pF p 0 l = pF p k (l.drop k)
noncomputable def cF2 : FuncId → Con := fun f => match f with
  | 53 => pureCon (detPC f2_D)
  | _ => fun _ _ _ => Bad 1001
theorem cF2_ok : ConOk Try.prog cF2 := fun f A H K h => by
  unfold cF2 at h
  split at h
  · exact ⟨⟨Try.f53, Try.func53, by kernel_rfl, by kernel_rfl⟩, pureCon_ok f2_ok h⟩
  · cases h
set_option maxRecDepth 100000 in
set_option maxHeartbeats 4000000 in
theorem xf_vc (z left : List Int) (l : List Task) (s : Set) (hp : F2P left l s) (hz : z.length ≤ 100) (hm : ∀ j ∈ z, 0 ≤ j ∧ j.toNat < l.length) : FnOk Try.prog 52 [Leaf.av fun _ => z, .fn 53 [.rp [Leaf.av fun _ => left], .rp [Leaf.av fun _ => l], .rp (Dat.enc fun _ => s)]] [] (outA (.i .i64 fun _ => pF (okF l s left) 0 z) []) := by
  refine fn_ok envOk zl cF2_ok noDraws_ok (keep := [0, 1, 4, 5, 7, 8, 9, 16]) Try.func52 rfl ?_
  have hg : ∀ k, k < z.length → 0 ≤ z.getD k 0 ∧ (z.getD k 0).toNat < l.length := fun k hk => by
    rw [List.getD_eq_getElem?_getD, List.getElem?_eq_getElem hk]
    exact hm _ (List.getElem_mem hk)
  have fin : ∀ (n : Int) H kl, pF (okF l s left) 0 z = n → outA (.i .i64 fun _ => pF (okF l s left) 0 z) [] (.i .i64 fun _ => n) H kl := fun n H kl h => by
    rw [h]
    cbv
    repeat' first | (refine Stp.mk ?_; cbv) | (refine Gen.mk fun r hr => ?_; (try simp only [Dat.ok, Dat.dec, Leaf.ok, Leaf.val, Span.eta, Set.eta, Task.eta, Done.eta, Late.eta, val_sl, val_nil] at hr); cbv) | exact trivial | rfl | refine Both.mk ?_ ?_ | (refine Imp.mk fun h => ?_; (try dsimp only at h); (try simp only [nc, Int.toNat_natCast, Bool.not_eq_true', Bool.not_eq_false', decide_eq_true_eq, decide_eq_false_iff_not, beq_iff_eq, beq_eq_false_iff_ne, ba_inj, bne_iff_ne, ne_eq, Bool.and_eq_true, Bool.or_eq_true, Bool.and_eq_false_iff, Bool.or_eq_false_iff, Int.not_le, Int.not_lt, Nat.not_le, Nat.not_lt] at h); (try simp only [nc] at h)) | refine Ob.mk ?_ ?_ | refine Chk.mk (by kernel_rfl) ?_ | refine Eq'.mk ?_ | (refine AllN.mk fun i hi => ?_; cbv) | (refine AllS.mk fun r hr => ?_; (try simp only [Dat.ok, Dat.dec, Leaf.ok, Leaf.val, Span.eta, Set.eta, Task.eta, Done.eta, Late.eta, val_sl] at hr); cbv)
  generalize outA (.i .i64 fun _ => pF (okF l s left) 0 z) [] = K at fin ⊢
  cbv
  refine LoopVC.frame [4, 5, 8, 9, 16] (PfX (okF l s left) z) (fun x => [(8, .i .i64 fun _ => x.k)]) (fun _ => []) [] (fun x => z.length - x.k) ⟨0, Nat.zero_le _, by rw [List.drop_zero]⟩ rfl (fun _ => rfl) ?_ ?_ fun ⟨k, hk, hr⟩ => ?_
  · cbv
    repeat' first | (refine Stp.mk ?_; cbv) | (refine Gen.mk fun r hr => ?_; (try simp only [Dat.ok, Dat.dec, Leaf.ok, Leaf.val, Span.eta, Set.eta, Task.eta, Done.eta, Late.eta, val_sl, val_nil] at hr); cbv) | exact trivial | rfl | refine Both.mk ?_ ?_ | (refine Imp.mk fun h => ?_; (try dsimp only at h); (try simp only [nc, Int.toNat_natCast, Bool.not_eq_true', Bool.not_eq_false', decide_eq_true_eq, decide_eq_false_iff_not, beq_iff_eq, beq_eq_false_iff_ne, ba_inj, bne_iff_ne, ne_eq, Bool.and_eq_true, Bool.or_eq_true, Bool.and_eq_false_iff, Bool.or_eq_false_iff, Int.not_le, Int.not_lt, Nat.not_le, Nat.not_lt] at h); (try simp only [nc] at h)) | refine Ob.mk ?_ ?_ | refine Chk.mk (by kernel_rfl) ?_ | refine Eq'.mk ?_ | (refine AllN.mk fun i hi => ?_; cbv) | (refine AllS.mk fun r hr => ?_; (try simp only [Dat.ok, Dat.dec, Leaf.ok, Leaf.val, Span.eta, Set.eta, Task.eta, Done.eta, Late.eta, val_sl] at hr); cbv)
  · cbv
    repeat' first | (refine Stp.mk ?_; cbv) | (refine Gen.mk fun r hr => ?_; (try simp only [Dat.ok, Dat.dec, Leaf.ok, Leaf.val, Span.eta, Set.eta, Task.eta, Done.eta, Late.eta, val_sl, val_nil] at hr); cbv) | exact trivial | rfl | refine Both.mk ?_ ?_ | (refine Imp.mk fun h => ?_; (try dsimp only at h); (try simp only [nc, Int.toNat_natCast, Bool.not_eq_true', Bool.not_eq_false', decide_eq_true_eq, decide_eq_false_iff_not, beq_iff_eq, beq_eq_false_iff_ne, ba_inj, bne_iff_ne, ne_eq, Bool.and_eq_true, Bool.or_eq_true, Bool.and_eq_false_iff, Bool.or_eq_false_iff, Int.not_le, Int.not_lt, Nat.not_le, Nat.not_lt] at h); (try simp only [nc] at h)) | refine Ob.mk ?_ ?_ | refine Chk.mk (by kernel_rfl) ?_ | refine Eq'.mk ?_ | (refine AllN.mk fun i hi => ?_; cbv) | (refine AllS.mk fun r hr => ?_; (try simp only [Dat.ok, Dat.dec, Leaf.ok, Leaf.val, Span.eta, Set.eta, Task.eta, Done.eta, Late.eta, val_sl] at hr); cbv)
  · cbv
    repeat' first | (show Stp _; exfalso; first | omega | (exact h ‹_›) | (exact absurd ‹_› h) | (exact Bool.false_ne_true (h.symm.trans (show _ = true by assumption)))) | (refine Stp.mk ?_; cbv) | (refine Gen.mk fun r hr => ?_; (try simp only [Dat.ok, Dat.dec, Leaf.ok, Leaf.val, Span.eta, Set.eta, Task.eta, Done.eta, Late.eta, val_sl, val_nil] at hr); cbv) | exact trivial | rfl | refine Both.mk ?_ ?_ | (refine Imp.mk fun h => ?_; (try dsimp only at h); (try simp only [nc, Int.toNat_natCast, Bool.not_eq_true', Bool.not_eq_false', decide_eq_true_eq, decide_eq_false_iff_not, beq_iff_eq, beq_eq_false_iff_ne, ba_inj, bne_iff_ne, ne_eq, Bool.and_eq_true, Bool.or_eq_true, Bool.and_eq_false_iff, Bool.or_eq_false_iff, Int.not_le, Int.not_lt, Nat.not_le, Nat.not_lt] at h); (try simp only [nc] at h)) | refine Ob.mk ?_ ?_ | refine Chk.mk (by kernel_rfl) ?_ | refine Eq'.mk ?_ | (refine AllN.mk fun i hi => ?_; cbv) | (refine AllS.mk fun r hr => ?_; (try simp only [Dat.ok, Dat.dec, Leaf.ok, Leaf.val, Span.eta, Set.eta, Task.eta, Done.eta, Late.eta, val_sl] at hr); cbv)
    all_goals ((try dsimp only at *); (try simp only [nc, Int.toNat_natCast, Bool.not_eq_true', Bool.not_eq_false', decide_eq_true_eq, decide_eq_false_iff_not, beq_iff_eq, beq_eq_false_iff_ne, ba_inj, bne_iff_ne, ne_eq, Bool.and_eq_true, Bool.or_eq_true, Bool.and_eq_false_iff, Bool.or_eq_false_iff, Int.not_le, Int.not_lt, Nat.not_le, Nat.not_lt] at *); (try simp only [nc] at *))
    all_goals try rw [nc] at *
    all_goals try simp only [Dat.dec, Leaf.val, Span.eta, Set.eta, Task.eta, Done.eta, Late.eta, val_sl] at *
    all_goals first
      | omega
      | exact ⟨by omega, by omega⟩
      | (unfold InR; omega)
      | exact ⟨⟨rfl, fun i _ => Dat.hok _⟩, ⟨rfl, fun i _ => Dat.hok _⟩, ⟨trivial, rfl, fun i _ => Dat.hok _⟩, hp, (hg k (by omega)).1, (hg k (by omega)).2⟩
      | (have hk2 : k < z.length := by omega
         refine fin _ _ _ ?_
         rw [hr, pF_drop hk2, if_pos (by assumption)])
      | (have hk2 : k < z.length := by omega
         have hf : ¬ okF l s left (z.getD k 0) = true := by rw [Bool.not_eq_true]; assumption
         refine ⟨⟨k + 1, by omega, by rw [hr, pF_drop hk2, if_neg hf]⟩, ?_, ?_, rfl, show z.length - (k + 1) < z.length - k by omega⟩
         · cbv
           repeat' first | (refine Stp.mk ?_; cbv) | (refine Gen.mk fun r hr => ?_; (try simp only [Dat.ok, Dat.dec, Leaf.ok, Leaf.val, Span.eta, Set.eta, Task.eta, Done.eta, Late.eta, val_sl, val_nil] at hr); cbv) | exact trivial | rfl | refine Both.mk ?_ ?_ | (refine Imp.mk fun h => ?_; (try dsimp only at h); (try simp only [nc, Int.toNat_natCast, Bool.not_eq_true', Bool.not_eq_false', decide_eq_true_eq, decide_eq_false_iff_not, beq_iff_eq, beq_eq_false_iff_ne, ba_inj, bne_iff_ne, ne_eq, Bool.and_eq_true, Bool.or_eq_true, Bool.and_eq_false_iff, Bool.or_eq_false_iff, Int.not_le, Int.not_lt, Nat.not_le, Nat.not_lt] at h); (try simp only [nc] at h)) | refine Ob.mk ?_ ?_ | refine Chk.mk (by kernel_rfl) ?_ | refine Eq'.mk ?_ | (refine AllN.mk fun i hi => ?_; cbv) | (refine AllS.mk fun r hr => ?_; (try simp only [Dat.ok, Dat.dec, Leaf.ok, Leaf.val, Span.eta, Set.eta, Task.eta, Done.eta, Late.eta, val_sl] at hr); cbv)
         · cbv
           repeat' first | (refine Stp.mk ?_; cbv) | (refine Gen.mk fun r hr => ?_; (try simp only [Dat.ok, Dat.dec, Leaf.ok, Leaf.val, Span.eta, Set.eta, Task.eta, Done.eta, Late.eta, val_sl, val_nil] at hr); cbv) | exact trivial | rfl | refine Both.mk ?_ ?_ | (refine Imp.mk fun h => ?_; (try dsimp only at h); (try simp only [nc, Int.toNat_natCast, Bool.not_eq_true', Bool.not_eq_false', decide_eq_true_eq, decide_eq_false_iff_not, beq_iff_eq, beq_eq_false_iff_ne, ba_inj, bne_iff_ne, ne_eq, Bool.and_eq_true, Bool.or_eq_true, Bool.and_eq_false_iff, Bool.or_eq_false_iff, Int.not_le, Int.not_lt, Nat.not_le, Nat.not_lt] at h); (try simp only [nc] at h)) | refine Ob.mk ?_ ?_ | refine Chk.mk (by kernel_rfl) ?_ | refine Eq'.mk ?_ | (refine AllN.mk fun i hi => ?_; cbv) | (refine AllS.mk fun r hr => ?_; (try simp only [Dat.ok, Dat.dec, Leaf.ok, Leaf.val, Span.eta, Set.eta, Task.eta, Done.eta, Late.eta, val_sl] at hr); cbv))
      | (refine fin _ _ _ ?_
         rw [hr, List.drop_eq_nil_of_le (by omega), pF])
      | fail
structure XfP (z left : List Int) (l : List Task) (s : Set) : Prop where
  h1 : F2P left l s
  h2 : z.length ≤ 100
  h3 : ∀ j ∈ z, 0 ≤ j ∧ j.toNat < l.length
def xf_D : Det := fun A => match A with
  | [z, .fn f [.rp [x], .rp [y], .rp c]] => some (fun _ => f = 53 ∧ Leaf.ok (List Int) z ∧ Leaf.ok (List Int) x ∧ Leaf.ok (List Task) y ∧ Dat.ok Set c ∧ XfP (Leaf.val z) (Leaf.val x) (Leaf.val y) (Dat.dec c), .i .i64 fun _ => pF (okF (Leaf.val y) (Dat.dec c) (Leaf.val x)) 0 (Leaf.val z))
  | _ => none
theorem xf_ok : PcOk Try.prog 52 (detPC xf_D) := det_okA fun A p r h hp0 => by
  unfold xf_D at h
  split at h
  · rename_i z f x y c
    cases h
    obtain ⟨rfl, g0, g1, g2, g3, hp⟩ := hp0
    exact ⟨rfl, FnOk.pre (A' := [Leaf.av fun _ => (Leaf.val z : List Int), .fn 53 [.rp [Leaf.av fun _ => (Leaf.val x : List Int)], .rp [Leaf.av fun _ => (Leaf.val y : List Task)], .rp (Dat.enc fun _ => (Dat.dec c : Set))]]) (xf_vc _ _ _ _ hp.h1 hp.h2 hp.h3) (.mk (Leaf.hle _ g0) (.mk (.mk (.mk (.mk (Leaf.hle _ g1) trivial) rfl) (.mk (.mk (.mk (Leaf.hle _ g2) trivial) rfl) (.mk (.mk (Dat.hle _ g3) (Dat.hclosed _)) trivial))) trivial))⟩
  · cases h

end Go.Proofs.Ytabchkekhpmpiaa
