/- table.Turns, walked. -/
import Derived.Test.YtadjemhbfaonbaaTurnP
set_option linter.all false
namespace Go.Proofs.Ytadjemhbfaonbaa
open Go Go.Abs

structure TuX (t : Table) (a b : Int) where
  x : Int
  out : List Window
  hx : x ≤ b
  hr : Runs t a x out
  hl : out.length ≤ 400
def turns_R (r : Th ((List Window) × Int)) : AV := .tup [.own 0 fun _ => (r ()).1.length, .i .i64 fun _ => (r ()).2]
def turns_H (r : Th ((List Window) × Int)) : Hp := [vecO 30 fun _ => (r ()).1]
def turns_P (t : Table) (frm : Int) (to : Int) : Prop := t.windows.length ≤ 9223372036854775807
def turns_C : PC := fun A K => match A with
  | [.agg t, .i .i64 frm, .i .i64 to] => Ob (fun _ => Dat.ok Table t ∧ turns_P (Dat.dec t) (frm ()) (to ())) (Gen (α := (List Window) × Int) (fun _ => turnsV (Dat.dec t) (frm ()) (to ())) fun r => K (turns_R fun _ => r) (turns_H fun _ => r))
  | _ => Bad 1002
noncomputable def cTu : FuncId → Con := fun f => match f with
  | 17 => pureCon (detPC wchk_D)
  | _ => fun _ _ _ => Bad 1001
theorem cTu_ok : ConOk Try.prog cTu := fun f A H K h => by
  unfold cTu at h
  split at h
  · exact ⟨⟨Try.f17, Try.func17, by kernel_rfl, by kernel_rfl⟩, pureCon_ok wchk_ok h⟩
  · cases h
def dTu : FuncId → Option Dt := fun f => match f with
  | 20 => some (.c wat_D)
  | _ => none
theorem dTu_ok : DetOk Try.prog dTu := fun f d h => by
  unfold dTu at h
  split at h
  · cases h; exact ⟨⟨Try.f20, Try.func20, by kernel_rfl, by kernel_rfl⟩, wat_ok⟩
  · cases h
set_option maxRecDepth 100000 in
set_option maxHeartbeats 4000000 in
theorem turns_vc (t : Table) (frm : Int) (to : Int) (hp : turns_P t frm to) : FnOk Try.prog 7 [.agg (Dat.enc fun _ => t), .i .i64 fun _ => frm, .i .i64 fun _ => to] [] (outA (turns_R fun _ => turnsV t frm to) (turns_H fun _ => turnsV t frm to)) := by
  refine fn_ok envOk zl cTu_ok (draws_ok envOk zl dTu_ok mixed) (keep := [0, 1, 2, 3, 6, 7, 8, 9, 10, 11, 12, 16, 28, 31, 63, 86, 115]) Try.func7 rfl ?_
  have hp' : t.windows.length ≤ 9223372036854775807 := hp
  have fin0 : ∀ (e : Int) kl H, turnsV t frm to = ([], e) → outA (turns_R fun _ => turnsV t frm to) (turns_H fun _ => turnsV t frm to) (.tup [.nil, .i .i64 fun _ => e]) H kl := fun e kl H h => by
    rw [h]
    cbv
    repeat' first | (refine Stp.mk ?_; cbv) | (refine Gen.mk fun r hr => ?_; (try simp only [Dat.ok, Dat.dec, Leaf.ok, Leaf.val, Span.eta, Set.eta, Window.eta, Table.eta, Want.eta, val_sl, val_nil] at hr); cbv) | exact trivial | rfl | refine Both.mk ?_ ?_ | (refine Imp.mk fun h => ?_; (try dsimp only at h); (try simp only [nc, Int.toNat_natCast, Bool.not_eq_true', Bool.not_eq_false', decide_eq_true_eq, decide_eq_false_iff_not, beq_iff_eq, beq_eq_false_iff_ne, ba_inj, bne_iff_ne, ne_eq, Bool.and_eq_true, Bool.or_eq_true, Bool.and_eq_false_iff, Bool.or_eq_false_iff, Int.not_le, Int.not_lt, Nat.not_le, Nat.not_lt] at h); (try simp only [nc] at h)) | refine Ob.mk ?_ ?_ | refine Chk.mk (by kernel_rfl) ?_ | refine Eq'.mk ?_ | (refine AllN.mk fun i hi => ?_; cbv) | (refine AllS.mk fun r hr => ?_; (try simp only [Dat.ok, Dat.dec, Leaf.ok, Leaf.val, Span.eta, Set.eta, Window.eta, Table.eta, Want.eta, val_sl] at hr); cbv)
    all_goals first | rfl | (exfalso; omega)
  have fin1 : ∀ (d : List Window) kl x H, turnsV t frm to = (d, 0) → outA (turns_R fun _ => turnsV t frm to) (turns_H fun _ => turnsV t frm to) (.tup [.own 1 fun _ => d.length, .i .i64 fun _ => 0]) (x :: vecO 30 (fun _ => d) :: H) kl := fun d kl x H h => by
    rw [h]
    cbv
    repeat' first | (refine Stp.mk ?_; cbv) | (refine Gen.mk fun r hr => ?_; (try simp only [Dat.ok, Dat.dec, Leaf.ok, Leaf.val, Span.eta, Set.eta, Window.eta, Table.eta, Want.eta, val_sl, val_nil] at hr); cbv) | exact trivial | rfl | refine Both.mk ?_ ?_ | (refine Imp.mk fun h => ?_; (try dsimp only at h); (try simp only [nc, Int.toNat_natCast, Bool.not_eq_true', Bool.not_eq_false', decide_eq_true_eq, decide_eq_false_iff_not, beq_iff_eq, beq_eq_false_iff_ne, ba_inj, bne_iff_ne, ne_eq, Bool.and_eq_true, Bool.or_eq_true, Bool.and_eq_false_iff, Bool.or_eq_false_iff, Int.not_le, Int.not_lt, Nat.not_le, Nat.not_lt] at h); (try simp only [nc] at h)) | refine Ob.mk ?_ ?_ | refine Chk.mk (by kernel_rfl) ?_ | refine Eq'.mk ?_ | (refine AllN.mk fun i hi => ?_; cbv) | (refine AllS.mk fun r hr => ?_; (try simp only [Dat.ok, Dat.dec, Leaf.ok, Leaf.val, Span.eta, Set.eta, Window.eta, Table.eta, Want.eta, val_sl] at hr); cbv)
  generalize outA (turns_R fun _ => turnsV t frm to) (turns_H fun _ => turnsV t frm to) = K at fin0 fin1 ⊢
  cbv
  repeat' first | (show Stp _; exfalso; first | omega | (exact h ‹_›) | (exact absurd ‹_› h) | (exact Bool.false_ne_true (h.symm.trans (show _ = true by assumption)))) | (refine Stp.mk ?_; cbv) | (refine Gen.mk fun r hr => ?_; (try simp only [Dat.ok, Dat.dec, Leaf.ok, Leaf.val, Span.eta, Set.eta, Window.eta, Table.eta, Want.eta, val_sl, val_nil] at hr); cbv) | exact trivial | rfl | refine Both.mk ?_ ?_ | (refine Imp.mk fun h => ?_; (try dsimp only at h); (try simp only [nc, Int.toNat_natCast, Bool.not_eq_true', Bool.not_eq_false', decide_eq_true_eq, decide_eq_false_iff_not, beq_iff_eq, beq_eq_false_iff_ne, ba_inj, bne_iff_ne, ne_eq, Bool.and_eq_true, Bool.or_eq_true, Bool.and_eq_false_iff, Bool.or_eq_false_iff, Int.not_le, Int.not_lt, Nat.not_le, Nat.not_lt] at h); (try simp only [nc] at h)) | refine Ob.mk ?_ ?_ | refine Chk.mk (by kernel_rfl) ?_ | refine Eq'.mk ?_ | (refine AllN.mk fun i hi => ?_; cbv) | (refine AllS.mk fun r hr => ?_; (try simp only [Dat.ok, Dat.dec, Leaf.ok, Leaf.val, Span.eta, Set.eta, Window.eta, Table.eta, Want.eta, val_sl] at hr); cbv)
  all_goals ((try dsimp only at *); (try simp only [nc, Int.toNat_natCast, Bool.not_eq_true', Bool.not_eq_false', decide_eq_true_eq, decide_eq_false_iff_not, beq_iff_eq, beq_eq_false_iff_ne, ba_inj, bne_iff_ne, ne_eq, Bool.and_eq_true, Bool.or_eq_true, Bool.and_eq_false_iff, Bool.or_eq_false_iff, Int.not_le, Int.not_lt, Nat.not_le, Nat.not_lt] at *); (try simp only [nc] at *))
  all_goals try simp only [Dat.dec, Leaf.val, Span.eta, Set.eta, Window.eta, Table.eta, Want.eta, val_sl] at *
  all_goals first
    | exact ⟨⟨trivial, rfl, fun i _ => Dat.hok _⟩, hp'⟩
    | (refine fin0 _ _ _ (turns_err (by assumption)))
    | (refine fin0 _ _ _ (turns_arg (by assumption) (by omega)))
    | skip
  have hw : wchkV t = 0 := by assumption
  have hR := wchk_iff.1 hw
  have s1 := hR.s1
  have s2 := hR.s2
  have ha : 0 ≤ frm := by omega
  have hab : frm ≤ to := by omega
  refine LoopVC.frame [1, 6, 7, 9, 10, 11, 12, 31, 63, 86, 115] (TuX t frm to) (fun x => [(1, .i .i64 fun _ => x.x), (9, .own 1 fun _ => x.out.length)]) (fun x => [(1, vecO 30 fun _ => x.out)]) [1] (fun x => (to - x.x).toNat) ⟨frm, [], hab, rfl, Nat.zero_le _⟩ rfl (fun _ => rfl) ?_ ?_ fun ⟨x, out, hx, hr, hl⟩ => ?_
  · cbv
    repeat' first | (refine Stp.mk ?_; cbv) | (refine Gen.mk fun r hr => ?_; (try simp only [Dat.ok, Dat.dec, Leaf.ok, Leaf.val, Span.eta, Set.eta, Window.eta, Table.eta, Want.eta, val_sl, val_nil] at hr); cbv) | exact trivial | rfl | refine Both.mk ?_ ?_ | (refine Imp.mk fun h => ?_; (try dsimp only at h); (try simp only [nc, Int.toNat_natCast, Bool.not_eq_true', Bool.not_eq_false', decide_eq_true_eq, decide_eq_false_iff_not, beq_iff_eq, beq_eq_false_iff_ne, ba_inj, bne_iff_ne, ne_eq, Bool.and_eq_true, Bool.or_eq_true, Bool.and_eq_false_iff, Bool.or_eq_false_iff, Int.not_le, Int.not_lt, Nat.not_le, Nat.not_lt] at h); (try simp only [nc] at h)) | refine Ob.mk ?_ ?_ | refine Chk.mk (by kernel_rfl) ?_ | refine Eq'.mk ?_ | (refine AllN.mk fun i hi => ?_; cbv) | (refine AllS.mk fun r hr => ?_; (try simp only [Dat.ok, Dat.dec, Leaf.ok, Leaf.val, Span.eta, Set.eta, Window.eta, Table.eta, Want.eta, val_sl] at hr); cbv)
  · cbv
    repeat' first | (refine Stp.mk ?_; cbv) | (refine Gen.mk fun r hr => ?_; (try simp only [Dat.ok, Dat.dec, Leaf.ok, Leaf.val, Span.eta, Set.eta, Window.eta, Table.eta, Want.eta, val_sl, val_nil] at hr); cbv) | exact trivial | rfl | refine Both.mk ?_ ?_ | (refine Imp.mk fun h => ?_; (try dsimp only at h); (try simp only [nc, Int.toNat_natCast, Bool.not_eq_true', Bool.not_eq_false', decide_eq_true_eq, decide_eq_false_iff_not, beq_iff_eq, beq_eq_false_iff_ne, ba_inj, bne_iff_ne, ne_eq, Bool.and_eq_true, Bool.or_eq_true, Bool.and_eq_false_iff, Bool.or_eq_false_iff, Int.not_le, Int.not_lt, Nat.not_le, Nat.not_lt] at h); (try simp only [nc] at h)) | refine Ob.mk ?_ ?_ | refine Chk.mk (by kernel_rfl) ?_ | refine Eq'.mk ?_ | (refine AllN.mk fun i hi => ?_; cbv) | (refine AllS.mk fun r hr => ?_; (try simp only [Dat.ok, Dat.dec, Leaf.ok, Leaf.val, Span.eta, Set.eta, Window.eta, Table.eta, Want.eta, val_sl] at hr); cbv)
  · have hle := runs_le hr
    cbv
    repeat' first | (show Stp _; exfalso; first | omega | (exact h ‹_›) | (exact absurd ‹_› h) | (exact Bool.false_ne_true (h.symm.trans (show _ = true by assumption)))) | (refine Stp.mk ?_; cbv) | (refine Gen.mk fun r hr => ?_; (try simp only [Dat.ok, Dat.dec, Leaf.ok, Leaf.val, Span.eta, Set.eta, Window.eta, Table.eta, Want.eta, val_sl, val_nil] at hr); cbv) | exact trivial | rfl | refine Both.mk ?_ ?_ | (refine Imp.mk fun h => ?_; (try dsimp only at h); (try simp only [nc, Int.toNat_natCast, Bool.not_eq_true', Bool.not_eq_false', decide_eq_true_eq, decide_eq_false_iff_not, beq_iff_eq, beq_eq_false_iff_ne, ba_inj, bne_iff_ne, ne_eq, Bool.and_eq_true, Bool.or_eq_true, Bool.and_eq_false_iff, Bool.or_eq_false_iff, Int.not_le, Int.not_lt, Nat.not_le, Nat.not_lt] at h); (try simp only [nc] at h)) | refine Ob.mk ?_ ?_ | refine Chk.mk (by kernel_rfl) ?_ | refine Eq'.mk ?_ | (refine AllN.mk fun i hi => ?_; cbv) | (refine AllS.mk fun r hr => ?_; (try simp only [Dat.ok, Dat.dec, Leaf.ok, Leaf.val, Span.eta, Set.eta, Window.eta, Table.eta, Want.eta, val_sl] at hr); cbv)
    all_goals ((try dsimp only at *); (try simp only [nc, Int.toNat_natCast, Bool.not_eq_true', Bool.not_eq_false', decide_eq_true_eq, decide_eq_false_iff_not, beq_iff_eq, beq_eq_false_iff_ne, ba_inj, bne_iff_ne, ne_eq, Bool.and_eq_true, Bool.or_eq_true, Bool.and_eq_false_iff, Bool.or_eq_false_iff, Int.not_le, Int.not_lt, Nat.not_le, Nat.not_lt] at *); (try simp only [nc] at *))
    all_goals try rw [nc] at *
    all_goals try simp only [Dat.dec, Leaf.val, Span.eta, Set.eta, Window.eta, Table.eta, Want.eta, val_sl] at *
    all_goals try (
      generalize hE : (if x - x.tmod t.frame + (atV t (x.tmod t.frame)).snd < to then x - x.tmod t.frame + (atV t (x.tmod t.frame)).snd else to) = E at *
      have hxt : x < to := (by first | assumption | omega)
      obtain ⟨e1, e2, e3, e4, e5, e6, e7⟩ := tu_seg hR (show 0 ≤ x by omega) hxt hE)
    all_goals try have ht0 : Int.toNat 0 = 0 := rfl
    all_goals first
      | omega
      | exact ⟨by omega, by omega⟩
      | exact ⟨by omega, by omega, by omega, by omega⟩
      | (unfold InR; omega)
      | exact ⟨⟨trivial, rfl, fun i _ => Dat.hok _⟩, hw⟩
      | (refine fin0 _ _ _ (turns_large hw (by omega) (runs_snoc hr (w := ⟨x, E - x, (atV t (x.tmod t.frame)).1⟩) rfl (show 1 ≤ E - x by omega) (show E = x + (E - x) by omega) e3 (tu_ne (by assumption))) e2 (by rw [List.length_append, List.length_singleton]; omega)))
      | (refine fin1 _ _ _ _ (turns_go hw (by omega) ?_ hl); rw [show to = x by omega]; exact hr)
      | skip
    all_goals rcases List.eq_nil_or_concat out with hq | ⟨init, w, hq⟩
    all_goals try rw [List.concat_eq_append] at hq
    all_goals subst hq
    all_goals try simp only [last_get] at *
    all_goals try have hwl := runs_last hr
    all_goals try have q1 := @List.length_append _ init [w]
    all_goals try have q2 : [w].length = 1 := rfl
    all_goals first
      | (exfalso; simp only [List.length_nil] at *; omega)
      | (exfalso; omega)
      | (unfold InR; omega)
      | skip
    all_goals first
      | (have hi1 : init.length = 0 := (by omega)
         have hi2 : init = [] := List.eq_nil_of_length_eq_zero hi1
         subst hi2
         simp only [List.nil_append, bif_t (show Int.toNat 0 = ((([w] : List Window).length : Int) - 1).toNat from rfl)] at *
         first
           | (unfold InR; omega)
           | (have hr2 := tu_cut hR ha e2 (runs_ext (l := []) (w := w) (Int.le_of_lt e1) (fun y y1 y2 => (e3 y y1 y2).trans (by assumption : w.owner = _).symm) hr) (show t.frame ≤ w.long + (E - x) by assumption)
              refine ⟨⟨to, [⟨w.frm, w.long + (E - x) + (to - E), w.owner⟩], Int.le_refl _, hr2, show (1 : Nat) ≤ 400 by decide⟩, ?_, ?_, rfl, by (try dsimp only); omega⟩
              · cbv
                repeat' first | (refine Stp.mk ?_; cbv) | (refine Gen.mk fun r hr => ?_; (try simp only [Dat.ok, Dat.dec, Leaf.ok, Leaf.val, Span.eta, Set.eta, Window.eta, Table.eta, Want.eta, val_sl, val_nil] at hr); cbv) | exact trivial | rfl | refine Both.mk ?_ ?_ | (refine Imp.mk fun h => ?_; (try dsimp only at h); (try simp only [nc, Int.toNat_natCast, Bool.not_eq_true', Bool.not_eq_false', decide_eq_true_eq, decide_eq_false_iff_not, beq_iff_eq, beq_eq_false_iff_ne, ba_inj, bne_iff_ne, ne_eq, Bool.and_eq_true, Bool.or_eq_true, Bool.and_eq_false_iff, Bool.or_eq_false_iff, Int.not_le, Int.not_lt, Nat.not_le, Nat.not_lt] at h); (try simp only [nc] at h)) | refine Ob.mk ?_ ?_ | refine Chk.mk (by kernel_rfl) ?_ | refine Eq'.mk ?_ | (refine AllN.mk fun i hi => ?_; cbv) | (refine AllS.mk fun r hr => ?_; (try simp only [Dat.ok, Dat.dec, Leaf.ok, Leaf.val, Span.eta, Set.eta, Window.eta, Table.eta, Want.eta, val_sl] at hr); cbv)
                all_goals first | rfl | omega
              · cbv
                repeat' first | (refine Stp.mk ?_; cbv) | (refine Gen.mk fun r hr => ?_; (try simp only [Dat.ok, Dat.dec, Leaf.ok, Leaf.val, Span.eta, Set.eta, Window.eta, Table.eta, Want.eta, val_sl, val_nil] at hr); cbv) | exact trivial | rfl | refine Both.mk ?_ ?_ | (refine Imp.mk fun h => ?_; (try dsimp only at h); (try simp only [nc, Int.toNat_natCast, Bool.not_eq_true', Bool.not_eq_false', decide_eq_true_eq, decide_eq_false_iff_not, beq_iff_eq, beq_eq_false_iff_ne, ba_inj, bne_iff_ne, ne_eq, Bool.and_eq_true, Bool.or_eq_true, Bool.and_eq_false_iff, Bool.or_eq_false_iff, Int.not_le, Int.not_lt, Nat.not_le, Nat.not_lt] at h); (try simp only [nc] at h)) | refine Ob.mk ?_ ?_ | refine Chk.mk (by kernel_rfl) ?_ | refine Eq'.mk ?_ | (refine AllN.mk fun i hi => ?_; cbv) | (refine AllS.mk fun r hr => ?_; (try simp only [Dat.ok, Dat.dec, Leaf.ok, Leaf.val, Span.eta, Set.eta, Window.eta, Table.eta, Want.eta, val_sl] at hr); cbv)
                all_goals ((try dsimp only at *); (try simp only [nc, Int.toNat_natCast, Bool.not_eq_true', Bool.not_eq_false', decide_eq_true_eq, decide_eq_false_iff_not, beq_iff_eq, beq_eq_false_iff_ne, ba_inj, bne_iff_ne, ne_eq, Bool.and_eq_true, Bool.or_eq_true, Bool.and_eq_false_iff, Bool.or_eq_false_iff, Int.not_le, Int.not_lt, Nat.not_le, Nat.not_lt] at *); (try simp only [nc] at *))
                all_goals (have hi0 : i = 0 := by (have q3 : i < 1 := hi; omega))
                all_goals subst hi0
                all_goals first
                  | rfl
                  | (show w.long + (E - x) + to - E = w.long + (E - x) + (to - E); omega)))
      | (have hr2 := runs_ext (w := w) (Int.le_of_lt e1) (fun y y1 y2 => (e3 y y1 y2).trans (by assumption : w.owner = _).symm) hr
         rw [← set_last init w] at hr2
         refine ⟨⟨E, _, e2, hr2, by rw [List.length_set]; exact hl⟩, ?_, ?_, rfl, by (try dsimp only); omega⟩
         · cbv
           repeat' first | (refine Stp.mk ?_; cbv) | (refine Gen.mk fun r hr => ?_; (try simp only [Dat.ok, Dat.dec, Leaf.ok, Leaf.val, Span.eta, Set.eta, Window.eta, Table.eta, Want.eta, val_sl, val_nil] at hr); cbv) | exact trivial | rfl | refine Both.mk ?_ ?_ | (refine Imp.mk fun h => ?_; (try dsimp only at h); (try simp only [nc, Int.toNat_natCast, Bool.not_eq_true', Bool.not_eq_false', decide_eq_true_eq, decide_eq_false_iff_not, beq_iff_eq, beq_eq_false_iff_ne, ba_inj, bne_iff_ne, ne_eq, Bool.and_eq_true, Bool.or_eq_true, Bool.and_eq_false_iff, Bool.or_eq_false_iff, Int.not_le, Int.not_lt, Nat.not_le, Nat.not_lt] at h); (try simp only [nc] at h)) | refine Ob.mk ?_ ?_ | refine Chk.mk (by kernel_rfl) ?_ | refine Eq'.mk ?_ | (refine AllN.mk fun i hi => ?_; cbv) | (refine AllS.mk fun r hr => ?_; (try simp only [Dat.ok, Dat.dec, Leaf.ok, Leaf.val, Span.eta, Set.eta, Window.eta, Table.eta, Want.eta, val_sl] at hr); cbv)
           all_goals first | rfl | (rw [List.length_set]; done)
         · cbv
           repeat' first | (refine Stp.mk ?_; cbv) | (refine Gen.mk fun r hr => ?_; (try simp only [Dat.ok, Dat.dec, Leaf.ok, Leaf.val, Span.eta, Set.eta, Window.eta, Table.eta, Want.eta, val_sl, val_nil] at hr); cbv) | exact trivial | rfl | refine Both.mk ?_ ?_ | (refine Imp.mk fun h => ?_; (try dsimp only at h); (try simp only [nc, Int.toNat_natCast, Bool.not_eq_true', Bool.not_eq_false', decide_eq_true_eq, decide_eq_false_iff_not, beq_iff_eq, beq_eq_false_iff_ne, ba_inj, bne_iff_ne, ne_eq, Bool.and_eq_true, Bool.or_eq_true, Bool.and_eq_false_iff, Bool.or_eq_false_iff, Int.not_le, Int.not_lt, Nat.not_le, Nat.not_lt] at h); (try simp only [nc] at h)) | refine Ob.mk ?_ ?_ | refine Chk.mk (by kernel_rfl) ?_ | refine Eq'.mk ?_ | (refine AllN.mk fun i hi => ?_; cbv) | (refine AllS.mk fun r hr => ?_; (try simp only [Dat.ok, Dat.dec, Leaf.ok, Leaf.val, Span.eta, Set.eta, Window.eta, Table.eta, Want.eta, val_sl] at hr); cbv)
           all_goals ((try dsimp only at *); (try simp only [nc, Int.toNat_natCast, Bool.not_eq_true', Bool.not_eq_false', decide_eq_true_eq, decide_eq_false_iff_not, beq_iff_eq, beq_eq_false_iff_ne, ba_inj, bne_iff_ne, ne_eq, Bool.and_eq_true, Bool.or_eq_true, Bool.and_eq_false_iff, Bool.or_eq_false_iff, Int.not_le, Int.not_lt, Nat.not_le, Nat.not_lt] at *); (try simp only [nc] at *))
           all_goals first
             | (rw [List.length_set]; done)
             | (rw [gdW_set _ _ _ _ (by omega)]
                by_cases hi2 : i = (((init ++ [w]).length : Int) - 1).toNat
                · first
                    | (rw [bif_t hi2, bif_t hi2]; done)
                    | (rw [bif_t hi2, bif_t hi2]; subst hi2; first | rfl | (rw [last_get]; done))
                · first | (rw [bif_f hi2, bif_f hi2]; done) | (rw [bif_f hi2, bif_f hi2]; rfl))
             | fail)
      | (simp only [bif_f (show ¬ Int.toNat 0 < ([] : List Window).length from by decide)] at *
         first
           | (unfold InR; omega)
           | (have hr2 := tu_cut hR ha e2 (runs_snoc hr (w := ⟨x, E - x, (atV t (x.tmod t.frame)).1⟩) rfl (show 1 ≤ E - x by omega) (show E = x + (E - x) by omega) e3 (by intro z hz; cases hz)) (show t.frame ≤ E - x by assumption)
              refine ⟨⟨to, [⟨x, E - x + (to - E), (atV t (x.tmod t.frame)).1⟩], Int.le_refl _, hr2, show (1 : Nat) ≤ 400 by decide⟩, ?_, ?_, rfl, by (try dsimp only); omega⟩
              · cbv
                repeat' first | (refine Stp.mk ?_; cbv) | (refine Gen.mk fun r hr => ?_; (try simp only [Dat.ok, Dat.dec, Leaf.ok, Leaf.val, Span.eta, Set.eta, Window.eta, Table.eta, Want.eta, val_sl, val_nil] at hr); cbv) | exact trivial | rfl | refine Both.mk ?_ ?_ | (refine Imp.mk fun h => ?_; (try dsimp only at h); (try simp only [nc, Int.toNat_natCast, Bool.not_eq_true', Bool.not_eq_false', decide_eq_true_eq, decide_eq_false_iff_not, beq_iff_eq, beq_eq_false_iff_ne, ba_inj, bne_iff_ne, ne_eq, Bool.and_eq_true, Bool.or_eq_true, Bool.and_eq_false_iff, Bool.or_eq_false_iff, Int.not_le, Int.not_lt, Nat.not_le, Nat.not_lt] at h); (try simp only [nc] at h)) | refine Ob.mk ?_ ?_ | refine Chk.mk (by kernel_rfl) ?_ | refine Eq'.mk ?_ | (refine AllN.mk fun i hi => ?_; cbv) | (refine AllS.mk fun r hr => ?_; (try simp only [Dat.ok, Dat.dec, Leaf.ok, Leaf.val, Span.eta, Set.eta, Window.eta, Table.eta, Want.eta, val_sl] at hr); cbv)
                all_goals first | rfl | omega
              · cbv
                repeat' first | (refine Stp.mk ?_; cbv) | (refine Gen.mk fun r hr => ?_; (try simp only [Dat.ok, Dat.dec, Leaf.ok, Leaf.val, Span.eta, Set.eta, Window.eta, Table.eta, Want.eta, val_sl, val_nil] at hr); cbv) | exact trivial | rfl | refine Both.mk ?_ ?_ | (refine Imp.mk fun h => ?_; (try dsimp only at h); (try simp only [nc, Int.toNat_natCast, Bool.not_eq_true', Bool.not_eq_false', decide_eq_true_eq, decide_eq_false_iff_not, beq_iff_eq, beq_eq_false_iff_ne, ba_inj, bne_iff_ne, ne_eq, Bool.and_eq_true, Bool.or_eq_true, Bool.and_eq_false_iff, Bool.or_eq_false_iff, Int.not_le, Int.not_lt, Nat.not_le, Nat.not_lt] at h); (try simp only [nc] at h)) | refine Ob.mk ?_ ?_ | refine Chk.mk (by kernel_rfl) ?_ | refine Eq'.mk ?_ | (refine AllN.mk fun i hi => ?_; cbv) | (refine AllS.mk fun r hr => ?_; (try simp only [Dat.ok, Dat.dec, Leaf.ok, Leaf.val, Span.eta, Set.eta, Window.eta, Table.eta, Want.eta, val_sl] at hr); cbv)
                all_goals ((try dsimp only at *); (try simp only [nc, Int.toNat_natCast, Bool.not_eq_true', Bool.not_eq_false', decide_eq_true_eq, decide_eq_false_iff_not, beq_iff_eq, beq_eq_false_iff_ne, ba_inj, bne_iff_ne, ne_eq, Bool.and_eq_true, Bool.or_eq_true, Bool.and_eq_false_iff, Bool.or_eq_false_iff, Int.not_le, Int.not_lt, Nat.not_le, Nat.not_lt] at *); (try simp only [nc] at *))
                all_goals (have hi0 : i = 0 := by (have q3 : i < 1 := hi; omega))
                all_goals subst hi0
                all_goals first
                  | rfl
                  | (show E - x + to - E = E - x + (to - E); omega)))
      | (have hr2 := runs_snoc hr (w := ⟨x, E - x, (atV t (x.tmod t.frame)).1⟩) rfl (show 1 ≤ E - x by omega) (show E = x + (E - x) by omega) e3 (by first | exact tu_ne (n := (atV t (x.tmod t.frame)).1) (by rw [last_get]; assumption) | (intro z hz; cases hz; done))
         refine ⟨⟨E, _, e2, hr2, by rw [List.length_append, List.length_singleton]; omega⟩, ?_, ?_, rfl, by (try dsimp only); omega⟩
         · cbv
           repeat' first | (refine Stp.mk ?_; cbv) | (refine Gen.mk fun r hr => ?_; (try simp only [Dat.ok, Dat.dec, Leaf.ok, Leaf.val, Span.eta, Set.eta, Window.eta, Table.eta, Want.eta, val_sl, val_nil] at hr); cbv) | exact trivial | rfl | refine Both.mk ?_ ?_ | (refine Imp.mk fun h => ?_; (try dsimp only at h); (try simp only [nc, Int.toNat_natCast, Bool.not_eq_true', Bool.not_eq_false', decide_eq_true_eq, decide_eq_false_iff_not, beq_iff_eq, beq_eq_false_iff_ne, ba_inj, bne_iff_ne, ne_eq, Bool.and_eq_true, Bool.or_eq_true, Bool.and_eq_false_iff, Bool.or_eq_false_iff, Int.not_le, Int.not_lt, Nat.not_le, Nat.not_lt] at h); (try simp only [nc] at h)) | refine Ob.mk ?_ ?_ | refine Chk.mk (by kernel_rfl) ?_ | refine Eq'.mk ?_ | (refine AllN.mk fun i hi => ?_; cbv) | (refine AllS.mk fun r hr => ?_; (try simp only [Dat.ok, Dat.dec, Leaf.ok, Leaf.val, Span.eta, Set.eta, Window.eta, Table.eta, Want.eta, val_sl] at hr); cbv)
           all_goals first | rfl | (rw [List.length_append, List.length_singleton]; done)
         · cbv
           repeat' first | (refine Stp.mk ?_; cbv) | (refine Gen.mk fun r hr => ?_; (try simp only [Dat.ok, Dat.dec, Leaf.ok, Leaf.val, Span.eta, Set.eta, Window.eta, Table.eta, Want.eta, val_sl, val_nil] at hr); cbv) | exact trivial | rfl | refine Both.mk ?_ ?_ | (refine Imp.mk fun h => ?_; (try dsimp only at h); (try simp only [nc, Int.toNat_natCast, Bool.not_eq_true', Bool.not_eq_false', decide_eq_true_eq, decide_eq_false_iff_not, beq_iff_eq, beq_eq_false_iff_ne, ba_inj, bne_iff_ne, ne_eq, Bool.and_eq_true, Bool.or_eq_true, Bool.and_eq_false_iff, Bool.or_eq_false_iff, Int.not_le, Int.not_lt, Nat.not_le, Nat.not_lt] at h); (try simp only [nc] at h)) | refine Ob.mk ?_ ?_ | refine Chk.mk (by kernel_rfl) ?_ | refine Eq'.mk ?_ | (refine AllN.mk fun i hi => ?_; cbv) | (refine AllS.mk fun r hr => ?_; (try simp only [Dat.ok, Dat.dec, Leaf.ok, Leaf.val, Span.eta, Set.eta, Window.eta, Table.eta, Want.eta, val_sl] at hr); cbv)
           all_goals ((try dsimp only at *); (try simp only [nc, Int.toNat_natCast, Bool.not_eq_true', Bool.not_eq_false', decide_eq_true_eq, decide_eq_false_iff_not, beq_iff_eq, beq_eq_false_iff_ne, ba_inj, bne_iff_ne, ne_eq, Bool.and_eq_true, Bool.or_eq_true, Bool.and_eq_false_iff, Bool.or_eq_false_iff, Int.not_le, Int.not_lt, Nat.not_le, Nat.not_lt] at *); (try simp only [nc] at *))
           all_goals first
             | (rw [List.length_append, List.length_singleton]; done)
             | (rw [gd_snoc _ _ _ _ (by omega)]; cases decide (i < _) <;> rfl)
             | fail)
      | skip
    · have hr2 := runs_snoc hr (w := ⟨x, E - x, (atV t (x.tmod t.frame)).1⟩) rfl (show 1 ≤ E - x by omega) (show E = x + (E - x) by omega) e3 (tu_ne (n := (atV t (x.tmod t.frame)).1) (by rw [last_get]; assumption))
      refine ⟨⟨E, _, e2, hr2, Nat.le_trans (Nat.le_of_eq (snocW_len _ _)) (by omega)⟩, ?_, ?_, rfl, by (try dsimp only); omega⟩
      · cbv
        repeat' first | (refine Stp.mk ?_; cbv) | (refine Gen.mk fun r hr => ?_; (try simp only [Dat.ok, Dat.dec, Leaf.ok, Leaf.val, Span.eta, Set.eta, Window.eta, Table.eta, Want.eta, val_sl, val_nil] at hr); cbv) | exact trivial | rfl | refine Both.mk ?_ ?_ | (refine Imp.mk fun h => ?_; (try dsimp only at h); (try simp only [nc, Int.toNat_natCast, Bool.not_eq_true', Bool.not_eq_false', decide_eq_true_eq, decide_eq_false_iff_not, beq_iff_eq, beq_eq_false_iff_ne, ba_inj, bne_iff_ne, ne_eq, Bool.and_eq_true, Bool.or_eq_true, Bool.and_eq_false_iff, Bool.or_eq_false_iff, Int.not_le, Int.not_lt, Nat.not_le, Nat.not_lt] at h); (try simp only [nc] at h)) | refine Ob.mk ?_ ?_ | refine Chk.mk (by kernel_rfl) ?_ | refine Eq'.mk ?_ | (refine AllN.mk fun i hi => ?_; cbv) | (refine AllS.mk fun r hr => ?_; (try simp only [Dat.ok, Dat.dec, Leaf.ok, Leaf.val, Span.eta, Set.eta, Window.eta, Table.eta, Want.eta, val_sl] at hr); cbv)
        all_goals first | rfl | exact (snocW_len _ _).symm
      · cbv
        repeat' first | (refine Stp.mk ?_; cbv) | (refine Gen.mk fun r hr => ?_; (try simp only [Dat.ok, Dat.dec, Leaf.ok, Leaf.val, Span.eta, Set.eta, Window.eta, Table.eta, Want.eta, val_sl, val_nil] at hr); cbv) | exact trivial | rfl | refine Both.mk ?_ ?_ | (refine Imp.mk fun h => ?_; (try dsimp only at h); (try simp only [nc, Int.toNat_natCast, Bool.not_eq_true', Bool.not_eq_false', decide_eq_true_eq, decide_eq_false_iff_not, beq_iff_eq, beq_eq_false_iff_ne, ba_inj, bne_iff_ne, ne_eq, Bool.and_eq_true, Bool.or_eq_true, Bool.and_eq_false_iff, Bool.or_eq_false_iff, Int.not_le, Int.not_lt, Nat.not_le, Nat.not_lt] at h); (try simp only [nc] at h)) | refine Ob.mk ?_ ?_ | refine Chk.mk (by kernel_rfl) ?_ | refine Eq'.mk ?_ | (refine AllN.mk fun i hi => ?_; cbv) | (refine AllS.mk fun r hr => ?_; (try simp only [Dat.ok, Dat.dec, Leaf.ok, Leaf.val, Span.eta, Set.eta, Window.eta, Table.eta, Want.eta, val_sl] at hr); cbv)
        all_goals ((try dsimp only at *); (try simp only [nc, Int.toNat_natCast, Bool.not_eq_true', Bool.not_eq_false', decide_eq_true_eq, decide_eq_false_iff_not, beq_iff_eq, beq_eq_false_iff_ne, ba_inj, bne_iff_ne, ne_eq, Bool.and_eq_true, Bool.or_eq_true, Bool.and_eq_false_iff, Bool.or_eq_false_iff, Int.not_le, Int.not_lt, Nat.not_le, Nat.not_lt] at *); (try simp only [nc] at *))
        all_goals first
          | exact (snocW_len _ _).symm
          | (rw [gd_snoc (init ++ [w]) _ _ _ (by omega)]; cases decide (i < (init ++ [w]).length) <;> rfl)
          | fail
theorem turns_ok : PcOk Try.prog 7 (turns_C) := fun A K h => by
  unfold turns_C at h
  split at h
  · rename_i t frm to
    cases h with
    | mk h1 h2 =>
      obtain ⟨g0, hp⟩ := h1
      refine FnOk.pre ?_ (A' := [.agg (Dat.enc fun _ => (Dat.dec t : Table)), .i .i64 fun _ => frm (), .i .i64 fun _ => to ()]) (.mk (Dat.hle _ g0) (.mk (.mk (.mk rfl) (.mk rfl)) (.mk (.mk (.mk rfl) (.mk rfl)) (trivial))))
      exact FnOk.out (K := fun r H _ => K r H) (turns_vc (Dat.dec t) (frm ()) (to ()) hp) rfl h2.out
  · cases h

end Go.Proofs.Ytadjemhbfaonbaa
