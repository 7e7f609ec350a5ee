/- task.Fits, walked: whether it fits. -/
import Derived.Test.YtnjngpjkhddnfaaGreatDoorTask2
set_option linter.all false
namespace Go.Proofs.YtnjngpjkhddnfaaGreatDoor
open Go Go.Abs

def duesF_R (r : Th ((List Int))) : AV := Leaf.av fun _ => (r ())
def duesF_D : Det := fun A => match A with
 | [l, .i .i64 below] => some (fun _ => Leaf.ok (List Task) l ∧ dues_P (Leaf.val l) (below ()), duesF_R fun _ => duesV (Leaf.val l) (below ()))
 | _ => none
theorem duesF_okF : ∀ A p r, duesF_D A = some (p, r) → p () → FrOk Tryz.prog 48 A r := fun A p r h hp0 => by
 unfold duesF_D at h
 split at h
 · rename_i l below
   cases h
   obtain ⟨g0, hp⟩ := hp0
   exact FnOk.fresh (A := [l, .i .i64 below]) (FnOk.pre (A' := [Leaf.av fun _ => (Leaf.val l : (List Task)), .i .i64 fun _ => below ()]) (dues_vc (Leaf.val l) (below ()) hp) (.mk (Leaf.hle _ g0) (.mk (.mk (.mk rfl) (.mk rfl)) (trivial)))) rfl (q := _) (d := _) rfl (by intro p hp; repeat (first | (cases hp; done) | (rcases List.mem_cons.1 hp with rfl | hp; · exact Nat.le_refl _))) rfl rfl ⟨.mk fun _ _ => rfl, trivial⟩
 · cases h
theorem comesF_mem : ∀ {f : Nat} {n e b m : Int}, 1 ≤ e → m ∈ comesF f n e b → n ≤ m ∧ m < b
 | 0, _, _, _, _, _, h => by simp [comesF] at h
 | f + 1, n, e, b, m, he, h => by
   rw [comesF] at h
   split at h
   · rcases List.mem_cons.1 h with rfl | h
     · omega
     · have := comesF_mem he h; omega
   · simp at h
theorem alls_mem {b : Int} : ∀ {l : List Task} {m : Int}, l.all okT = true → m ∈ allsV b l → 1 ≤ m ∧ m < b
 | [], m, _, h => by simp [allsV] at h
 | t :: r, m, ho, h => by
   simp only [List.all_cons, Bool.and_eq_true] at ho
   have h1 := okT_iff.1 ho.1
   rw [allsV] at h
   rcases List.mem_append.1 h with h | h
   · have := comesF_mem h1.1 h; omega
   · exact alls_mem ho.2 h
theorem compR_mem : ∀ {l : List Int} {a m : Int}, m ∈ compR a l → m ∈ l
 | [], _, _, h => by simp [compR] at h
 | x :: r, a, m, h => by
   rw [compR] at h
   split at h
   · exact List.mem_cons_of_mem _ (compR_mem h)
   · rcases List.mem_cons.1 h with rfl | h
     · simp
     · exact List.mem_cons_of_mem _ (compR_mem h)
theorem compact_mem {l : List Int} {m : Int} (h : m ∈ compactL l) : m ∈ l := by
 cases l with
 | nil => exact h
 | cons x r =>
   rw [compactL] at h
   rcases List.mem_cons.1 h with rfl | h
   · simp
   · exact List.mem_cons_of_mem _ (compR_mem h)
theorem dues_mem {l : List Task} {b m : Int} (ho : l.all okT = true) (h : m ∈ duesV l b) : 1 ≤ m ∧ m < b :=
 alls_mem ho ((List.mergeSort_perm _ _).mem_iff.1 (compact_mem h))
theorem comesF_len : ∀ {f : Nat} {n e b : Int}, (comesF f n e b).length ≤ f
 | 0, _, _, _ => Nat.le_refl _
 | f + 1, n, e, b => by
   rw [comesF]
   split
   · have := @comesF_len f (n + e) e b
     rw [List.length_cons]; omega
   · exact Nat.zero_le _
theorem alls_len {b : Int} : ∀ {l : List Task}, l.all okT = true → (allsV b l).length ≤ l.length * b.toNat
 | [], _ => by simp [allsV]
 | t :: r, ho => by
   simp only [List.all_cons, Bool.and_eq_true] at ho
   have h1 := okT_iff.1 ho.1
   have h2 := alls_len (b := b) ho.2
   have h3 : (comesN t.due t.every b).length ≤ (b - t.due).toNat := comesF_len
   rw [allsV, List.length_append, List.length_cons, Nat.succ_mul]
   omega
theorem compR_len : ∀ {l : List Int} {a : Int}, (compR a l).length ≤ l.length
 | [], _ => Nat.le_refl _
 | x :: r, a => by
   rw [compR]
   split
   · have := @compR_len r a; rw [List.length_cons]; omega
   · have := @compR_len r x; rw [List.length_cons, List.length_cons]; omega
theorem dues_len {l : List Task} {b : Int} (ho : l.all okT = true) : (duesV l b).length ≤ l.length * b.toNat := by
 have h1 := alls_len (b := b) ho
 have h2 : (sortL (allsV b l)).length = (allsV b l).length := List.length_mergeSort _
 unfold duesV
 generalize sortL (allsV b l) = m at *
 cases m with
 | nil => simp [compactL]
 | cons x r =>
   have h3 := @compR_len r x
   rw [compactL, List.length_cons]
   rw [List.length_cons] at h2
   omega
def scanV (l : List Task) (s : Set) : List Int → Bool × Int × Int
 | [] => (true, 0, 0)
 | n :: r => if (boundV s n false).1 < demS n l then (false, n, 0) else scanV l s r
def fitsV (l : List Task) (s : Set) : Bool × Int × Int :=
 if ¬ tchkV l = 0 then (false, 0, tchkV l) else if ¬ checkV s = 0 then (false, 0, checkV s)
 else if ¬ (roundV l).2 = 0 ∨ 50000 < (roundV l).1 then (false, 0, 6)
 else if ¬ (lcmV [(roundV l).1, s.size]).2 = 0 ∨ 50000 < (lcmV [(roundV l).1, s.size]).1 then (false, 0, 6)
 else scanV l s (duesV l ((lcmV [(roundV l).1, s.size]).1 + 1))
theorem scan_drop {l : List Task} {s : Set} {d : List Int} {k : Nat} (hk : k < d.length) : scanV l s (d.drop k) = if (boundV s (d.getD k Dat.d0) false).1 < demS (d.getD k Dat.d0) l then (false, d.getD k Dat.d0, 0) else scanV l s (d.drop (k + 1)) := by
 rw [drop_cons Dat.d0 hk, scanV]
structure FtX (l : List Task) (s : Set) (d : List Int) where
 k : Nat
 hk : k ≤ d.length
 he : scanV l s d = scanV l s (d.drop k)
def fits_R (r : Th (Bool × Int × Int)) : AV := .tup [.b fun _ => (r ()).1, .i .i64 fun _ => (r ()).2.1, .i .i64 fun _ => (r ()).2.2]
def fits_P (l : (List Task)) (s : Set) : Prop := l.length ≤ 9223372036854775807 ∧ s.spans.length ≤ 9223372036854775807
def fits_D : Det := fun A => match A with
 | [l, .agg s] => some (fun _ => Leaf.ok (List Task) l ∧ Dat.ok Set s ∧ fits_P (Leaf.val l) (Dat.dec s), fits_R fun _ => fitsV (Leaf.val l) (Dat.dec s))
 | _ => none
noncomputable def cFt : FuncId → Con := fun f => match f with
 | 45 => pureCon (detPC rnd_D)
 | 36 => pureCon (detPC tchk_D)
 | 46 => pureCon (detPC check_D)
 | 47 => pureCon (detPC lcmN_D)
 | 48 => frCon duesF_D
 | 49 => pureCon (detPC leastP_D)
 | 50 => pureCon (detPC dmd_D)
 | _ => fun _ _ _ => Bad 1001
theorem cFt_ok : ConOk Tryz.prog cFt := fun f A H K h => by
 unfold cFt at h
 split at h
 · exact ⟨⟨Tryz.f45, Tryz.func45, by kernel_rfl, by kernel_rfl⟩, pureCon_ok rnd_ok h⟩
 · exact ⟨⟨Tryz.f36, Tryz.func36, by kernel_rfl, by kernel_rfl⟩, pureCon_ok tchk_ok h⟩
 · exact ⟨⟨Tryz.f46, Tryz.func46, by kernel_rfl, by kernel_rfl⟩, pureCon_ok check_ok h⟩
 · exact ⟨⟨Tryz.f47, Tryz.func47, by kernel_rfl, by kernel_rfl⟩, pureCon_ok lcmN_ok h⟩
 · exact ⟨⟨Tryz.f48, Tryz.func48, by kernel_rfl, by kernel_rfl⟩, frCon_ok duesF_okF h⟩
 · exact ⟨⟨Tryz.f49, Tryz.func49, by kernel_rfl, by kernel_rfl⟩, pureCon_ok leastP_ok h⟩
 · exact ⟨⟨Tryz.f50, Tryz.func50, by kernel_rfl, by kernel_rfl⟩, pureCon_ok dmd_ok h⟩
 · cases h
set_option maxRecDepth 100000 in
set_option maxHeartbeats 4000000 in
theorem fits_vc (l : (List Task)) (s : Set) (hp : fits_P l s) : FnOk Tryz.prog 24 [Leaf.av fun _ => l, .agg (Dat.enc fun _ => s)] [] (outA (fits_R fun _ => fitsV l s) []) := by
 refine fn_ok envOk zl cFt_ok noDraws_ok (keep := [0, 1, 3, 4, 5, 6, 7, 8, 9, 10, 11, 13, 14, 24, 29, 36, 50, 54, 55, 56, 57, 70]) Tryz.func24 rfl ?_
 obtain ⟨p1, p2⟩ : l.length ≤ 9223372036854775807 ∧ s.spans.length ≤ 9223372036854775807 := hp
 have fin : ∀ (a : Bool) (b e : Int) H kl, fitsV l s = (a, b, e) → outA (fits_R fun _ => fitsV l s) [] (.tup [.bc a, .i .i64 fun _ => b, .i .i64 fun _ => e]) H kl := fun a b e H kl h => by
   rw [h]
   cbv
   repeat' first | (refine Stp.mk ?_; cbv) | (refine Gen.mk fun r hr => ?_; (try simp only [Dat.ok, Dat.dec, Leaf.ok, Leaf.val, Z0, Z1, Z2, Z3, Z4, Z5, Z6, Z7, val_sl, val_nil] at hr); cbv) | exact trivial | rfl | refine Both.mk ?_ ?_ | (refine Imp.mk fun h => ?_; (try dsimp only at h); (try simp only [nc, Int.toNat_natCast, ne_eq, zz] at h); (try simp only [nc] at h)) | refine Ob.mk ?_ ?_ | refine Chk.mk (by kernel_rfl) ?_ | refine Eq'.mk ?_ | (refine AllN.mk fun i hi => ?_; cbv) | (refine AllC.mk fun c hc hcm => ?_; (try dsimp only at hc); cbv) | (refine AllS.mk fun r hr => ?_; (try simp only [Dat.ok, Dat.dec, Leaf.ok, Leaf.val, Z0, Z1, Z2, Z3, Z4, Z5, Z6, Z7, val_sl] at hr); cbv)
 generalize outA (fits_R fun _ => fitsV l s) [] = K at fin ⊢
 cbv
 repeat' first | (show Stp _; exfalso; first | omega | (exact h ‹_›) | (exact absurd ‹_› h) | (exact Bool.false_ne_true (h.symm.trans (show _ = true by assumption)))) | (refine Stp.mk ?_; cbv) | (refine Gen.mk fun r hr => ?_; (try simp only [Dat.ok, Dat.dec, Leaf.ok, Leaf.val, Z0, Z1, Z2, Z3, Z4, Z5, Z6, Z7, val_sl, val_nil] at hr); cbv) | exact trivial | rfl | refine Both.mk ?_ ?_ | (refine Imp.mk fun h => ?_; (try dsimp only at h); (try simp only [nc, Int.toNat_natCast, ne_eq, zz] at h); (try simp only [nc] at h)) | refine Ob.mk ?_ ?_ | refine Chk.mk (by kernel_rfl) ?_ | refine Eq'.mk ?_ | (refine AllN.mk fun i hi => ?_; cbv) | (refine AllC.mk fun c hc hcm => ?_; (try dsimp only at hc); cbv) | (refine AllS.mk fun r hr => ?_; (try simp only [Dat.ok, Dat.dec, Leaf.ok, Leaf.val, Z0, Z1, Z2, Z3, Z4, Z5, Z6, Z7, val_sl] at hr); cbv)
 all_goals ((try dsimp only at *); (try simp only [nc, Int.toNat_natCast, ne_eq, zz] at *); (try simp only [nc] at *))
 all_goals try simp only [Dat.dec, Leaf.val, Z0, Z1, Z2, Z3, Z4, Z5, Z6, Z7, val_sl] at *
 all_goals have ev : (slV (.sl 1 (fun _ => 2) (rowN 1 [.i .i64 fun _ => (roundV l).1, .i .i64 fun _ => s.size])) : List Int) = [(roundV l).1, s.size] := rfl
 all_goals try simp only [ev] at *
 all_goals first
   | exact Nat.le_refl _
   | exact ⟨⟨rfl, fun i _ => Dat.hok _⟩, show _ ≤ _ by omega⟩
   | exact ⟨⟨trivial, rfl, fun i _ => Dat.hok _⟩, show _ ≤ _ by omega⟩
   | exact ⟨⟨rfl, fun i (hi : i < 2) => by rcases i with _ | _ | i; all_goals first | trivial | omega⟩, show (2 : Nat) ≤ _ by decide⟩
   | (refine fin _ _ _ _ _ ?_
      first
        | (rw [fitsV, if_pos (by assumption)]; done)
        | (rw [fitsV, if_neg (fun q => q (by assumption)), if_pos (by assumption)]; done)
        | (rw [fitsV, if_neg (fun q => q (by assumption)), if_neg (fun q => q (by assumption)), if_pos (by first | exact .inl (by assumption) | exact .inr (by assumption))]; done)
        | (rw [fitsV, if_neg (fun q => q (by assumption)), if_neg (fun q => q (by assumption)), if_neg (fun q => by rcases q with q | q; exact q (by assumption); omega), if_pos (by first | exact .inl (by assumption) | exact .inr (by assumption))]; done))
   | skip
 all_goals have hlc := lcmV_ok (by assumption : (lcmV [(roundV l).1, s.size]).2 = 0)
 all_goals have hrd := round_ok (by assumption : (roundV l).2 = 0)
 all_goals first
   | (unfold InR; omega)
   | exact ⟨⟨rfl, fun i _ => Dat.hok _⟩, hrd.1, hrd.2.1, by omega, by omega⟩
   | skip
 have hf : fitsV l s = scanV l s (duesV l ((lcmV [(roundV l).1, s.size]).1 + 1)) := by
   rw [fitsV, if_neg (fun q => q (by assumption)), if_neg (fun q => q (by assumption)), if_neg (fun q => by rcases q with q | q; exact q (by assumption); omega), if_neg (fun q => by rcases q with q | q; exact q (by assumption); omega)]
 have hdm : ∀ m ∈ duesV l ((lcmV [(roundV l).1, s.size]).1 + 1), 1 ≤ m ∧ m < (lcmV [(roundV l).1, s.size]).1 + 1 := fun m hm => dues_mem hrd.2.1 hm
 have hdl : (duesV l ((lcmV [(roundV l).1, s.size]).1 + 1)).length ≤ 800016 := by
   have h1 := dues_len (b := (lcmV [(roundV l).1, s.size]).1 + 1) hrd.2.1
   have h2 := Nat.mul_le_mul hrd.1 (show ((lcmV [(roundV l).1, s.size]).1 + 1).toNat ≤ 50001 by omega)
   omega
 generalize hD : duesV l ((lcmV [(roundV l).1, s.size]).1 + 1) = D at *
 try (rename (_ = duesV _ _) => hq; rw [hD] at hq; subst hq)
 refine LoopVC.frame [4, 5, 6, 13, 14, 56, 57, 70] (FtX l s D) (fun x => [(56, .i .i64 fun _ => x.k)]) (fun _ => [(1, .dead)]) [] (fun x => D.length - x.k) ⟨0, Nat.zero_le _, rfl⟩ rfl (fun _ => rfl) ?_ ?_ fun ⟨k, hk, he⟩ => ?_
 iterate 2
   · cbv
     repeat' first | (refine Stp.mk ?_; cbv) | (refine Gen.mk fun r hr => ?_; (try simp only [Dat.ok, Dat.dec, Leaf.ok, Leaf.val, Z0, Z1, Z2, Z3, Z4, Z5, Z6, Z7, val_sl, val_nil] at hr); cbv) | exact trivial | rfl | refine Both.mk ?_ ?_ | (refine Imp.mk fun h => ?_; (try dsimp only at h); (try simp only [nc, Int.toNat_natCast, ne_eq, zz] at h); (try simp only [nc] at h)) | refine Ob.mk ?_ ?_ | refine Chk.mk (by kernel_rfl) ?_ | refine Eq'.mk ?_ | (refine AllN.mk fun i hi => ?_; cbv) | (refine AllC.mk fun c hc hcm => ?_; (try dsimp only at hc); cbv) | (refine AllS.mk fun r hr => ?_; (try simp only [Dat.ok, Dat.dec, Leaf.ok, Leaf.val, Z0, Z1, Z2, Z3, Z4, Z5, Z6, Z7, val_sl] at hr); cbv)
 · cbv
   repeat' first | (show Stp _; exfalso; first | omega | (exact h ‹_›) | (exact absurd ‹_› h) | (exact Bool.false_ne_true (h.symm.trans (show _ = true by assumption)))) | (refine Stp.mk ?_; cbv) | (refine Gen.mk fun r hr => ?_; (try simp only [Dat.ok, Dat.dec, Leaf.ok, Leaf.val, Z0, Z1, Z2, Z3, Z4, Z5, Z6, Z7, val_sl, val_nil] at hr); cbv) | exact trivial | rfl | refine Both.mk ?_ ?_ | (refine Imp.mk fun h => ?_; (try dsimp only at h); (try simp only [nc, Int.toNat_natCast, ne_eq, zz] at h); (try simp only [nc] at h)) | refine Ob.mk ?_ ?_ | refine Chk.mk (by kernel_rfl) ?_ | refine Eq'.mk ?_ | (refine AllN.mk fun i hi => ?_; cbv) | (refine AllC.mk fun c hc hcm => ?_; (try dsimp only at hc); cbv) | (refine AllS.mk fun r hr => ?_; (try simp only [Dat.ok, Dat.dec, Leaf.ok, Leaf.val, Z0, Z1, Z2, Z3, Z4, Z5, Z6, Z7, val_sl] at hr); cbv)
   all_goals ((try dsimp only at *); (try simp only [nc, Int.toNat_natCast, ne_eq, zz] at *); (try simp only [nc] at *))
   all_goals try rw [nc] at *
   all_goals try simp only [Dat.dec, Leaf.val, Z0, Z1, Z2, Z3, Z4, Z5, Z6, Z7, val_sl] at *
   all_goals try (have hk2 : k < D.length := by omega
                  have hm : D.getD k Dat.d0 ∈ D := by
                    rw [List.getD_eq_getElem?_getD, List.getElem?_eq_getElem hk2]
                    exact List.getElem_mem hk2
                  have hb := hdm _ hm)
   all_goals first
     | omega
     | (unfold InR; omega)
     | exact ⟨⟨trivial, rfl, fun i _ => Dat.hok _⟩, show _ ≤ _ by omega⟩
     | exact ⟨⟨rfl, fun i _ => Dat.hok _⟩, hrd.1, hrd.2.1, by omega, by omega⟩
     | (have h0 : (boundV s (D.getD k Dat.d0) false).1 < demS (D.getD k Dat.d0) l := h
        refine fin _ _ _ _ _ ?_
        rw [hf, he, scan_drop hk2, if_pos h0])
     | (have h0 : demS (D.getD k Dat.d0) l ≤ (boundV s (D.getD k Dat.d0) false).1 := h
        refine ⟨⟨k + 1, by omega, by rw [he, scan_drop hk2, if_neg (by omega)]⟩, ?_, ?_, rfl, by (try dsimp only); omega⟩
        · cbv
          repeat' first | (refine Stp.mk ?_; cbv) | (refine Gen.mk fun r hr => ?_; (try simp only [Dat.ok, Dat.dec, Leaf.ok, Leaf.val, Z0, Z1, Z2, Z3, Z4, Z5, Z6, Z7, val_sl, val_nil] at hr); cbv) | exact trivial | rfl | refine Both.mk ?_ ?_ | (refine Imp.mk fun h => ?_; (try dsimp only at h); (try simp only [nc, Int.toNat_natCast, ne_eq, zz] at h); (try simp only [nc] at h)) | refine Ob.mk ?_ ?_ | refine Chk.mk (by kernel_rfl) ?_ | refine Eq'.mk ?_ | (refine AllN.mk fun i hi => ?_; cbv) | (refine AllC.mk fun c hc hcm => ?_; (try dsimp only at hc); cbv) | (refine AllS.mk fun r hr => ?_; (try simp only [Dat.ok, Dat.dec, Leaf.ok, Leaf.val, Z0, Z1, Z2, Z3, Z4, Z5, Z6, Z7, val_sl] at hr); cbv)
        · cbv
          repeat' first | (refine Stp.mk ?_; cbv) | (refine Gen.mk fun r hr => ?_; (try simp only [Dat.ok, Dat.dec, Leaf.ok, Leaf.val, Z0, Z1, Z2, Z3, Z4, Z5, Z6, Z7, val_sl, val_nil] at hr); cbv) | exact trivial | rfl | refine Both.mk ?_ ?_ | (refine Imp.mk fun h => ?_; (try dsimp only at h); (try simp only [nc, Int.toNat_natCast, ne_eq, zz] at h); (try simp only [nc] at h)) | refine Ob.mk ?_ ?_ | refine Chk.mk (by kernel_rfl) ?_ | refine Eq'.mk ?_ | (refine AllN.mk fun i hi => ?_; cbv) | (refine AllC.mk fun c hc hcm => ?_; (try dsimp only at hc); cbv) | (refine AllS.mk fun r hr => ?_; (try simp only [Dat.ok, Dat.dec, Leaf.ok, Leaf.val, Z0, Z1, Z2, Z3, Z4, Z5, Z6, Z7, val_sl] at hr); cbv))
     | (refine fin _ _ _ _ _ ?_
        rw [hf, he, List.drop_eq_nil_of_le (by omega), scanV])
     | fail
theorem fits_ok : PcOk Tryz.prog 24 (detPC fits_D) := det_okA fun A p r h hp0 => by
 unfold fits_D at h
 split at h
 · rename_i l s
   cases h
   obtain ⟨g0, g1, hp⟩ := hp0
   exact ⟨rfl, FnOk.pre (A' := [Leaf.av fun _ => (Leaf.val l : (List Task)), .agg (Dat.enc fun _ => (Dat.dec s : Set))]) (fits_vc (Leaf.val l) (Dat.dec s) hp) (.mk (Leaf.hle _ g0) (.mk (Dat.hle _ g1) (trivial)))⟩
 · cases h

end Go.Proofs.YtnjngpjkhddnfaaGreatDoor
