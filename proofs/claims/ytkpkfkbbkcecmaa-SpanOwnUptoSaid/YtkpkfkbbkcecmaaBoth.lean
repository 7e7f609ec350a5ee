/- The program's functions, walked: Both. -/
import Derived.Test.YtkpkfkbbkcecmaaNot
import Derived.Test.YtkpkfkbbkcecmaaBothB
import Derived.Test.YtkpkfkbbkcecmaaAbsG4
set_option linter.all false
namespace Go.Proofs.Ytkpkfkbbkcecmaa
open Go Go.Abs
def notF_R (r : Th (Set)) : AV := .agg [.i .i64 fun _ => (r ()).size, Leaf.av fun _ => (r ()).spans]
def notF_D : Det := fun A => match A with
  | [.agg s] => some (fun _ => Dat.ok Set s ∧ notC_P (Dat.dec s), notF_R fun _ => notV (Dat.dec s))
  | _ => none
theorem notF_ok : PcOk Try.prog 33 (detPC notF_D) := det_okF fun A p r h hp0 => by
  unfold notF_D at h
  split at h
  · rename_i s
    cases h
    obtain ⟨g0, hp⟩ := hp0
    exact FnOk.froz (FnOk.pre (A' := [.agg (Dat.enc fun _ => (Dat.dec s : Set))]) (notC_vc (Dat.dec s) hp) (.mk (Dat.hle _ g0) (trivial))) rfl (q := _) (d := _) rfl (by intro p hp; repeat (first | (cases hp; done) | (rcases List.mem_cons.1 hp with rfl | hp; · exact Nat.le_refl _))) rfl ⟨rfl, rfl⟩
  · cases h
theorem notF_okF : ∀ A p r, notF_D A = some (p, r) → p () → FrOk Try.prog 33 A r := fun A p r h hp0 => by
  unfold notF_D at h
  split at h
  · rename_i s
    cases h
    obtain ⟨g0, hp⟩ := hp0
    exact FnOk.fresh (A := [.agg s]) (FnOk.pre (A' := [.agg (Dat.enc fun _ => (Dat.dec s : Set))]) (notC_vc (Dat.dec s) hp) (.mk (Dat.hle _ g0) (trivial))) rfl (q := _) (d := _) rfl (by intro p hp; repeat (first | (cases hp; done) | (rcases List.mem_cons.1 hp with rfl | hp; · exact Nat.le_refl _))) rfl rfl ⟨.mk fun _ _ => rfl, trivial⟩
  · cases h
def bothF_R (r : Th (Set)) : AV := .agg [.i .i64 fun _ => (r ()).size, Leaf.av fun _ => (r ()).spans]
def bothF_D : Det := fun A => match A with
  | [.agg a, .agg b] => some (fun _ => Dat.ok Set a ∧ Dat.ok Set b ∧ bothC_P (Dat.dec a) (Dat.dec b), bothF_R fun _ => bothV (Dat.dec a) (Dat.dec b))
  | _ => none
theorem bothF_ok : PcOk Try.prog 32 (detPC bothF_D) := det_okF fun A p r h hp0 => by
  unfold bothF_D at h
  split at h
  · rename_i a b
    cases h
    obtain ⟨g0, g1, hp⟩ := hp0
    exact FnOk.froz (FnOk.pre (A' := [.agg (Dat.enc fun _ => (Dat.dec a : Set)), .agg (Dat.enc fun _ => (Dat.dec b : Set))]) (bothC_vc (Dat.dec a) (Dat.dec b) hp) (.mk (Dat.hle _ g0) (.mk (Dat.hle _ g1) (trivial)))) rfl (q := _) (d := _) rfl (by intro p hp; repeat (first | (cases hp; done) | (rcases List.mem_cons.1 hp with rfl | hp; · exact Nat.le_refl _))) rfl ⟨rfl, rfl⟩
  · cases h
theorem bothF_okF : ∀ A p r, bothF_D A = some (p, r) → p () → FrOk Try.prog 32 A r := fun A p r h hp0 => by
  unfold bothF_D at h
  split at h
  · rename_i a b
    cases h
    obtain ⟨g0, g1, hp⟩ := hp0
    exact FnOk.fresh (A := [.agg a, .agg b]) (FnOk.pre (A' := [.agg (Dat.enc fun _ => (Dat.dec a : Set)), .agg (Dat.enc fun _ => (Dat.dec b : Set))]) (bothC_vc (Dat.dec a) (Dat.dec b) hp) (.mk (Dat.hle _ g0) (.mk (Dat.hle _ g1) (trivial)))) rfl (q := _) (d := _) rfl (by intro p hp; repeat (first | (cases hp; done) | (rcases List.mem_cons.1 hp with rfl | hp; · exact Nat.le_refl _))) rfl rfl ⟨.mk fun _ _ => rfl, trivial⟩
  · cases h
def fewC_R (r : Th (Set × Int)) : AV := .tup [.agg [.i .i64 fun _ => (r ()).1.size, Leaf.av fun _ => (r ()).1.spans], .i .i64 fun _ => (r ()).2]
def fewC_P (s : Set) : Prop := s.spans.length ≤ 9223372036854775807
def fewC_D : Det := fun A => match A with
  | [.agg s] => some (fun _ => Dat.ok Set s ∧ fewC_P (Dat.dec s), fewC_R fun _ => fewV (Dat.dec s))
  | _ => none
set_option maxRecDepth 100000 in
set_option maxHeartbeats 4000000 in
theorem fewC_vc (s : Set) (hp : fewC_P s) : FnOk Try.prog 31 [.agg (Dat.enc fun _ => s)] [] (outA (fewC_R fun _ => fewV s) []) := by
  refine fn_ok envOk zl noCon_ok noDraws_ok (keep := [0, 1, 2, 3, 7]) Try.func31 rfl ?_
  have hp' : s.spans.length ≤ 9223372036854775807 := hp
  cbv
  repeat' first | (refine Stp.mk ?_; cbv) | (refine Gen.mk fun r hr => ?_; (try simp only [Dat.ok, Dat.dec, Leaf.ok, Leaf.val, Span.eta, Set.eta, val_sl, val_nil] at hr); cbv) | exact trivial | rfl | refine Both.mk ?_ ?_ | (refine Imp.mk fun h => ?_; (try dsimp only at h); (try simp only [nc, Int.toNat_natCast, Bool.not_eq_true', Bool.not_eq_false', decide_eq_true_eq, decide_eq_false_iff_not, beq_iff_eq, beq_eq_false_iff_ne, ba_inj, bne_iff_ne, ne_eq, Bool.and_eq_true, Bool.or_eq_true, Bool.and_eq_false_iff, Bool.or_eq_false_iff, Int.not_le, Int.not_lt, Nat.not_le, Nat.not_lt] at h); (try simp only [nc] at h)) | refine Ob.mk ?_ ?_ | refine Chk.mk (by kernel_rfl) ?_ | refine Eq'.mk ?_ | (refine AllN.mk fun i hi => ?_; cbv) | (refine AllC.mk fun c hc hcm => ?_; (try dsimp only at hc); cbv) | (refine AllS.mk fun r hr => ?_; (try simp only [Dat.ok, Dat.dec, Leaf.ok, Leaf.val, Span.eta, Set.eta, val_sl] at hr); cbv)
  all_goals ((try dsimp only at *); (try simp only [nc, Int.toNat_natCast, Bool.not_eq_true', Bool.not_eq_false', decide_eq_true_eq, decide_eq_false_iff_not, beq_iff_eq, beq_eq_false_iff_ne, ba_inj, bne_iff_ne, ne_eq, Bool.and_eq_true, Bool.or_eq_true, Bool.and_eq_false_iff, Bool.or_eq_false_iff, Int.not_le, Int.not_lt, Nat.not_le, Nat.not_lt] at *); (try simp only [nc] at *))
  all_goals first
    | (have e : fewV s = (⟨0, []⟩, 2) := if_pos (by omega)
       rw [e]; done)
    | (have e : fewV s = (⟨0, []⟩, 2) := if_pos (by omega)
       rw [e]; rfl)
    | (have e : fewV s = (s, 0) := if_neg (by omega)
       rw [e]; done)
    | fail
theorem fewC_ok : PcOk Try.prog 31 (detPC fewC_D) := det_okA fun A p r h hp0 => by
  unfold fewC_D at h
  split at h
  · rename_i s
    cases h
    obtain ⟨g0, hp⟩ := hp0
    exact ⟨rfl, FnOk.pre (A' := [.agg (Dat.enc fun _ => (Dat.dec s : Set))]) (fewC_vc (Dat.dec s) hp) (.mk (Dat.hle _ g0) (trivial))⟩
  · cases h
theorem bothR_len : ∀ (k : Nat) (l m : List Span), l.length + m.length ≤ k → (bothR l m).length ≤ l.length + m.length
  | _, [], m, _ => by rw [bothR_nil (.inl rfl)]; simp
  | _, x :: l, [], _ => by rw [bothR_nil (.inr rfl)]; simp
  | 0, x :: l, y :: m, hk => by simp at hk
  | k + 1, x :: l, y :: m, hk => by
    simp only [List.length_cons] at hk
    have h1 := bothR_len k l (y :: m) (by simp only [List.length_cons]; omega)
    have h2 := bothR_len k (x :: l) m (by simp only [List.length_cons]; omega)
    simp only [List.length_cons] at h1 h2
    rw [bothR]
    split <;> split <;> simp only [List.length_append, List.length_cons, List.length_nil] <;> omega
def eitherP (a b : Set) : Set × Int := if twoV a b = 0 then fewV (notV (bothV (notV a) (notV b))) else (⟨0, []⟩, twoV a b)
def eithC_R (r : Th (Set × Int)) : AV := .tup [.agg [.i .i64 fun _ => (r ()).1.size, Leaf.av fun _ => (r ()).1.spans], .i .i64 fun _ => (r ()).2]
def eithC_P (a : Set) (b : Set) : Prop := a.spans.length ≤ 9223372036854775807 ∧ b.spans.length ≤ 9223372036854775807
def eithC_D : Det := fun A => match A with
  | [.agg a, .agg b] => some (fun _ => Dat.ok Set a ∧ Dat.ok Set b ∧ eithC_P (Dat.dec a) (Dat.dec b), eithC_R fun _ => eitherP (Dat.dec a) (Dat.dec b))
  | _ => none
noncomputable def cEi : FuncId → Con := fun f => match f with
  | 30 => pureCon (detPC two_D)
  | _ => fun _ _ _ => Bad 1001
theorem cEi_ok : ConOk Try.prog cEi := fun f A H K h => by
  unfold cEi at h
  split at h
  · exact ⟨⟨Try.f30, Try.func30, by kernel_rfl, by kernel_rfl⟩, pureCon_ok two_ok h⟩
  · cases h
def dEi : FuncId → Option Dt := fun f => match f with
  | 33 => some (.f notF_D)
  | 32 => some (.f bothF_D)
  | 31 => some (.c fewC_D)
  | _ => none
theorem dEi_ok : DetOk Try.prog dEi := fun f d h => by
  unfold dEi at h
  split at h
  · cases h; exact ⟨⟨Try.f33, Try.func33, by kernel_rfl, by kernel_rfl⟩, notF_okF⟩
  · cases h; exact ⟨⟨Try.f32, Try.func32, by kernel_rfl, by kernel_rfl⟩, bothF_okF⟩
  · cases h; exact ⟨⟨Try.f31, Try.func31, by kernel_rfl, by kernel_rfl⟩, fewC_ok⟩
  · cases h
set_option maxRecDepth 100000 in
set_option maxHeartbeats 4000000 in
theorem eithC_vc (a : Set) (b : Set) (hp : eithC_P a b) : FnOk Try.prog 19 [.agg (Dat.enc fun _ => a), .agg (Dat.enc fun _ => b)] [] (outA (eithC_R fun _ => eitherP a b) []) := by
  refine fn_ok envOk zl cEi_ok (draws_ok envOk zl dEi_ok mixed) (keep := [0, 1, 2, 3, 4, 5, 6, 11]) Try.func19 rfl ?_
  obtain ⟨hp1, hp2⟩ : a.spans.length ≤ 9223372036854775807 ∧ b.spans.length ≤ 9223372036854775807 := hp
  cbv
  repeat' first | (refine Stp.mk ?_; cbv) | (refine Gen.mk fun r hr => ?_; (try simp only [Dat.ok, Dat.dec, Leaf.ok, Leaf.val, Span.eta, Set.eta, val_sl, val_nil] at hr); cbv) | exact trivial | rfl | refine Both.mk ?_ ?_ | (refine Imp.mk fun h => ?_; (try dsimp only at h); (try simp only [nc, Int.toNat_natCast, Bool.not_eq_true', Bool.not_eq_false', decide_eq_true_eq, decide_eq_false_iff_not, beq_iff_eq, beq_eq_false_iff_ne, ba_inj, bne_iff_ne, ne_eq, Bool.and_eq_true, Bool.or_eq_true, Bool.and_eq_false_iff, Bool.or_eq_false_iff, Int.not_le, Int.not_lt, Nat.not_le, Nat.not_lt] at h); (try simp only [nc] at h)) | refine Ob.mk ?_ ?_ | refine Chk.mk (by kernel_rfl) ?_ | refine Eq'.mk ?_ | (refine AllN.mk fun i hi => ?_; cbv) | (refine AllC.mk fun c hc hcm => ?_; (try dsimp only at hc); cbv) | (refine AllS.mk fun r hr => ?_; (try simp only [Dat.ok, Dat.dec, Leaf.ok, Leaf.val, Span.eta, Set.eta, val_sl] at hr); cbv)
  all_goals ((try dsimp only at *); (try simp only [nc, Int.toNat_natCast, Bool.not_eq_true', Bool.not_eq_false', decide_eq_true_eq, decide_eq_false_iff_not, beq_iff_eq, beq_eq_false_iff_ne, ba_inj, bne_iff_ne, ne_eq, Bool.and_eq_true, Bool.or_eq_true, Bool.and_eq_false_iff, Bool.or_eq_false_iff, Int.not_le, Int.not_lt, Nat.not_le, Nat.not_lt] at *); (try simp only [nc] at *))
  all_goals try simp only [Dat.ok, Dat.dec, Leaf.ok, Leaf.val, Span.eta, Set.eta, val_sl] at *
  all_goals try have hR := two_right (show twoV a b = 0 by assumption)
  all_goals try have hl1 := hR.1.len
  all_goals try have hl2 := hR.2.1.len
  all_goals try have hl3 := @notS_len a.size a.spans 0
  all_goals try have hl4 := @notS_len b.size b.spans 0
  all_goals try have hl5 := bothR_len _ (notS a.size 0 a.spans) (notS b.size 0 b.spans) (Nat.le_refl _)
  all_goals try have hl6 := @notS_len a.size (bothR (notS a.size 0 a.spans) (notS b.size 0 b.spans)) 0
  all_goals first
    | exact ⟨⟨trivial, rfl, fun i _ => Dat.hok _⟩, ⟨trivial, rfl, fun i _ => Dat.hok _⟩, hp1, hp2⟩
    | exact ⟨⟨trivial, rfl, fun i _ => Dat.hok _⟩, show a.spans.length ≤ 1000 by omega⟩
    | exact ⟨⟨trivial, rfl, fun i _ => Dat.hok _⟩, show b.spans.length ≤ 1000 by omega⟩
    | exact ⟨⟨trivial, rfl, fun i _ => Dat.hok _⟩, ⟨trivial, rfl, fun i _ => Dat.hok _⟩, show (notS a.size 0 a.spans).length ≤ 1000 by omega, show (notS b.size 0 b.spans).length ≤ 1000 by omega⟩
    | exact ⟨⟨trivial, rfl, fun i _ => Dat.hok _⟩, show (bothR (notS a.size 0 a.spans) (notS b.size 0 b.spans)).length ≤ 1000 by omega⟩
    | exact ⟨⟨trivial, rfl, fun i _ => Dat.hok _⟩, show (notS a.size 0 (bothR (notS a.size 0 a.spans) (notS b.size 0 b.spans))).length ≤ 9223372036854775807 by omega⟩
    | (have e : eitherP a b = (⟨0, []⟩, twoV a b) := if_neg (by assumption)
       rw [e]; done)
    | (have e : eitherP a b = (⟨0, []⟩, twoV a b) := if_neg (by assumption)
       rw [e]; rfl)
    | (have e : eitherP a b = fewV (notV (bothV (notV a) (notV b))) := if_pos (by assumption)
       rw [e]; done)
    | fail
theorem eithC_ok : PcOk Try.prog 19 (detPC eithC_D) := det_okA fun A p r h hp0 => by
  unfold eithC_D at h
  split at h
  · rename_i a b
    cases h
    obtain ⟨g0, g1, hp⟩ := hp0
    exact ⟨rfl, FnOk.pre (A' := [.agg (Dat.enc fun _ => (Dat.dec a : Set)), .agg (Dat.enc fun _ => (Dat.dec b : Set))]) (eithC_vc (Dat.dec a) (Dat.dec b) hp) (.mk (Dat.hle _ g0) (.mk (Dat.hle _ g1) (trivial)))⟩
  · cases h

end Go.Proofs.Ytkpkfkbbkcecmaa
