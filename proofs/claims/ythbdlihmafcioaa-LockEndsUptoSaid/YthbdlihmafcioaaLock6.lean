/- lock.Play: walked. -/
import Derived.Test.YthbdlihmafcioaaLock5
import Derived.Test.YthbdlihmafcioaaLockU
import Derived.Test.YthbdlihmafcioaaAbsG3
import Derived.Test.YthbdlihmafcioaaAbsG4
set_option linter.all false
namespace Go.Proofs.Ythbdlihmafcioaa
open Go Go.Abs

theorem preL {P : Program} {f : FuncId} {A A' : List AV} {H H' : Hp} {K : Kont} (h : FnOk P f A' H' K) (he : H.length = H'.length) (hA : leL H'.length A A') (hH : leH H H') : FnOk P f A H K := by
  intro w M β cp vs hh hA0
  have hβ : cut H'.length β = β := funext fun b => by
    unfold cut
    split
    · rfl
    · exact (hh.out b (by omega)).symm
  have h2 := leH_sound hh hH
  have h3 := leL_sound H'.length A A' _ hA0 hA
  rw [hβ] at h2 h3
  have hb : ∀ k, Blks w β H' k → Blks w β H k := by
    rintro k ⟨b, o, g, hb1, hb2, hb3, hb4⟩
    unfold leH at hH
    rcases leHs_get hH b o hb1 with ⟨x, hx, hxo⟩ | ⟨hlen, _⟩
    · exact ⟨b, x, g, hx, leO_live hxo hb2, hb3, leO_foot x o (hh.obj b x hx) hb3 hxo hb4⟩
    · rw [hh.out b hlen] at hb3; cases hb3
  refine (h w M β cp vs h2 h3).mono ?_
  rintro e w' ⟨v, r, H2, kl, M', β', cp', rfl, hK, hh', hak, hrep⟩
  exact ⟨v, r, H2, kl, M', β', cp', rfl, hK, hh', ⟨hak.keep, hak.bk, ⟨hak.ext.os, hak.ext.tape, hak.ext.output, hak.ext.size, fun k hk hB => hak.ext.block k hk fun h => hB (hb k h), hak.ext.sub, hak.ext.new⟩, fun g hg => (hak.own g hg).imp (hb g) id⟩, hrep⟩
theorem subN_nil : ∀ {l m : List Nat}, subN l [] = true → subN l m = true
  | [], _, _ => rfl
  | x :: r, _, h => by cases h
theorem step_vc {l : List Work} (hl : lckV l = 0) (rn : List Int) {t : Int} {x : HS} (I : Inv l (ceilV l) t x) (ht : t ≤ 20000) (S : Int × HS) (hS : stepV l (ceilV l) t x = S) :
    FnOk Try.prog 14 [.ptr 0 0, .i .i64 fun _ => t] [hsO (fun _ => x.ws.length) (fun _ => rn.length) (fun _ => x.o) fun _ => x.clash, wksO l fun _ => x.ws, vecO 3 fun _ => ceilV l, vecO 3 fun _ => rn, vecO 3 fun _ => x.en] (outLe 5 (.i .i64 fun _ => S.1)
      [hsO (fun _ => x.ws.length) (fun _ => rn.length) (fun _ => S.2.o) fun _ => S.2.clash, wksO l fun _ => S.2.ws, vecO 3 fun _ => ceilV l, vecO 3 fun _ => rn, vecO 3 fun _ => S.2.en] [1]) := by
  have h8 : x.ws.length ≤ 8 := by rw [I.hw]; exact (lck_iff.1 hl).1
  have hh : ∀ q, q < x.ws.length → (x.ws.getD q wk0).h.Nodup ∧ (x.ws.getD q wk0).h.length ≤ (x.ws.getD q wk0).at_ ∧ ∀ n ∈ (x.ws.getD q wk0).h, 0 ≤ n ∧ n < 8 := fun q hq => by
    rw [I.hw] at hq
    have R := I.rest q hq
    have := hAt_ok (lck_get hl hq).2.1 _ R.ha
    rw [R.hh]
    exact ⟨this.1, this.2.1, fun n hn => (this.2.2 n hn).1⟩
  have hn : ∀ q, q < x.ws.length → ∀ n ∈ (x.ws.getD q wk0).h, 0 ≤ n ∧ n < 8 := fun q hq => (hh q hq).2.2
  have hL : ∀ q, q < x.ws.length → (x.ws.getD q wk0).h.length ≤ 1000 := fun q hq => by
    have h1 := (hh q hq).2.1
    rw [I.hw] at hq
    have h2 := (I.rest q hq).ha
    have h3 := (lck_get hl hq).1
    omega
  rcases step_inv hl I with ⟨s1, s2, _⟩ | ⟨b, w, s2, R⟩
  · rw [hS] at s1
    subst s1
    refine FnOk.mono (step0_vc l x.ws (ceilV l) x.o rn x.en x.clash t h8 hn hL ceilV_len (by rw [I.he, I.hw]) s2) fun r H kl hK => ?_
    obtain ⟨k1, k2, k3⟩ := hK
    exact ⟨k1, k2, subN_nil k3⟩
  · have hb := R.hb
    have hR := I.rest b hb
    obtain ⟨g1, g2, g3, g4⟩ := lck_get hl hb
    have hr : (x.ws.getD b wk0).ran ≤ 100 := by
      rcases Int.lt_or_le 0 (x.ws.getD b wk0).ran with z | z
      · obtain ⟨z1, z2, z3⟩ := hR.hn z
        have := (rgt_run z2 (at_step g2 z1)).2.1
        omega
      · omega
    refine step1_vc l x.ws (ceilV l) x.o rn x.en x.clash t b I.hw h8 I.ho hn hL ceilV_len (by rw [I.he, I.hw]) g1 (hh b (by rw [I.hw]; exact hb)).2.1 (rAt (l.getD b Dat.d0).acts (x.ws.getD b wk0).at_) ?_ ⟨hR.hr, hr⟩ ⟨I.ht, ht⟩ (by rw [I.hc]; decide) (by rw [I.hw]; exact hb) s2 S hS
    refine ⟨by rw [hR.hh]; exact rgt_at g2 _, fun _ => ⟨R.ht.2, .inr (hR.hk R.ht.2)⟩, hn b (by rw [I.hw]; exact hb)⟩
inductive StpC (A : List AV) (H : Hp) (K : Kont) : Prop where
  | mk (l : List Work) (rn : List Int) (t : Int) (x : HS) (h1 : lckV l = 0) (h2 : Inv l (ceilV l) t x) (h3 : t ≤ 20000) (h4 : H.length = 5) (h5 : leL 5 A [.ptr 0 0, .i .i64 fun _ => t])
    (h6 : leH H [hsO (fun _ => x.ws.length) (fun _ => rn.length) (fun _ => x.o) fun _ => x.clash, wksO l fun _ => x.ws, vecO 3 fun _ => ceilV l, vecO 3 fun _ => rn, vecO 3 fun _ => x.en])
    (h7 : ∀ S, stepV l (ceilV l) t x = S → K (.i .i64 fun _ => S.1) [hsO (fun _ => x.ws.length) (fun _ => rn.length) (fun _ => S.2.o) fun _ => S.2.clash, wksO l fun _ => S.2.ws, vecO 3 fun _ => ceilV l, vecO 3 fun _ => rn, vecO 3 fun _ => S.2.en] [1])
noncomputable def stp_K : Con := subCon StpC
theorem stp_ok {A : List AV} {H : Hp} {K : Kont} (hv : stp_K A H K) : FnOk Try.prog 14 A H K :=
  subCon_ok (fun {A H K} hv => by
    obtain ⟨l, rn, t, x, h1, h2, h3, h4, h5, h6, h7⟩ := hv
    exact preL (FnOk.le (step_vc h1 rn h2 h3 _ rfl) rfl (h7 _ rfl)) h4 h5 h6) hv
def lkPlay_R (r : Th (Locked × Int)) : AV := .tup [.agg [.own 0 fun _ => (r ()).1.ran.length, .own 1 fun _ => (r ()).1.ends.length, .i .i64 fun _ => (r ()).1.clash], .i .i64 fun _ => (r ()).2]
def lkPlay_H (r : Th (Locked × Int)) : Hp := [vecO 3 fun _ => (r ()).1.ran, vecO 3 fun _ => (r ()).1.ends]
def lkPlay_P (l : (List Work)) (until_ : Int) : Prop := l.length ≤ 9223372036854775807
def lkPlay_C : PC := fun A K => match A with
  | [l, .i .i64 until_] => Ob (fun _ => Leaf.ok (List Work) l ∧ lkPlay_P (Leaf.val l) (until_ ())) (Gen (α := Locked × Int) (fun _ => playLk (Leaf.val l) (until_ ())) fun r => K (lkPlay_R fun _ => r) (lkPlay_H fun _ => r))
  | _ => Bad 1002
noncomputable def cLP : FuncId → Con := fun f => match f with
  | 12 => pureCon (detPC lckC_D)
  | 13 => pureCon ceilC_C
  | 14 => stp_K
  | _ => fun _ _ _ => Bad 1001
theorem cLP_ok : ConOk Try.prog cLP := fun f A H K h => by
  unfold cLP at h
  split at h
  · exact ⟨⟨Try.f12, Try.func12, by kernel_rfl, by kernel_rfl⟩, pureCon_ok lckC_ok h⟩
  · exact ⟨⟨Try.f13, Try.func13, by kernel_rfl, by kernel_rfl⟩, pureCon_ok ceilC_ok h⟩
  · exact ⟨⟨Try.f14, Try.func14, by kernel_rfl, by kernel_rfl⟩, stp_ok h⟩
  · cases h
def dLP : FuncId → Option Dt := fun f => match f with
  | _ => none
theorem dLP_ok : DetOk Try.prog dLP := fun f d h => by
  unfold dLP at h
  split at h
  · cases h
structure PlX (l : List Work) where
  k : Nat
  hk : k ≤ l.length
structure PrX (l : List Work) (u : Nat) where
  k : Nat
  x : HS
  out : List Int
  hk : k ≤ u
  hx : x = (runV l k 0 (h0 l)).2
  ho : out = (runV l k 0 (h0 l)).1
theorem playLk_go {l : List Work} {u : Int} (h : lckV l = 0) (h1 : 0 ≤ u) (h2 : u ≤ 20000) : playLk l u = (⟨(runV l u.toNat 0 (h0 l)).1, (runV l u.toNat 0 (h0 l)).2.en, (runV l u.toNat 0 (h0 l)).2.clash⟩, 0) := by rw [playLk, if_neg (by omega), if_neg (by omega)]
theorem bif_k {α : Type} (f : Nat → α) {i k : Nat} (h : i < k + 1) : (bif decide (k ≤ i) then f k else f i) = f i := by
  by_cases h2 : k ≤ i
  · have : i = k := by omega
    subst this
    rw [decide_eq_true h2, cond_true]
  · rw [decide_eq_false h2, cond_false]
theorem rep_bif {α : Type} (f : Wk → α) {i k : Nat} (h : i < k + 1) {a : α} (ha : a = f wk0) : (bif decide (k ≤ i) then a else f ((List.replicate k wk0).getD i wk0)) = f ((List.replicate (k + 1) wk0).getD i wk0) := by
  rw [rep_get (k + 1) _ _ _ h]
  by_cases h2 : k ≤ i
  · rw [decide_eq_true h2, cond_true, ha]
  · rw [decide_eq_false h2, cond_false, rep_get _ _ _ _ (by omega)]
theorem snocO {l : List Int} {x : Int} {i : Nat} (h : i < l.length + 1) : (bif decide (i < l.length) then l.getD i Dat.d0 else x) = (l ++ [x]).getD i Dat.d0 := by
  have := snocT (x := x) (Nat.le_refl l.length) h
  rwa [List.take_length] at this
theorem run_snoc {l : List Work} {k : Nat} {x : HS} (hx : x = (runV l k 0 (h0 l)).2) : runV l (k + 1) 0 (h0 l) = ((runV l k 0 (h0 l)).1 ++ [(stepV l (ceilV l) k x).1], (stepV l (ceilV l) k x).2) := by
  rw [runV_app, ← hx, Int.zero_add]; rfl
attribute [local irreducible] ceilV stepV
set_option maxRecDepth 100000 in
set_option maxHeartbeats 4000000 in
theorem lkPlay_vc (l : (List Work)) (until_ : Int) (hp : lkPlay_P l until_) : FnOk Try.prog 8 [Leaf.av fun _ => l, .i .i64 fun _ => until_] [] (outA (lkPlay_R fun _ => playLk l until_) (lkPlay_H fun _ => playLk l until_)) := by
  refine fn_ok envOk zl cLP_ok (mixD_ok envOk zl cLP_ok dLP_ok mixed) (keep := [0, 1, 4, 5, 6, 7, 9, 10, 14, 22, 32, 33, 34, 35, 47, 48, 49]) Try.func8 rfl ?_
  have hp' : l.length ≤ 9223372036854775807 := hp
  have fin0 : ∀ (e : Int) kl H, playLk l until_ = (⟨[], [], 0⟩, e) → outA (lkPlay_R fun _ => playLk l until_) (lkPlay_H fun _ => playLk l until_) (.tup [.agg [.nil, .nil, .i .i64 fun _ => 0], .i .i64 fun _ => e]) H kl := fun e kl H h => by
    rw [h]
    cbv
    repeat' first | (refine Stp.mk ?_; cbv) | (refine Gen.mk fun r hr => ?_; (try simp only [Dat.ok, Dat.dec, Leaf.ok, Leaf.val, Act.eta, Work.eta, Locked.eta, val_sl, val_nil] at hr); cbv) | exact trivial | rfl | refine Both.mk ?_ ?_ | (refine Imp.mk fun h => ?_; (try dsimp only at h); (try simp only [nc, Int.toNat_natCast, ne_eq, zz] at h); (try simp only [nc] at h)) | refine Ob.mk ?_ ?_ | refine Chk.mk (by kernel_rfl) ?_ | refine Eq'.mk ?_ | (refine AllN.mk fun i hi => ?_; cbv) | (refine AllC.mk fun c hc hcm => ?_; (try dsimp only at hc); cbv) | (refine AllS.mk fun r hr => ?_; (try simp only [Dat.ok, Dat.dec, Leaf.ok, Leaf.val, Act.eta, Work.eta, Locked.eta, val_sl] at hr); cbv)
    all_goals first | rfl | (exfalso; omega)
  have fin1 : ∀ (a0 a1 a2 a4 : AObj) (x : HS) (out : List Int) (kl : List Nat), x.en.length = l.length → playLk l until_ = (⟨out, x.en, x.clash⟩, 0) → outA (lkPlay_R fun _ => playLk l until_) (lkPlay_H fun _ => playLk l until_) (.tup [.agg [.own 5 fun _ => out.length, .own 3 fun _ => l.length, .i .i64 fun _ => x.clash], .i .i64 fun _ => 0]) [a0, a1, a2, vecO 3 fun _ => x.en, a4, vecO 3 fun _ => out] kl := fun a0 a1 a2 a4 x out kl h1 h => by
    rw [h]
    cbv
    repeat' first | (refine Stp.mk ?_; cbv) | (refine Gen.mk fun r hr => ?_; (try simp only [Dat.ok, Dat.dec, Leaf.ok, Leaf.val, Act.eta, Work.eta, Locked.eta, val_sl, val_nil] at hr); cbv) | exact trivial | rfl | refine Both.mk ?_ ?_ | (refine Imp.mk fun h => ?_; (try dsimp only at h); (try simp only [nc, Int.toNat_natCast, ne_eq, zz] at h); (try simp only [nc] at h)) | refine Ob.mk ?_ ?_ | refine Chk.mk (by kernel_rfl) ?_ | refine Eq'.mk ?_ | (refine AllN.mk fun i hi => ?_; cbv) | (refine AllC.mk fun c hc hcm => ?_; (try dsimp only at hc); cbv) | (refine AllS.mk fun r hr => ?_; (try simp only [Dat.ok, Dat.dec, Leaf.ok, Leaf.val, Act.eta, Work.eta, Locked.eta, val_sl] at hr); cbv)
    all_goals first | rfl | exact h1.symm | omega | fail
  generalize outA (lkPlay_R fun _ => playLk l until_) (lkPlay_H fun _ => playLk l until_) = K at fin0 fin1 ⊢
  cbv
  repeat' first | (show Stp _; exfalso; first | omega | (exact h ‹_›) | (exact absurd ‹_› h) | (exact Bool.false_ne_true (h.symm.trans (show _ = true by assumption)))) | (refine Stp.mk ?_; cbv) | (refine Gen.mk fun r hr => ?_; (try simp only [Dat.ok, Dat.dec, Leaf.ok, Leaf.val, Act.eta, Work.eta, Locked.eta, val_sl, val_nil] at hr); cbv) | exact trivial | rfl | refine Both.mk ?_ ?_ | (refine Imp.mk fun h => ?_; (try dsimp only at h); (try simp only [nc, Int.toNat_natCast, ne_eq, zz] at h); (try simp only [nc] at h)) | refine Ob.mk ?_ ?_ | refine Chk.mk (by kernel_rfl) ?_ | refine Eq'.mk ?_ | (refine AllN.mk fun i hi => ?_; cbv) | (refine AllC.mk fun c hc hcm => ?_; (try dsimp only at hc); cbv) | (refine AllS.mk fun r hr => ?_; (try simp only [Dat.ok, Dat.dec, Leaf.ok, Leaf.val, Act.eta, Work.eta, Locked.eta, val_sl] at hr); cbv)
  all_goals ((try dsimp only at *); (try simp only [nc, Int.toNat_natCast, ne_eq, zz] at *); (try simp only [nc] at *))
  all_goals try simp only [Dat.dec, Leaf.val, Act.eta, Work.eta, Locked.eta, val_sl] at *
  all_goals first
    | exact ⟨⟨rfl, fun i _ => Dat.hok _⟩, by assumption⟩
    | (refine fin0 _ _ _ ?_
       rw [playLk, if_pos (by assumption)]
       done)
    | (refine fin0 _ _ _ ?_
       rw [playLk, if_neg (fun q => q (by assumption)), if_pos (by omega)]
       done)
    | omega
    | (have := (lck_iff.1 (show lckV l = 0 by assumption)).1
       exact ⟨by omega, by omega, by omega, by omega⟩)
    | skip
  have hk0 : lckV l = 0 := by assumption
  have h8 := (lck_iff.1 hk0).1
  have eU := playLk_go hk0 (by assumption) (by assumption)
  have r8 : r.length = 8 := by rw [hr, ceilV_len]
  subst hr
  refine LoopVC.frame [9, 34, 35] (PlX l) (fun x => [(34, .i .i64 fun _ => x.k)]) (fun x => [(2, .blk ([.own 4 fun _ => x.k, .own 1 fun _ => 8] ++ ownC (fun _ => List.replicate 8 0) ++ [.nil, .own 3 fun _ => l.length, .i .i64 fun _ => 0])), (4, wksO l fun _ => List.replicate x.k wk0)]) [4] (fun x => l.length - x.k)
    ⟨0, Nat.zero_le _⟩ rfl (fun _ => rfl) ?_ ?_ fun ⟨k, hk⟩ => ?_
  · cbv
    repeat' first | (refine Stp.mk ?_; cbv) | (refine Gen.mk fun r hr => ?_; (try simp only [Dat.ok, Dat.dec, Leaf.ok, Leaf.val, Act.eta, Work.eta, Locked.eta, val_sl, val_nil] at hr); cbv) | exact trivial | rfl | refine Both.mk ?_ ?_ | (refine Imp.mk fun h => ?_; (try dsimp only at h); (try simp only [nc, Int.toNat_natCast, ne_eq, zz] at h); (try simp only [nc] at h)) | refine Ob.mk ?_ ?_ | refine Chk.mk (by kernel_rfl) ?_ | refine Eq'.mk ?_ | (refine AllN.mk fun i hi => ?_; cbv) | (refine AllC.mk fun c hc hcm => ?_; (try dsimp only at hc); cbv) | (refine AllS.mk fun r hr => ?_; (try simp only [Dat.ok, Dat.dec, Leaf.ok, Leaf.val, Act.eta, Work.eta, Locked.eta, val_sl] at hr); cbv)
  · cbv
    repeat' first | (refine Stp.mk ?_; cbv) | (refine Gen.mk fun r hr => ?_; (try simp only [Dat.ok, Dat.dec, Leaf.ok, Leaf.val, Act.eta, Work.eta, Locked.eta, val_sl, val_nil] at hr); cbv) | exact trivial | rfl | refine Both.mk ?_ ?_ | (refine Imp.mk fun h => ?_; (try dsimp only at h); (try simp only [nc, Int.toNat_natCast, ne_eq, zz] at h); (try simp only [nc] at h)) | refine Ob.mk ?_ ?_ | refine Chk.mk (by kernel_rfl) ?_ | refine Eq'.mk ?_ | (refine AllN.mk fun i hi => ?_; cbv) | (refine AllC.mk fun c hc hcm => ?_; (try dsimp only at hc); cbv) | (refine AllS.mk fun r hr => ?_; (try simp only [Dat.ok, Dat.dec, Leaf.ok, Leaf.val, Act.eta, Work.eta, Locked.eta, val_sl] at hr); cbv)
    all_goals first | exact r8 | fail
  have e9 : ∀ j, j < k + 1 → k ≤ j → l.getD j Dat.d0 = l.getD k Dat.d0 := fun j h1 h2 => by rw [show j = k by omega]
  cbv
  repeat' first | (show Stp _; exfalso; first | omega | (exact h ‹_›) | (exact absurd ‹_› h) | (exact Bool.false_ne_true (h.symm.trans (show _ = true by assumption)))) | (refine Stp.mk ?_; cbv) | (refine Gen.mk fun r hr => ?_; (try simp only [Dat.ok, Dat.dec, Leaf.ok, Leaf.val, Act.eta, Work.eta, Locked.eta, val_sl, val_nil] at hr); cbv) | exact trivial | rfl | refine Both.mk ?_ ?_ | (refine Imp.mk fun h => ?_; (try dsimp only at h); (try simp only [nc, Int.toNat_natCast, ne_eq, zz] at h); (try simp only [nc] at h)) | refine Ob.mk ?_ ?_ | refine Chk.mk (by kernel_rfl) ?_ | refine Eq'.mk ?_ | (refine AllN.mk fun i hi => ?_; cbv) | (refine AllC.mk fun c hc hcm => ?_; (try dsimp only at hc); cbv) | (refine AllS.mk fun r hr => ?_; (try simp only [Dat.ok, Dat.dec, Leaf.ok, Leaf.val, Act.eta, Work.eta, Locked.eta, val_sl] at hr); cbv)
  all_goals ((try dsimp only at *); (try simp only [nc, Int.toNat_natCast, ne_eq, zz] at *); (try simp only [nc] at *))
  all_goals try rw [nc] at *
  all_goals first
    | omega
    | (unfold InR; omega)
    | exact ⟨by omega, by omega⟩
    | exact ⟨trivial, by rw [List.length_replicate], by omega, by omega⟩
    | (refine ⟨⟨k + 1, by omega⟩, ?_, ?_, rfl, by (try dsimp only); omega⟩
       · cbv
         repeat' first | (refine Stp.mk ?_; cbv) | (refine Gen.mk fun r hr => ?_; (try simp only [Dat.ok, Dat.dec, Leaf.ok, Leaf.val, Act.eta, Work.eta, Locked.eta, val_sl, val_nil] at hr); cbv) | exact trivial | rfl | refine Both.mk ?_ ?_ | (refine Imp.mk fun h => ?_; (try dsimp only at h); (try simp only [nc, Int.toNat_natCast, ne_eq, zz] at h); (try simp only [nc] at h)) | refine Ob.mk ?_ ?_ | refine Chk.mk (by kernel_rfl) ?_ | refine Eq'.mk ?_ | (refine AllN.mk fun i hi => ?_; cbv) | (refine AllC.mk fun c hc hcm => ?_; (try dsimp only at hc); cbv) | (refine AllS.mk fun r hr => ?_; (try simp only [Dat.ok, Dat.dec, Leaf.ok, Leaf.val, Act.eta, Work.eta, Locked.eta, val_sl] at hr); cbv)
       · cbv
         repeat' first | (refine Stp.mk ?_; cbv) | (refine Gen.mk fun r hr => ?_; (try simp only [Dat.ok, Dat.dec, Leaf.ok, Leaf.val, Act.eta, Work.eta, Locked.eta, val_sl, val_nil] at hr); cbv) | exact trivial | rfl | refine Both.mk ?_ ?_ | (refine Imp.mk fun h => ?_; (try dsimp only at h); (try simp only [nc, Int.toNat_natCast, ne_eq, zz] at h); (try simp only [nc] at h)) | refine Ob.mk ?_ ?_ | refine Chk.mk (by kernel_rfl) ?_ | refine Eq'.mk ?_ | (refine AllN.mk fun i hi => ?_; cbv) | (refine AllC.mk fun c hc hcm => ?_; (try dsimp only at hc); cbv) | (refine AllS.mk fun r hr => ?_; (try simp only [Dat.ok, Dat.dec, Leaf.ok, Leaf.val, Act.eta, Work.eta, Locked.eta, val_sl] at hr); cbv)
         all_goals ((try dsimp only at *); (try simp only [nc, Int.toNat_natCast, ne_eq, zz] at *); (try simp only [nc] at *))
         all_goals first
           | rfl
           | omega
           | (simp only [List.length_replicate] at *; done)
           | (simp only [List.length_replicate] at *; first | rfl | omega)
           | exact bif_k (fun x => (l.getD x Dat.d0).came) (by assumption)
           | exact rep_bif (fun x => (x.at_ : Int)) (by assumption) rfl
           | exact rep_bif (fun x => x.ran) (by assumption) rfl
           | exact congrArg (fun w => ((w : Work).acts.getD _ Dat.d0).kind) (e9 _ (by assumption) (by assumption)).symm
           | exact congrArg (fun w => ((w : Work).acts.getD _ Dat.d0).n) (e9 _ (by assumption) (by assumption)).symm
           | exact congrArg (fun w => (w : Work).acts.length) (e9 _ (by assumption) (by assumption)).symm
           | (rw [rep_get _ _ _ _ (by assumption)]
              first
                | rfl
                | (rw [rep_get _ _ _ _ (by omega)]; done))
           | (exfalso
              have hi9 : _ < (List.getD _ _ _ : Wk).h.length := hi
              rw [rep_get _ _ _ _ (by assumption)] at hi9
              exact absurd hi9 (Nat.not_lt_zero _))
           | fail)
    | skip
  have I0 := inv0 hk0
  refine LoopVC.frame [10, 48, 49] (PrX l until_.toNat) (fun x => [(48, .i .i64 fun _ => x.k)]) (fun x => [(2, .blk ([.own 4 fun _ => x.x.ws.length, .own 1 fun _ => 8] ++ ownC (fun _ => x.x.o) ++ [.own 5 fun _ => x.out.length, .own 3 fun _ => l.length, .i .i64 fun _ => x.x.clash])), (3, vecO 3 fun _ => x.x.en), (4, wksO l fun _ => x.x.ws), (5, vecO 3 fun _ => x.out)]) [4, 5] (fun x => until_.toNat - x.k)
    ⟨0, h0 l, [], Nat.zero_le _, rfl, rfl⟩ rfl (fun _ => rfl) ?_ ?_ fun ⟨k2, x, out, hk2, hx, ho⟩ => ?_
  · cbv
    repeat' first | (refine Stp.mk ?_; cbv) | (refine Gen.mk fun r hr => ?_; (try simp only [Dat.ok, Dat.dec, Leaf.ok, Leaf.val, Act.eta, Work.eta, Locked.eta, val_sl, val_nil] at hr); cbv) | exact trivial | rfl | refine Both.mk ?_ ?_ | (refine Imp.mk fun h => ?_; (try dsimp only at h); (try simp only [nc, Int.toNat_natCast, ne_eq, zz] at h); (try simp only [nc] at h)) | refine Ob.mk ?_ ?_ | refine Chk.mk (by kernel_rfl) ?_ | refine Eq'.mk ?_ | (refine AllN.mk fun i hi => ?_; cbv) | (refine AllC.mk fun c hc hcm => ?_; (try dsimp only at hc); cbv) | (refine AllS.mk fun r hr => ?_; (try simp only [Dat.ok, Dat.dec, Leaf.ok, Leaf.val, Act.eta, Work.eta, Locked.eta, val_sl] at hr); cbv)
  · have ek : k = l.length := by omega
    subst ek
    have hz : ∀ i, i < l.length → (List.replicate l.length (0 : Int)).getD i Dat.d0 = 0 := fun i hi => rep_get _ _ _ _ hi
    cbv
    repeat' first | (refine Stp.mk ?_; cbv) | (refine Gen.mk fun r hr => ?_; (try simp only [Dat.ok, Dat.dec, Leaf.ok, Leaf.val, Act.eta, Work.eta, Locked.eta, val_sl, val_nil] at hr); cbv) | exact trivial | rfl | refine Both.mk ?_ ?_ | (refine Imp.mk fun h => ?_; (try dsimp only at h); (try simp only [nc, Int.toNat_natCast, ne_eq, zz] at h); (try simp only [nc] at h)) | refine Ob.mk ?_ ?_ | refine Chk.mk (by kernel_rfl) ?_ | refine Eq'.mk ?_ | (refine AllN.mk fun i hi => ?_; cbv) | (refine AllC.mk fun c hc hcm => ?_; (try dsimp only at hc); cbv) | (refine AllS.mk fun r hr => ?_; (try simp only [Dat.ok, Dat.dec, Leaf.ok, Leaf.val, Act.eta, Work.eta, Locked.eta, val_sl] at hr); cbv)
    all_goals first
      | rfl
      | exact (List.length_replicate).symm
      | exact (hz _ (by assumption)).symm
      | fail
  have I := run_I hk0 (n := k2) I0
  rw [← hx, Int.zero_add] at I
  cbv
  refine Both.mk ?_ ?_
  · refine Imp.mk fun h => ?_
    refine Stp.mk ?_
    cbv
    have hk3 : k2 < until_.toNat := by
      have h9 := of_decide_eq_true h
      have h9 : (k2 : Int) < until_ := h9
      omega
    have rs : ∀ S, stepV l (ceilV l) k2 x = S → runV l (k2 + 1) 0 (h0 l) = ((runV l k2 0 (h0 l)).1 ++ [S.1], S.2) := fun S h => by rw [← h]; exact run_snoc hx
    have IS : ∀ S, stepV l (ceilV l) k2 x = S → S.2.ws.length = l.length := fun S h => by rw [← h]; exact (step_I hk0 I).hw
    have hol : out.length = k2 := by rw [ho, runV_len]
    have w5 : leL 5 [.ptr 0 0, .i .i64 fun _ => (k2 : Int)] [.ptr 0 0, .i .i64 fun _ => (k2 : Int)] := by
      cbv
      repeat' first | (refine Stp.mk ?_; cbv) | (refine Gen.mk fun r hr => ?_; (try simp only [Dat.ok, Dat.dec, Leaf.ok, Leaf.val, Act.eta, Work.eta, Locked.eta, val_sl, val_nil] at hr); cbv) | exact trivial | rfl | refine Both.mk ?_ ?_ | (refine Imp.mk fun h => ?_; (try dsimp only at h); (try simp only [nc, Int.toNat_natCast, ne_eq, zz] at h); (try simp only [nc] at h)) | refine Ob.mk ?_ ?_ | refine Chk.mk (by kernel_rfl) ?_ | refine Eq'.mk ?_ | (refine AllN.mk fun i hi => ?_; cbv) | (refine AllC.mk fun c hc hcm => ?_; (try dsimp only at hc); cbv) | (refine AllS.mk fun r hr => ?_; (try simp only [Dat.ok, Dat.dec, Leaf.ok, Leaf.val, Act.eta, Work.eta, Locked.eta, val_sl] at hr); cbv)
    repeat' refine Both.mk ?_ ?_
    all_goals try exact trivial
    all_goals refine StpC.mk l out k2 x hk0 I (by omega) rfl w5 ?_ fun S hS => ?_
    · cbv
      repeat' first | (refine Stp.mk ?_; cbv) | (refine Gen.mk fun r hr => ?_; (try simp only [Dat.ok, Dat.dec, Leaf.ok, Leaf.val, Act.eta, Work.eta, Locked.eta, val_sl, val_nil] at hr); cbv) | exact trivial | rfl | refine Both.mk ?_ ?_ | (refine Imp.mk fun h => ?_; (try dsimp only at h); (try simp only [nc, Int.toNat_natCast, ne_eq, zz] at h); (try simp only [nc] at h)) | refine Ob.mk ?_ ?_ | refine Chk.mk (by kernel_rfl) ?_ | refine Eq'.mk ?_ | (refine AllN.mk fun i hi => ?_; cbv) | (refine AllC.mk fun c hc hcm => ?_; (try dsimp only at hc); cbv) | (refine AllS.mk fun r hr => ?_; (try simp only [Dat.ok, Dat.dec, Leaf.ok, Leaf.val, Act.eta, Work.eta, Locked.eta, val_sl] at hr); cbv)
      all_goals exact I.hw.symm
    rotate_left 1
    · cbv
      repeat' first | (refine Stp.mk ?_; cbv) | (refine Gen.mk fun r hr => ?_; (try simp only [Dat.ok, Dat.dec, Leaf.ok, Leaf.val, Act.eta, Work.eta, Locked.eta, val_sl, val_nil] at hr); cbv) | exact trivial | rfl | refine Both.mk ?_ ?_ | (refine Imp.mk fun h => ?_; (try dsimp only at h); (try simp only [nc, Int.toNat_natCast, ne_eq, zz] at h); (try simp only [nc] at h)) | refine Ob.mk ?_ ?_ | refine Chk.mk (by kernel_rfl) ?_ | refine Eq'.mk ?_ | (refine AllN.mk fun i hi => ?_; cbv) | (refine AllC.mk fun c hc hcm => ?_; (try dsimp only at hc); cbv) | (refine AllS.mk fun r hr => ?_; (try simp only [Dat.ok, Dat.dec, Leaf.ok, Leaf.val, Act.eta, Work.eta, Locked.eta, val_sl] at hr); cbv)
      all_goals exact I.hw.symm
    all_goals cbv
    repeat' first | (refine Stp.mk ?_; cbv) | (refine Gen.mk fun r hr => ?_; (try simp only [Dat.ok, Dat.dec, Leaf.ok, Leaf.val, Act.eta, Work.eta, Locked.eta, val_sl, val_nil] at hr); cbv) | exact trivial | rfl | refine Both.mk ?_ ?_ | (refine Imp.mk fun h => ?_; (try dsimp only at h); (try simp only [nc, Int.toNat_natCast, ne_eq, zz] at h); (try simp only [nc] at h)) | refine Ob.mk ?_ ?_ | refine Chk.mk (by kernel_rfl) ?_ | refine Eq'.mk ?_ | (refine AllN.mk fun i hi => ?_; cbv) | (refine AllC.mk fun c hc hcm => ?_; (try dsimp only at hc); cbv) | (refine AllS.mk fun r hr => ?_; (try simp only [Dat.ok, Dat.dec, Leaf.ok, Leaf.val, Act.eta, Work.eta, Locked.eta, val_sl] at hr); cbv)
    all_goals first
      | (exact ⟨Nat.le_refl _, Nat.le_refl _, by (try dsimp only); omega, by (try dsimp only); omega⟩)
      | (show InR ((k2 : Int) + 1); unfold InR; omega)
      | (refine ⟨⟨k2 + 1, S.2, out ++ [S.1], by omega, by rw [rs S hS], by rw [rs S hS, ho]⟩, ?_, ?_, rfl, by (try dsimp only); omega⟩
         · cbv
           repeat' first | (refine Stp.mk ?_; cbv) | (refine Gen.mk fun r hr => ?_; (try simp only [Dat.ok, Dat.dec, Leaf.ok, Leaf.val, Act.eta, Work.eta, Locked.eta, val_sl, val_nil] at hr); cbv) | exact trivial | rfl | refine Both.mk ?_ ?_ | (refine Imp.mk fun h => ?_; (try dsimp only at h); (try simp only [nc, Int.toNat_natCast, ne_eq, zz] at h); (try simp only [nc] at h)) | refine Ob.mk ?_ ?_ | refine Chk.mk (by kernel_rfl) ?_ | refine Eq'.mk ?_ | (refine AllN.mk fun i hi => ?_; cbv) | (refine AllC.mk fun c hc hcm => ?_; (try dsimp only at hc); cbv) | (refine AllS.mk fun r hr => ?_; (try simp only [Dat.ok, Dat.dec, Leaf.ok, Leaf.val, Act.eta, Work.eta, Locked.eta, val_sl] at hr); cbv)
           all_goals first
             | exact I.hw.trans (IS S hS).symm
             | exact I.hw
             | (simp; done)
             | fail
         · cbv
           repeat' first | (refine Stp.mk ?_; cbv) | (refine Gen.mk fun r hr => ?_; (try simp only [Dat.ok, Dat.dec, Leaf.ok, Leaf.val, Act.eta, Work.eta, Locked.eta, val_sl, val_nil] at hr); cbv) | exact trivial | rfl | refine Both.mk ?_ ?_ | (refine Imp.mk fun h => ?_; (try dsimp only at h); (try simp only [nc, Int.toNat_natCast, ne_eq, zz] at h); (try simp only [nc] at h)) | refine Ob.mk ?_ ?_ | refine Chk.mk (by kernel_rfl) ?_ | refine Eq'.mk ?_ | (refine AllN.mk fun i hi => ?_; cbv) | (refine AllC.mk fun c hc hcm => ?_; (try dsimp only at hc); cbv) | (refine AllS.mk fun r hr => ?_; (try simp only [Dat.ok, Dat.dec, Leaf.ok, Leaf.val, Act.eta, Work.eta, Locked.eta, val_sl] at hr); cbv)
           all_goals ((try dsimp only at *); (try simp only [nc, Int.toNat_natCast, ne_eq, zz] at *); (try simp only [nc] at *))
           all_goals first
             | exact I.hw.trans (IS S hS).symm
             | exact I.hw
             | (simp; done)
             | exact snocO (by assumption)
             | fail)
      | fail
  · refine Imp.mk fun h => ?_
    refine Stp.mk ?_
    have hk3 : k2 = until_.toNat := by
      have h9 := of_decide_eq_false h
      have h9 : ¬ (k2 : Int) < until_ := h9
      omega
    cbv
    repeat' first | (refine Stp.mk ?_; cbv) | (refine Gen.mk fun r hr => ?_; (try simp only [Dat.ok, Dat.dec, Leaf.ok, Leaf.val, Act.eta, Work.eta, Locked.eta, val_sl, val_nil] at hr); cbv) | exact trivial | rfl | refine Both.mk ?_ ?_ | (refine Imp.mk fun h => ?_; (try dsimp only at h); (try simp only [nc, Int.toNat_natCast, ne_eq, zz] at h); (try simp only [nc] at h)) | refine Ob.mk ?_ ?_ | refine Chk.mk (by kernel_rfl) ?_ | refine Eq'.mk ?_ | (refine AllN.mk fun i hi => ?_; cbv) | (refine AllC.mk fun c hc hcm => ?_; (try dsimp only at hc); cbv) | (refine AllS.mk fun r hr => ?_; (try simp only [Dat.ok, Dat.dec, Leaf.ok, Leaf.val, Act.eta, Work.eta, Locked.eta, val_sl] at hr); cbv)
    all_goals first
      | exact fin1 _ _ _ _ x out _ I.he (by rw [eU, hx, ho, hk3])
      | fail
theorem lkPlay_ok : PcOk Try.prog 8 (lkPlay_C) := fun A K h => by
  unfold lkPlay_C at h
  split at h
  · rename_i l until_
    cases h with
    | mk h1 h2 =>
      obtain ⟨g0, hp⟩ := h1
      refine FnOk.pre ?_ (A' := [Leaf.av fun _ => (Leaf.val l : (List Work)), .i .i64 fun _ => until_ ()]) (.mk (Leaf.hle _ g0) (.mk (.mk (.mk rfl) (.mk rfl)) (trivial)))
      exact FnOk.out (K := fun r H _ => K r H) (lkPlay_vc (Leaf.val l) (until_ ()) hp) rfl h2.out
  · cases h

end Go.Proofs.Ythbdlihmafcioaa
