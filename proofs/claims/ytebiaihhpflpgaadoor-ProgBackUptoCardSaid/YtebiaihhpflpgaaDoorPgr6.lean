/- prog.Parse: walked. -/
import Derived.Test.YtebiaihhpflpgaaDoorPgr2
import Derived.Test.YtebiaihhpflpgaaDoorPgr3
import Derived.Test.YtebiaihhpflpgaaDoorCodeP
import Derived.Test.YtebiaihhpflpgaaDoorMul
import Derived.Test.YtebiaihhpflpgaaDoorAbsG3
set_option linter.all false
namespace Go.Proofs.YtebiaihhpflpgaaDoor
open Go Go.Abs

noncomputable def rpInsc0 : FuncId → Con := fun f => match f with
  | 57 => pureCon (detPC mul64_D)
  | _ => fun _ _ _ => Bad 1001
theorem rpInsc0_ok : ConOk Tryd.prog rpInsc0 := fun f A H K h => by
  unfold rpInsc0 at h
  split at h
  · exact ⟨⟨Tryd.f57, Tryd.func57, by kernel_rfl, by kernel_rfl⟩, pureCon_ok mul64_ok h⟩
  · cases h
noncomputable def rpInsc1 : FuncId → Con := fun f => match f with
  | 42 => inlCon E rpInsc0 noDraws [0, 1, 4, 5, 6, 7, 8, 9] Tryd.f42
  | _ => fun _ _ _ => Bad 1001
theorem rpInsc1_ok : ConOk Tryd.prog rpInsc1 := fun f A H K h => by
  unfold rpInsc1 at h
  split at h
  · exact ⟨⟨Tryd.f42, Tryd.func42, by kernel_rfl, by kernel_rfl⟩, inl_ok envOk zl rpInsc0_ok noDraws_ok Tryd.func42 h⟩
  · cases h
def rpInsd : FuncId → Option Dt := fun f => match f with
  | _ => none
theorem rpInsd_ok : DetOk Tryd.prog rpInsd := fun f d h => by
  unfold rpInsd at h
  split at h
  · cases h
structure rpIns_X (n : Int) where
  k : Nat
  hk : (k : Int) ≤ n
  h1 : 1 ≤ k ∨ n = 0
def rpIns_R (r : Th ((List Ins))) : AV := .own 0 fun _ => (r ()).length
def rpIns_H (r : Th ((List Ins))) : Hp := [vecO 30 fun _ => (r ())]
def rpIns_S (x : (List Ins)) (n : Int) : (List Ins) := List.replicate n.toNat (x.getD 0 Dat.d0)
def rpIns_P (x : (List Ins)) (n : Int) : Prop := x.length = 1 ∧ 0 ≤ n ∧ n ≤ 1000000
def rpIns_C : PC := fun A K => match A with
  | [x, .i .i64 n] => Ob (fun _ => Leaf.ok (List Ins) x ∧ rpIns_P (Leaf.val x) (n ())) (Gen (α := (List Ins)) (fun _ => rpIns_S (Leaf.val x) (n ())) fun r => K (rpIns_R fun _ => r) (rpIns_H fun _ => r))
  | _ => Bad 1002
set_option maxRecDepth 100000 in
set_option maxHeartbeats 4000000 in
theorem rpIns_vc (x : (List Ins)) (n : Int) (hp : rpIns_P x n) : FnOk Tryd.prog 26 [Leaf.av fun _ => x, .i .i64 fun _ => n] [] (outA (rpIns_R fun _ => rpIns_S x n) (rpIns_H fun _ => rpIns_S x n)) := by
  refine fn_ok envOk zl rpInsc1_ok (draws_ok envOk zl rpInsd_ok mixed) (keep := [0, 1, 4, 5, 6, 7, 8, 10, 26, 37]) Tryd.func26 rfl ?_
  obtain ⟨p1, p2, p3⟩ : x.length = 1 ∧ 0 ≤ n ∧ n ≤ 1000000 := hp
  have fin : ∀ kl, outA (rpIns_R fun _ => List.replicate n.toNat (x.getD 0 Dat.d0)) (rpIns_H fun _ => List.replicate n.toNat (x.getD 0 Dat.d0)) (.own 0 fun _ => n.toNat) [vecO 30 fun _ => List.replicate n.toNat (x.getD 0 Dat.d0)] kl := fun kl => by
    cbv
    repeat' first | (refine Stp.mk ?_; cbv) | (refine Gen.mk fun r hr => ?_; (try simp only [Dat.ok, Dat.dec, Leaf.ok, Leaf.val, Z0, Z1, val_sl, val_nil] at hr); cbv) | exact trivial | rfl | refine Both.mk ?_ ?_ | (refine Imp.mk fun h => ?_; (try dsimp only at h); (try simp only [nc, Int.toNat_natCast, ne_eq, zz] at h); (try simp only [nc] at h)) | refine Ob.mk ?_ ?_ | refine Chk.mk (by kernel_rfl) ?_ | refine Eq'.mk ?_ | (refine AllN.mk fun i hi => ?_; cbv) | (refine AllC.mk fun c hc hcm => ?_; (try dsimp only at hc); cbv) | (refine AllS.mk fun r hr => ?_; (try simp only [Dat.ok, Dat.dec, Leaf.ok, Leaf.val, Z0, Z1, val_sl] at hr); cbv)
    all_goals first | (simp; done) | rfl
  have fin2 : outA (rpIns_R fun _ => rpIns_S x n) (rpIns_H fun _ => rpIns_S x n) = outA (rpIns_R fun _ => List.replicate n.toNat (x.getD 0 Dat.d0)) (rpIns_H fun _ => List.replicate n.toNat (x.getD 0 Dat.d0)) := rfl
  rw [fin2]
  clear fin2
  generalize outA (rpIns_R fun _ => List.replicate n.toNat (x.getD 0 Dat.d0)) (rpIns_H fun _ => List.replicate n.toNat (x.getD 0 Dat.d0)) = K at fin ⊢
  have w1 : IntKind.u64.wrap (x.length : Int) = 1 := by rw [wrap_u64 (by omega) (by omega)]; omega
  have w2 : IntKind.u64.wrap n = n := wrap_u64 (by omega) (by omega)
  have hm1 : (mulV 1 n).1 = 0 := by show 1 * n / 18446744073709551616 = 0; omega
  have hm2 : (mulV 1 n).2 = n := by show 1 * n % 18446744073709551616 = n; omega
  have w3 : IntKind.i64.wrap n = n := wrap64_in (by unfold InR; omega)
  cbv
  repeat' first | (show Stp _; exfalso; first | omega | (exact h ‹_›) | (exact absurd ‹_› h) | (exact Bool.false_ne_true (h.symm.trans (show _ = true by assumption)))) | (refine Stp.mk ?_; cbv) | (refine Gen.mk fun r hr => ?_; (try simp only [Dat.ok, Dat.dec, Leaf.ok, Leaf.val, Z0, Z1, val_sl, val_nil] at hr); cbv) | exact trivial | rfl | refine Both.mk ?_ ?_ | (refine Imp.mk fun h => ?_; (try dsimp only at h); (try simp only [nc, Int.toNat_natCast, ne_eq, zz] at h); (try simp only [nc] at h)) | refine Ob.mk ?_ ?_ | refine Chk.mk (by kernel_rfl) ?_ | refine Eq'.mk ?_ | (refine AllN.mk fun i hi => ?_; cbv) | (refine AllC.mk fun c hc hcm => ?_; (try dsimp only at hc); cbv) | (refine AllS.mk fun r hr => ?_; (try simp only [Dat.ok, Dat.dec, Leaf.ok, Leaf.val, Z0, Z1, val_sl] at hr); cbv)
  all_goals ((try dsimp only at *); (try simp only [nc, Int.toNat_natCast, ne_eq, zz] at *); (try simp only [nc] at *))
  all_goals try simp only [w1, w2, hm1, hm2, w3]
  all_goals try simp only [w1, w2, hm1, hm2, w3] at h
  all_goals first
    | omega
    | (unfold InR; omega)
    | (exfalso; omega)
    | exact ⟨by omega, by omega, by omega, by omega⟩
    | exact ⟨trivial, by omega⟩
    | skip
  all_goals have hmin : ((min x.length n.toNat : Nat)) = (if n = 0 then 0 else 1) := by split <;> omega
  refine LoopVC.frame [8, 37] (rpIns_X n) (fun x => [(8, .i .i64 fun _ => x.k)]) (fun y => [(0, vecO 30 fun _ => fillU (x.getD 0 Dat.d0) y.k n.toNat)]) [] (fun x => n.toNat - x.k)
      ⟨if n = 0 then 0 else 1, by split <;> omega, by split <;> omega⟩ rfl (fun _ => rfl) ?_ ?_ fun ⟨k, hk, h1⟩ => ?_
  · cbv
    repeat' first | (refine Stp.mk ?_; cbv) | (refine Gen.mk fun r hr => ?_; (try simp only [Dat.ok, Dat.dec, Leaf.ok, Leaf.val, Z0, Z1, val_sl, val_nil] at hr); cbv) | exact trivial | rfl | refine Both.mk ?_ ?_ | (refine Imp.mk fun h => ?_; (try dsimp only at h); (try simp only [nc, Int.toNat_natCast, ne_eq, zz] at h); (try simp only [nc] at h)) | refine Ob.mk ?_ ?_ | refine Chk.mk (by kernel_rfl) ?_ | refine Eq'.mk ?_ | (refine AllN.mk fun i hi => ?_; cbv) | (refine AllC.mk fun c hc hcm => ?_; (try dsimp only at hc); cbv) | (refine AllS.mk fun r hr => ?_; (try simp only [Dat.ok, Dat.dec, Leaf.ok, Leaf.val, Z0, Z1, val_sl] at hr); cbv)
    all_goals ((try dsimp only at *); (try simp only [nc, Int.toNat_natCast, ne_eq, zz] at *); (try simp only [nc] at *))
    all_goals try simp only [hmin]
    all_goals first | rfl | (split <;> rfl) | fail
  · cbv
    repeat' first | (refine Stp.mk ?_; cbv) | (refine Gen.mk fun r hr => ?_; (try simp only [Dat.ok, Dat.dec, Leaf.ok, Leaf.val, Z0, Z1, val_sl, val_nil] at hr); cbv) | exact trivial | rfl | refine Both.mk ?_ ?_ | (refine Imp.mk fun h => ?_; (try dsimp only at h); (try simp only [nc, Int.toNat_natCast, ne_eq, zz] at h); (try simp only [nc] at h)) | refine Ob.mk ?_ ?_ | refine Chk.mk (by kernel_rfl) ?_ | refine Eq'.mk ?_ | (refine AllN.mk fun i hi => ?_; cbv) | (refine AllC.mk fun c hc hcm => ?_; (try dsimp only at hc); cbv) | (refine AllS.mk fun r hr => ?_; (try simp only [Dat.ok, Dat.dec, Leaf.ok, Leaf.val, Z0, Z1, val_sl] at hr); cbv)
    all_goals ((try dsimp only at *); (try simp only [nc, Int.toNat_natCast, ne_eq, zz] at *); (try simp only [nc] at *))
    all_goals first
      | exact (fillU_len _ _ _).symm
      | (have hi2 : i < n.toNat := by assumption
         rw [fillU_get hi2, hmin]
         by_cases hn : n = 0
         · omega
         · rw [if_neg hn]
           by_cases hi0 : i = 0
           · subst hi0; rfl
           · have hd : decide (0 ≤ i ∧ i < 0 + 1) = false := decide_eq_false (by omega)
             rw [if_neg (by omega), hd]; rfl)
      | fail
  · have hlen : (fillU (x.getD 0 Dat.d0) k n.toNat).length = n.toNat := fillU_len _ _ _
    cbv
    repeat' first | (show Stp _; exfalso; first | omega | (exact h ‹_›) | (exact absurd ‹_› h) | (exact Bool.false_ne_true (h.symm.trans (show _ = true by assumption)))) | (refine Stp.mk ?_; cbv) | (refine Gen.mk fun r hr => ?_; (try simp only [Dat.ok, Dat.dec, Leaf.ok, Leaf.val, Z0, Z1, val_sl, val_nil] at hr); cbv) | exact trivial | rfl | refine Both.mk ?_ ?_ | (refine Imp.mk fun h => ?_; (try dsimp only at h); (try simp only [nc, Int.toNat_natCast, ne_eq, zz] at h); (try simp only [nc] at h)) | refine Ob.mk ?_ ?_ | refine Chk.mk (by kernel_rfl) ?_ | refine Eq'.mk ?_ | (refine AllN.mk fun i hi => ?_; cbv) | (refine AllC.mk fun c hc hcm => ?_; (try dsimp only at hc); cbv) | (refine AllS.mk fun r hr => ?_; (try simp only [Dat.ok, Dat.dec, Leaf.ok, Leaf.val, Z0, Z1, val_sl] at hr); cbv)
    all_goals ((try dsimp only at *); (try simp only [nc, Int.toNat_natCast, ne_eq, zz] at *); (try simp only [nc] at *))
    all_goals try rw [nc] at *
    all_goals first
      | omega
      | (unfold InR; omega)
      | (have hm3 : min ((k : Int) - 0).toNat ((n.toNat : Int) - k).toNat ≤ k := by omega
         refine ⟨⟨k + min ((k : Int) - 0).toNat ((n.toNat : Int) - k).toNat, by omega, by omega⟩, ?_, ?_, rfl, by (try dsimp only); omega⟩
         · cbv
           repeat' first | (refine Stp.mk ?_; cbv) | (refine Gen.mk fun r hr => ?_; (try simp only [Dat.ok, Dat.dec, Leaf.ok, Leaf.val, Z0, Z1, val_sl, val_nil] at hr); cbv) | exact trivial | rfl | refine Both.mk ?_ ?_ | (refine Imp.mk fun h => ?_; (try dsimp only at h); (try simp only [nc, Int.toNat_natCast, ne_eq, zz] at h); (try simp only [nc] at h)) | refine Ob.mk ?_ ?_ | refine Chk.mk (by kernel_rfl) ?_ | refine Eq'.mk ?_ | (refine AllN.mk fun i hi => ?_; cbv) | (refine AllC.mk fun c hc hcm => ?_; (try dsimp only at hc); cbv) | (refine AllS.mk fun r hr => ?_; (try simp only [Dat.ok, Dat.dec, Leaf.ok, Leaf.val, Z0, Z1, val_sl] at hr); cbv)
           all_goals ((try dsimp only at *); (try simp only [nc, Int.toNat_natCast, ne_eq, zz] at *); (try simp only [nc] at *))
           all_goals first | rfl | (simp; omega) | fail
         · cbv
           repeat' first | (refine Stp.mk ?_; cbv) | (refine Gen.mk fun r hr => ?_; (try simp only [Dat.ok, Dat.dec, Leaf.ok, Leaf.val, Z0, Z1, val_sl, val_nil] at hr); cbv) | exact trivial | rfl | refine Both.mk ?_ ?_ | (refine Imp.mk fun h => ?_; (try dsimp only at h); (try simp only [nc, Int.toNat_natCast, ne_eq, zz] at h); (try simp only [nc] at h)) | refine Ob.mk ?_ ?_ | refine Chk.mk (by kernel_rfl) ?_ | refine Eq'.mk ?_ | (refine AllN.mk fun i hi => ?_; cbv) | (refine AllC.mk fun c hc hcm => ?_; (try dsimp only at hc); cbv) | (refine AllS.mk fun r hr => ?_; (try simp only [Dat.ok, Dat.dec, Leaf.ok, Leaf.val, Z0, Z1, val_sl] at hr); cbv)
           all_goals ((try dsimp only at *); (try simp only [nc, Int.toNat_natCast, ne_eq, zz] at *); (try simp only [nc] at *))
           all_goals have e0 : ((k : Int) - 0).toNat = k := by omega
           all_goals try simp only [e0] at *
           all_goals first
             | (rw [fillU_len, fillU_len]; done)
             | (have hi3 : i < n.toNat := by omega
                have hs := fillU_step (a := x.getD 0 Dat.d0) (k := k) (m := min k ((n.toNat : Int) - k).toNat) (by omega) hi3 (by omega)
                first
                  | exact hs.symm
                  | (refine Eq.trans ?_ (congrArg _ hs.symm); cases decide (k ≤ i ∧ i < k + min k ((n.toNat : Int) - k).toNat) <;> rfl))
             | fail)
      | exact ⟨trivial, by omega, by omega⟩
      | exact ⟨⟨trivial, by omega⟩, by omega⟩
      | (have e : fillU (x.getD 0 Dat.d0) k n.toNat = List.replicate n.toNat (x.getD 0 Dat.d0) := fillU_done _ (by omega)
         rw [e]
         exact fin _)
      | fail
theorem rpIns_ok : PcOk Tryd.prog 26 (rpIns_C) := fun A K h => by
  unfold rpIns_C at h
  split at h
  · rename_i x n
    cases h with
    | mk h1 h2 =>
      obtain ⟨g0, hp⟩ := h1
      refine FnOk.pre ?_ (A' := [Leaf.av fun _ => (Leaf.val x : (List Ins)), .i .i64 fun _ => n ()]) (.mk (Leaf.hle _ g0) (.mk (.mk (.mk rfl) (.mk rfl)) (trivial)))
      exact FnOk.out (K := fun r H _ => K r H) (rpIns_vc (Leaf.val x) (n ()) hp) rfl h2.out
  · cases h
def rpInsN_N : DetN := fun A => match A with
  | [x, .i .i64 n] => some (fun _ => Leaf.ok (List Ins) x ∧ rpIns_P (Leaf.val x) (n ()), rpIns_R fun _ => rpIns_S (Leaf.val x) (n ()), vecO 30 fun _ => (rpIns_S (Leaf.val x) (n ()) : (List Ins)))
  | _ => none
theorem rpInsN_okN : PcOk Tryd.prog 26 (detNPC rpInsN_N) := det_okN fun A p r o h hp0 => by
  unfold rpInsN_N at h
  split at h
  · rename_i x n
    cases h
    obtain ⟨g0, hp⟩ := hp0
    exact FnOk.pre (A' := [Leaf.av fun _ => (Leaf.val x : (List Ins)), .i .i64 fun _ => n ()]) (FnOk.out (rpIns_vc (Leaf.val x) (n ()) hp) rfl ⟨rfl, rfl⟩) (.mk (Leaf.hle _ g0) (.mk (.mk (.mk rfl) (.mk rfl)) (trivial)))
  · cases h
def semB : ByteArray := ⟨#[59]⟩
def sp1 : ByteArray := ⟨#[32]⟩
def nl1 : ByteArray := ⟨#[10]⟩
def wordsL (l : ByteArray) : List ByteArray := (splitV (cutV l semB).1 sp1).filter neB
def idxFrom (w : ByteArray) : List shape → Int → Int
  | [], _ => -1
  | s :: r, n => if s.word = w then n else idxFrom w r (n + 1)
def haltI : Ins := ⟨11, 0, 0⟩
inductive LineR where
  | no
  | bad
  | ins (i : Ins)
def readL (l : ByteArray) : LineR :=
  if (wordsL l).length = 0 then .no else
  if idxFrom ((wordsL l).getD 0 Dat.d0) shapesV 0 < 1 then .bad else
  if (readV (shapesV.getD (idxFrom ((wordsL l).getD 0 Dat.d0) shapesV 0).toNat Dat.d0) (idxFrom ((wordsL l).getD 0 Dat.d0) shapesV 0) (wordsL l)).2 = false then .bad else
  if checkP (List.replicate 99 haltI ++ [(readV (shapesV.getD (idxFrom ((wordsL l).getD 0 Dat.d0) shapesV 0).toNat Dat.d0) (idxFrom ((wordsL l).getD 0 Dat.d0) shapesV 0) (wordsL l)).1]) = 0 then
    .ins (readV (shapesV.getD (idxFrom ((wordsL l).getD 0 Dat.d0) shapesV 0).toNat Dat.d0) (idxFrom ((wordsL l).getD 0 Dat.d0) shapesV 0) (wordsL l)).1 else .bad
def parseL : List ByteArray → Int → List Ins → List Ins × Int × Int
  | [], _, out => if checkP out = 0 then (out, 0, 0) else ([], 0, checkP out)
  | l :: r, n, out => match readL l with
    | .no => parseL r (n + 1) out
    | .bad => ([], n, 10)
    | .ins i => parseL r (n + 1) (out ++ [i])
def parseV (s : ByteArray) : List Ins × Int × Int := if 10000 < s.size then ([], 0, 2) else parseL (splitV s nl1) 0 []
theorem splitC_le {c : UInt8} : ∀ (l : List UInt8), ∀ x ∈ splitC c l, x.length ≤ l.length
  | [], x, h => by simp [splitC] at h; simp [h]
  | b :: r, x, h => by
    unfold splitC at h
    split at h
    · rcases List.mem_cons.1 h with h | h
      · rw [h]; exact Nat.zero_le _
      · have := splitC_le r x h
        rw [List.length_cons]; omega
    · cases e : splitC c r with
      | nil => exact absurd e (splitC_ne r)
      | cons y t =>
        rw [e] at h
        rcases List.mem_cons.1 h with h | h
        · have := splitC_le r y (by rw [e]; exact List.mem_cons_self ..)
          rw [h, List.length_cons, List.length_cons]; omega
        · have := splitC_le r x (by rw [e]; exact List.mem_cons_of_mem _ h)
          rw [List.length_cons]; omega
theorem splitV_one (c : UInt8) (s : ByteArray) : splitV s ⟨#[c]⟩ = (splitC c s.data.toList).map fun l => (⟨l.toArray⟩ : ByteArray) := split_one s
theorem splitV_le {c : UInt8} {s x : ByteArray} (h : x ∈ splitV s ⟨#[c]⟩) : x.size ≤ s.size := by
  rw [splitV_one] at h
  obtain ⟨l, hl, rfl⟩ := List.mem_map.1 h
  have := splitC_le _ _ hl
  have e := Lib.size_eq s
  show l.toArray.size ≤ s.size
  rw [List.size_toArray]; omega
theorem splitV_len {c : UInt8} {s : ByteArray} : (splitV s ⟨#[c]⟩).length ≤ s.size + 1 := by
  rw [splitV_one, List.length_map, splitC_len]
  have := List.count_le_length (a := c) (l := s.data.toList)
  have e := Lib.size_eq s
  omega
theorem cutV_size (s : ByteArray) : (cutV s semB).1.size ≤ s.size := by
  show (Lib.cut s.data.toList [59]).1.toArray.size ≤ _
  rw [cut_one, List.size_toArray, Lib.size_eq s]
  exact (List.takeWhile_prefix _).length_le
theorem wordsL_le {l x : ByteArray} (h : x ∈ wordsL l) : x.size ≤ l.size :=
  Nat.le_trans (splitV_le (List.mem_filter.1 h).1) (cutV_size l)
theorem wordsL_len (l : ByteArray) : (wordsL l).length ≤ l.size + 1 :=
  Nat.le_trans (List.length_filter_le ..) (Nat.le_trans splitV_len (Nat.succ_le_succ (cutV_size l)))
def dP2 : FuncId → Option Dt := fun f => match f with
  | _ => none
theorem dP2_ok : DetOk Tryd.prog dP2 := fun f d h => by
  unfold dP2 at h
  split at h
  · cases h
noncomputable def cP2 : FuncId → Con := fun f => match f with
  | 24 => inlCon E noCon (draws E dP2) [0, 1, 2, 3] Tryd.f24
  | _ => fun _ _ _ => Bad 1001
theorem cP2_ok : ConOk Tryd.prog cP2 := fun f A H K h => by
  unfold cP2 at h
  split at h
  · exact ⟨⟨Tryd.f24, Tryd.func24, by kernel_rfl, by kernel_rfl⟩, inl_ok envOk zl noCon_ok (draws_ok envOk zl dP2_ok mixed) Tryd.func24 h⟩
  · cases h
noncomputable def cPa : FuncId → Con := fun f => match f with
  | 16 => frCon shapesF_D
  | 10 => pureCon splitC_C
  | 20 => pureCon (detPC cutD_D)
  | 21 => delW_K
  | 23 => inlCon E cP2 noDraws [0, 1, 4, 5, 7, 8, 9, 16] Tryd.f23
  | 15 => pureCon (detPC checkC_D)
  | _ => fun _ _ _ => Bad 1001
theorem cPa_ok : ConOk Tryd.prog cPa := fun f A H K h => by
  unfold cPa at h
  split at h
  · exact ⟨⟨Tryd.f16, Tryd.func16, by kernel_rfl, by kernel_rfl⟩, frCon_ok shapesF_okF h⟩
  · exact ⟨⟨Tryd.f10, Tryd.func10, by kernel_rfl, by kernel_rfl⟩, pureCon_ok splitC_ok h⟩
  · exact ⟨⟨Tryd.f20, Tryd.func20, by kernel_rfl, by kernel_rfl⟩, pureCon_ok cutD_ok h⟩
  · exact ⟨⟨Tryd.f21, Tryd.func21, by kernel_rfl, by kernel_rfl⟩, delW_ok h⟩
  · exact ⟨⟨Tryd.f23, Tryd.func23, by kernel_rfl, by kernel_rfl⟩, inl_ok envOk zl cP2_ok noDraws_ok Tryd.func23 h⟩
  · exact ⟨⟨Tryd.f15, Tryd.func15, by kernel_rfl, by kernel_rfl⟩, pureCon_ok checkC_ok h⟩
  · cases h
def dPa : FuncId → Option Dt := fun f => match f with
  | 25 => some (.c readC_D)
  | 26 => some (.n rpInsN_N)
  | 15 => some (.c checkC_D)
  | _ => none
theorem dPa_ok : DetOk Tryd.prog dPa := fun f d h => by
  unfold dPa at h
  split at h
  · cases h; exact ⟨⟨Tryd.f25, Tryd.func25, by kernel_rfl, by kernel_rfl⟩, readC_ok⟩
  · cases h; exact ⟨⟨Tryd.f26, Tryd.func26, by kernel_rfl, by kernel_rfl⟩, rpInsN_okN⟩
  · cases h; exact ⟨⟨Tryd.f15, Tryd.func15, by kernel_rfl, by kernel_rfl⟩, checkC_ok⟩
  · cases h
theorem drop_consB {l : List ByteArray} {k : Nat} (h : k < l.length) : l.drop k = l.getD k Dat.d0 :: l.drop (k + 1) := by
  rw [List.drop_eq_getElem_cons h, List.getD_eq_getElem?_getD, List.getElem?_eq_getElem h]; rfl
theorem drop_consS {l : List shape} {k : Nat} (h : k < l.length) : l.drop k = l.getD k Dat.d0 :: l.drop (k + 1) := by
  rw [List.drop_eq_getElem_cons h, List.getD_eq_getElem?_getD, List.getElem?_eq_getElem h]; rfl
theorem parse_no {L : List ByteArray} {k : Nat} {out : List Ins} (h : k < L.length) (e : readL (L.getD k Dat.d0) = .no) : parseL (L.drop k) k out = parseL (L.drop (k + 1)) ((k + 1 : Nat) : Int) out := by
  rw [drop_consB h, parseL, e]; rfl
theorem parse_bad {L : List ByteArray} {k : Nat} {out : List Ins} (h : k < L.length) (e : readL (L.getD k Dat.d0) = .bad) : parseL (L.drop k) k out = ([], (k : Int), 10) := by
  rw [drop_consB h, parseL, e]
theorem parse_ins {L : List ByteArray} {k : Nat} {out : List Ins} {i : Ins} (h : k < L.length) (e : readL (L.getD k Dat.d0) = .ins i) : parseL (L.drop k) k out = parseL (L.drop (k + 1)) ((k + 1 : Nat) : Int) (out ++ [i]) := by
  rw [drop_consB h, parseL, e]; rfl
theorem parse_end {L : List ByteArray} {k : Nat} {out : List Ins} (h : L.length ≤ k) : parseL (L.drop k) k out = if checkP out = 0 then (out, 0, 0) else ([], 0, checkP out) := by
  rw [List.drop_eq_nil_of_le h, parseL]
theorem read_no {l : ByteArray} {r r2 : List ByteArray} (h1 : r = r2) (h : r2 = splitV (cutV l semB).1 sp1) (h0 : ((List.filter neB r).length : Int) = 0) : readL l = .no := by
  unfold readL
  rw [if_pos]
  unfold wordsL
  rw [← h, ← h1]; omega
theorem halt_v : slV (α := Ins) (.sl 3 (fun _ => 1) fun _ => [.i .i64 fun _ => 11, .i .i64 fun _ => 0, .i .i64 fun _ => 0]) = [haltI] := rfl
theorem halt_r : rpIns_S [haltI] 99 = List.replicate 99 haltI := rfl
theorem halt_l : (List.replicate 99 haltI).length = 99 := rfl
theorem sh_eta (x : shape) : (⟨x.word, x.a, ⟨x.b.n⟩⟩ : shape) = x := rfl
theorem shl : shapesV.length = 12 := rfl
theorem read_few {l : ByteArray} {w : List ByteArray} (hw : w = wordsL l) (h0 : 0 < w.length) (h : idxFrom (w.getD 0 Dat.d0) shapesV 0 < 1) : readL l = .bad := by
  unfold readL
  rw [← hw, if_neg (by omega), if_pos h]
theorem read_not {l : ByteArray} {w : List ByteArray} {j : Nat} (hw : w = wordsL l) (h0 : 0 < w.length) (hi : idxFrom (w.getD 0 Dat.d0) shapesV 0 = (j : Int)) (h1 : 1 ≤ (j : Int)) (h : (readV (shapesV.getD j Dat.d0) j w).2 = false) : readL l = .bad := by
  unfold readL
  rw [← hw, hi, if_neg (by omega), if_neg (by omega), Int.toNat_natCast, if_pos h]
theorem read_chk {l : ByteArray} {w : List ByteArray} {j : Nat} (hw : w = wordsL l) (h0 : 0 < w.length) (hi : idxFrom (w.getD 0 Dat.d0) shapesV 0 = (j : Int)) (h1 : 1 ≤ (j : Int)) (h : (readV (shapesV.getD j Dat.d0) j w).2 = true) (hc : ¬ checkP (List.replicate 99 haltI ++ [(readV (shapesV.getD j Dat.d0) j w).1]) = 0) : readL l = .bad := by
  unfold readL
  rw [← hw, hi, if_neg (by omega), if_neg (by omega), Int.toNat_natCast, if_neg (by rw [h]; exact Bool.noConfusion), if_neg hc]
theorem read_ok {l : ByteArray} {w : List ByteArray} {j : Nat} (hw : w = wordsL l) (h0 : 0 < w.length) (hi : idxFrom (w.getD 0 Dat.d0) shapesV 0 = (j : Int)) (h1 : 1 ≤ (j : Int)) (h : (readV (shapesV.getD j Dat.d0) j w).2 = true) (hc : checkP (List.replicate 99 haltI ++ [(readV (shapesV.getD j Dat.d0) j w).1]) = 0) : readL l = .ins (readV (shapesV.getD j Dat.d0) j w).1 := by
  unfold readL
  rw [← hw, hi, if_neg (by omega), if_neg (by omega), Int.toNat_natCast, if_neg (by rw [h]; exact Bool.noConfusion), if_pos hc]
structure IdX (w : ByteArray) where
  k : Nat
  hk : k ≤ shapesV.length
  hr : idxFrom w shapesV 0 = idxFrom w (shapesV.drop k) k
theorem idx_hit {w : ByteArray} {k : Nat} (h : k < shapesV.length) (hr : idxFrom w shapesV 0 = idxFrom w (shapesV.drop k) k) (e : (shapesV.getD k Dat.d0).word = w) : idxFrom w shapesV 0 = k := by
  rw [hr, drop_consS h, idxFrom, if_pos e]
theorem idx_miss {w : ByteArray} {k : Nat} (h : k < shapesV.length) (hr : idxFrom w shapesV 0 = idxFrom w (shapesV.drop k) k) (e : ¬ (shapesV.getD k Dat.d0).word = w) : idxFrom w shapesV 0 = idxFrom w (shapesV.drop (k + 1)) ((k + 1 : Nat) : Int) := by
  rw [hr, drop_consS h, idxFrom, if_neg e]; rfl
theorem idx_none {w : ByteArray} {k : Nat} (h : shapesV.length ≤ k) (hr : idxFrom w shapesV 0 = idxFrom w (shapesV.drop k) k) : idxFrom w shapesV 0 = -1 := by
  rw [hr, List.drop_eq_nil_of_le h, idxFrom]
structure PaX (L : List ByteArray) where
  k : Nat
  hk : k ≤ L.length
  out : List Ins
  ho : out.length ≤ k
  hr : parseL L 0 [] = parseL (L.drop k) k out
def parseC2_R (r : Th ((List Ins) × Int × Int)) : AV := .tup [.own 0 fun _ => (r ()).1.length, .i .i64 fun _ => (r ()).2.1, .i .i64 fun _ => (r ()).2.2]
def parseC2_H (r : Th ((List Ins) × Int × Int)) : Hp := [vecO 30 fun _ => (r ()).1]
def parseC2_C : PC := fun A K => match A with
  | [.s s] => Ob (fun _ => True) (Gen (α := (List Ins) × Int × Int) (fun _ => parseV (s ())) fun r => K (parseC2_R fun _ => r) (parseC2_H fun _ => r))
  | _ => Bad 1002
set_option maxRecDepth 100000 in
set_option maxHeartbeats 4000000 in
theorem parseC2_vc (s : ByteArray) : FnOk Tryd.prog 7 [.s fun _ => s] [] (outA (parseC2_R fun _ => parseV s) (parseC2_H fun _ => parseV s)) := by
  refine fn_ok envOk zl cPa_ok (draws_ok envOk zl dPa_ok mixed) (keep := [0, 2, 3, 4, 5, 6, 7, 8, 9, 10, 11, 12, 13, 16, 19, 20, 21, 22, 37, 42, 65, 75]) Tryd.func7 rfl ?_
  have fin0 : ∀ n e H kl, parseV s = ([], n, e) → outA (parseC2_R fun _ => parseV s) (parseC2_H fun _ => parseV s) (.tup [.nil, .i .i64 fun _ => n, .i .i64 fun _ => e]) H kl := fun n e H kl h => by
    rw [h]
    cbv
    repeat' first | (refine Stp.mk ?_; cbv) | (refine Gen.mk fun r hr => ?_; (try simp only [Dat.ok, Dat.dec, Leaf.ok, Leaf.val, Z0, Z1, val_sl, val_nil] at hr); cbv) | exact trivial | rfl | refine Both.mk ?_ ?_ | (refine Imp.mk fun h => ?_; (try dsimp only at h); (try simp only [nc, Int.toNat_natCast, ne_eq, zz] at h); (try simp only [nc] at h)) | refine Ob.mk ?_ ?_ | refine Chk.mk (by kernel_rfl) ?_ | refine Eq'.mk ?_ | (refine AllN.mk fun i hi => ?_; cbv) | (refine AllC.mk fun c hc hcm => ?_; (try dsimp only at hc); cbv) | (refine AllS.mk fun r hr => ?_; (try simp only [Dat.ok, Dat.dec, Leaf.ok, Leaf.val, Z0, Z1, val_sl] at hr); cbv)
    all_goals exact absurd hi (Nat.not_lt_zero _)
  generalize hK : outA (parseC2_R fun _ => parseV s) (parseC2_H fun _ => parseV s) = K at fin0 ⊢
  cbv
  repeat' first | (show Stp _; exfalso; first | omega | (exact h ‹_›) | (exact absurd ‹_› h) | (exact Bool.false_ne_true (h.symm.trans (show _ = true by assumption)))) | (refine Stp.mk ?_; cbv) | (refine Gen.mk fun r hr => ?_; (try simp only [Dat.ok, Dat.dec, Leaf.ok, Leaf.val, Z0, Z1, val_sl, val_nil] at hr); cbv) | exact trivial | rfl | refine Both.mk ?_ ?_ | (refine Imp.mk fun h => ?_; (try dsimp only at h); (try simp only [nc, Int.toNat_natCast, ne_eq, zz] at h); (try simp only [nc] at h)) | refine Ob.mk ?_ ?_ | refine Chk.mk (by kernel_rfl) ?_ | refine Eq'.mk ?_ | (refine AllN.mk fun i hi => ?_; cbv) | (refine AllC.mk fun c hc hcm => ?_; (try dsimp only at hc); cbv) | (refine AllS.mk fun r hr => ?_; (try simp only [Dat.ok, Dat.dec, Leaf.ok, Leaf.val, Z0, Z1, val_sl] at hr); cbv)
  all_goals ((try dsimp only at *); (try simp only [nc, Int.toNat_natCast, ne_eq, zz] at *); (try simp only [nc] at *))
  all_goals try simp only [Dat.dec, Leaf.val, Z0, Z1, val_sl] at *
  all_goals try first
    | (refine fin0 _ _ _ _ ?_
       unfold parseV; rw [if_pos (by omega)]
       done)
    | exact ⟨by omega, by decide⟩
    | exact ⟨by omega, Nat.le_refl _⟩
  have eP : parseV s = parseL (splitV s nl1) 0 [] := if_neg (by omega)
  have hsz : s.size ≤ 10000 := by omega
  have hr9 := hr.symm
  clear hr
  have hLn : (splitV s nl1).length ≤ 10001 := Nat.le_trans splitV_len (by omega)
  have hLs : ∀ k, ((splitV s nl1).getD k Dat.d0).size ≤ 10000 := fun k => by
    rw [List.getD_eq_getElem?_getD]
    cases h : (splitV s nl1)[k]? with
    | none => exact Nat.zero_le _
    | some x => exact Nat.le_trans (splitV_le (List.mem_of_getElem? h)) hsz
  have hr9 : splitV s nl1 = r := hr9
  rw [hr9] at eP hLn hLs
  clear hr9
  rename List ByteArray => L
  refine LoopVC.frame [2, 3, 4, 6, 7, 8, 9, 10, 11, 12, 21, 22, 37, 42, 65] (PaX L) (fun x => [(21, .i .i64 fun _ => x.k), (6, .own 1 fun _ => x.out.length)]) (fun x => [(0, vecO 9 fun _ => L), (1, vecO 30 fun _ => x.out)]) [1, 7] (fun x => L.length - x.k) ⟨0, Nat.zero_le _, [], Nat.le_refl _, rfl⟩ rfl (fun _ => rfl) ?_ ?_ fun ⟨k, hk, out, ho, hR⟩ => ?_
  · cbv
    repeat' first | (refine Stp.mk ?_; cbv) | (refine Gen.mk fun r hr => ?_; (try simp only [Dat.ok, Dat.dec, Leaf.ok, Leaf.val, Z0, Z1, val_sl, val_nil] at hr); cbv) | exact trivial | rfl | refine Both.mk ?_ ?_ | (refine Imp.mk fun h => ?_; (try dsimp only at h); (try simp only [nc, Int.toNat_natCast, ne_eq, zz] at h); (try simp only [nc] at h)) | refine Ob.mk ?_ ?_ | refine Chk.mk (by kernel_rfl) ?_ | refine Eq'.mk ?_ | (refine AllN.mk fun i hi => ?_; cbv) | (refine AllC.mk fun c hc hcm => ?_; (try dsimp only at hc); cbv) | (refine AllS.mk fun r hr => ?_; (try simp only [Dat.ok, Dat.dec, Leaf.ok, Leaf.val, Z0, Z1, val_sl] at hr); cbv)
    all_goals exact absurd hi (Nat.not_lt_zero _)
  · cbv
    repeat' first | (refine Stp.mk ?_; cbv) | (refine Gen.mk fun r hr => ?_; (try simp only [Dat.ok, Dat.dec, Leaf.ok, Leaf.val, Z0, Z1, val_sl, val_nil] at hr); cbv) | exact trivial | rfl | refine Both.mk ?_ ?_ | (refine Imp.mk fun h => ?_; (try dsimp only at h); (try simp only [nc, Int.toNat_natCast, ne_eq, zz] at h); (try simp only [nc] at h)) | refine Ob.mk ?_ ?_ | refine Chk.mk (by kernel_rfl) ?_ | refine Eq'.mk ?_ | (refine AllN.mk fun i hi => ?_; cbv) | (refine AllC.mk fun c hc hcm => ?_; (try dsimp only at hc); cbv) | (refine AllS.mk fun r hr => ?_; (try simp only [Dat.ok, Dat.dec, Leaf.ok, Leaf.val, Z0, Z1, val_sl] at hr); cbv)
    all_goals exact absurd hi (Nat.not_lt_zero _)
  have hk9 : k ≤ L.length := hk
  have ho9 : out.length ≤ k := ho
  have hR9 : parseL L 0 [] = parseL (L.drop k) k out := hR
  have ls := hLs k
  cbv
  repeat' first | (show Stp _; exfalso; first | omega | (exact h ‹_›) | (exact absurd ‹_› h) | (exact Bool.false_ne_true (h.symm.trans (show _ = true by assumption)))) | (refine Stp.mk ?_; cbv) | (refine Gen.mk fun r hr => ?_; (try simp only [Dat.ok, Dat.dec, Leaf.ok, Leaf.val, Z0, Z1, val_sl, val_nil] at hr); cbv) | exact trivial | rfl | refine Both.mk ?_ ?_ | (refine Imp.mk fun h => ?_; (try dsimp only at h); (try simp only [nc, Int.toNat_natCast, ne_eq, zz] at h); (try simp only [nc] at h)) | refine Ob.mk ?_ ?_ | refine Chk.mk (by kernel_rfl) ?_ | refine Eq'.mk ?_ | (refine AllN.mk fun i hi => ?_; cbv) | (refine AllC.mk fun c hc hcm => ?_; (try dsimp only at hc); cbv) | (refine AllS.mk fun r hr => ?_; (try simp only [Dat.ok, Dat.dec, Leaf.ok, Leaf.val, Z0, Z1, val_sl] at hr); cbv)
  all_goals ((try dsimp only at *); (try simp only [nc, Int.toNat_natCast, ne_eq, zz] at *); (try simp only [nc] at *))
  all_goals try rw [nc] at *
  all_goals try simp only [Dat.dec, Leaf.val, Z0, Z1, val_sl] at *
  all_goals try first
    | exact ⟨by omega, by omega⟩
    | exact Nat.le_refl _
    | exact Nat.lt_of_le_of_lt ls (by decide)
    | exact ⟨Nat.lt_of_le_of_lt (Nat.le_trans (cutV_size _) ls) (by decide), Nat.le_refl _⟩
    | exact ⟨rfl, trivial, fun i _ => Dat.hok _, trivial, by rw [hr]; exact Nat.le_trans splitV_len (Nat.le_trans (Nat.succ_le_succ (Nat.le_trans (cutV_size _) ls)) (by decide))⟩
    | (show InR ((k : Int) + 1); unfold InR; omega)
    | omega
    | exact ⟨⟨rfl, fun i _ => Dat.hok _⟩, show _ ≤ _ by omega⟩
    | (refine fin0 _ _ _ _ ?_
       rw [eP, hR9, parse_end (by omega), if_neg (by assumption)]
       done)
    | (have eR : parseV s = (out, 0, 0) := by rw [eP, hR9, parse_end (by omega), if_pos (by assumption)]
       subst hK
       rw [eR]
       cbv
       repeat' first | (refine Stp.mk ?_; cbv) | (refine Gen.mk fun r hr => ?_; (try simp only [Dat.ok, Dat.dec, Leaf.ok, Leaf.val, Z0, Z1, val_sl, val_nil] at hr); cbv) | exact trivial | rfl | refine Both.mk ?_ ?_ | (refine Imp.mk fun h => ?_; (try dsimp only at h); (try simp only [nc, Int.toNat_natCast, ne_eq, zz] at h); (try simp only [nc] at h)) | refine Ob.mk ?_ ?_ | refine Chk.mk (by kernel_rfl) ?_ | refine Eq'.mk ?_ | (refine AllN.mk fun i hi => ?_; cbv) | (refine AllC.mk fun c hc hcm => ?_; (try dsimp only at hc); cbv) | (refine AllS.mk fun r hr => ?_; (try simp only [Dat.ok, Dat.dec, Leaf.ok, Leaf.val, Z0, Z1, val_sl] at hr); cbv)
       all_goals fail)
  · refine ⟨⟨k + 1, by omega, out, by omega, hR9.trans (parse_no (by omega) (read_no hr (by assumption) (by assumption)))⟩, ?_, ?_, rfl, by (try dsimp only); omega⟩
    iterate 2
      · cbv
        repeat' first | (refine Stp.mk ?_; cbv) | (refine Gen.mk fun r hr => ?_; (try simp only [Dat.ok, Dat.dec, Leaf.ok, Leaf.val, Z0, Z1, val_sl, val_nil] at hr); cbv) | exact trivial | rfl | refine Both.mk ?_ ?_ | (refine Imp.mk fun h => ?_; (try dsimp only at h); (try simp only [nc, Int.toNat_natCast, ne_eq, zz] at h); (try simp only [nc] at h)) | refine Ob.mk ?_ ?_ | refine Chk.mk (by kernel_rfl) ?_ | refine Eq'.mk ?_ | (refine AllN.mk fun i hi => ?_; cbv) | (refine AllC.mk fun c hc hcm => ?_; (try dsimp only at hc); cbv) | (refine AllS.mk fun r hr => ?_; (try simp only [Dat.ok, Dat.dec, Leaf.ok, Leaf.val, Z0, Z1, val_sl] at hr); cbv)
  have hw : List.filter neB r = wordsL (L.getD k Dat.d0) := by
    exact congrArg (fun r => List.filter neB r) (hr.trans (by assumption))
  generalize hwe : List.filter neB r = w at *
  have hw0 : 0 < w.length := by omega
  have hw1 : w.length ≤ 10001 := by rw [hw]; exact Nat.le_trans (wordsL_len _) (Nat.succ_le_succ ls)
  have hw2 : ∀ x ∈ w, x.size ≤ 10000 := fun x h => by
    rw [hw] at h
    exact Nat.le_trans (wordsL_le h) ls
  refine LoopVC.frame [4, 5, 8, 9, 16] (IdX (w.getD 0 Dat.d0)) (fun x => [(8, .i .i64 fun _ => x.k)]) (fun _ => []) [] (fun x => shapesV.length - x.k) ⟨0, Nat.zero_le _, rfl⟩ rfl (fun _ => rfl) ?_ ?_ fun ⟨j, hj, hi⟩ => ?_
  iterate 2
    · cbv
      repeat' first | (refine Stp.mk ?_; cbv) | (refine Gen.mk fun r hr => ?_; (try simp only [Dat.ok, Dat.dec, Leaf.ok, Leaf.val, Z0, Z1, val_sl, val_nil] at hr); cbv) | exact trivial | rfl | refine Both.mk ?_ ?_ | (refine Imp.mk fun h => ?_; (try dsimp only at h); (try simp only [nc, Int.toNat_natCast, ne_eq, zz] at h); (try simp only [nc] at h)) | refine Ob.mk ?_ ?_ | refine Chk.mk (by kernel_rfl) ?_ | refine Eq'.mk ?_ | (refine AllN.mk fun i hi => ?_; cbv) | (refine AllC.mk fun c hc hcm => ?_; (try dsimp only at hc); cbv) | (refine AllS.mk fun r hr => ?_; (try simp only [Dat.ok, Dat.dec, Leaf.ok, Leaf.val, Z0, Z1, val_sl] at hr); cbv)
  have hj9 : j ≤ shapesV.length := hj
  have hi9 : idxFrom (w.getD 0 Dat.d0) shapesV 0 = idxFrom (w.getD 0 Dat.d0) (shapesV.drop j) j := hi
  cbv
  repeat' first | (show Stp _; exfalso; first | omega | (exact h ‹_›) | (exact absurd ‹_› h) | (exact Bool.false_ne_true (h.symm.trans (show _ = true by assumption)))) | (refine Stp.mk ?_; cbv) | (refine Gen.mk fun r hr => ?_; (try simp only [Dat.ok, Dat.dec, Leaf.ok, Leaf.val, Z0, Z1, val_sl, val_nil] at hr); cbv) | exact trivial | rfl | refine Both.mk ?_ ?_ | (refine Imp.mk fun h => ?_; (try dsimp only at h); (try simp only [nc, Int.toNat_natCast, ne_eq, zz] at h); (try simp only [nc] at h)) | refine Ob.mk ?_ ?_ | refine Chk.mk (by kernel_rfl) ?_ | refine Eq'.mk ?_ | (refine AllN.mk fun i hi => ?_; cbv) | (refine AllC.mk fun c hc hcm => ?_; (try dsimp only at hc); cbv) | (refine AllS.mk fun r hr => ?_; (try simp only [Dat.ok, Dat.dec, Leaf.ok, Leaf.val, Z0, Z1, val_sl] at hr); cbv)
  all_goals try generalize hL9 : rpIns_S (Leaf.val (.sl 3 (fun _ => 1) fun _ => [.i .i64 fun _ => 11, .i .i64 fun _ => 0, .i .i64 fun _ => 0])) 99 = L9 at h ⊢
  all_goals ((try dsimp only at *); (try simp only [nc, Int.toNat_natCast, ne_eq, zz] at *); (try simp only [nc] at *))
  all_goals try rw [nc] at *
  all_goals try simp only [Dat.dec, Leaf.val, Z0, Z1, val_sl] at *
  all_goals try simp only [sh_eta] at *
  all_goals have hl9 := halt_l
  all_goals try have hL8 : L9 = List.replicate 99 haltI := hL9.symm
  all_goals try have hq : _ = L9 ++ [(readV (shapesV.getD j Dat.d0) j w).1] := val_snoc (α := Ins) L9 [.i .i64 fun _ => (readV (shapesV.getD j Dat.d0) j w).1.code, .i .i64 fun _ => (readV (shapesV.getD j Dat.d0) j w).1.a, .i .i64 fun _ => (readV (shapesV.getD j Dat.d0) j w).1.b] 3 (L9.length + 1) rfl rfl ⟨trivial, trivial, trivial⟩
  all_goals try simp only [hq] at h ⊢
  all_goals try subst hL8
  all_goals have hs9 := shl
  all_goals try first
    | exact ⟨by omega, by omega⟩
    | (show InR ((_ : Nat) + 1 : Int); unfold InR; omega)
    | omega
    | (refine ⟨⟨j + 1, by omega, idx_miss (by omega) hi9 (by assumption)⟩, ?_, ?_, rfl, by (try dsimp only); omega⟩
       · cbv
         repeat' first | (refine Stp.mk ?_; cbv) | (refine Gen.mk fun r hr => ?_; (try simp only [Dat.ok, Dat.dec, Leaf.ok, Leaf.val, Z0, Z1, val_sl, val_nil] at hr); cbv) | exact trivial | rfl | refine Both.mk ?_ ?_ | (refine Imp.mk fun h => ?_; (try dsimp only at h); (try simp only [nc, Int.toNat_natCast, ne_eq, zz] at h); (try simp only [nc] at h)) | refine Ob.mk ?_ ?_ | refine Chk.mk (by kernel_rfl) ?_ | refine Eq'.mk ?_ | (refine AllN.mk fun i hi => ?_; cbv) | (refine AllC.mk fun c hc hcm => ?_; (try dsimp only at hc); cbv) | (refine AllS.mk fun r hr => ?_; (try simp only [Dat.ok, Dat.dec, Leaf.ok, Leaf.val, Z0, Z1, val_sl] at hr); cbv)
       · cbv
         repeat' first | (refine Stp.mk ?_; cbv) | (refine Gen.mk fun r hr => ?_; (try simp only [Dat.ok, Dat.dec, Leaf.ok, Leaf.val, Z0, Z1, val_sl, val_nil] at hr); cbv) | exact trivial | rfl | refine Both.mk ?_ ?_ | (refine Imp.mk fun h => ?_; (try dsimp only at h); (try simp only [nc, Int.toNat_natCast, ne_eq, zz] at h); (try simp only [nc] at h)) | refine Ob.mk ?_ ?_ | refine Chk.mk (by kernel_rfl) ?_ | refine Eq'.mk ?_ | (refine AllN.mk fun i hi => ?_; cbv) | (refine AllC.mk fun c hc hcm => ?_; (try dsimp only at hc); cbv) | (refine AllS.mk fun r hr => ?_; (try simp only [Dat.ok, Dat.dec, Leaf.ok, Leaf.val, Z0, Z1, val_sl] at hr); cbv))
    | (refine fin0 _ _ _ _ (eP.trans (hR9.trans (parse_bad (by omega) (read_few hw hw0 ?_))))
       first
       | (rw [idx_hit (by omega) hi9 (by assumption)]; assumption)
       | (rw [idx_none (by omega) hi9]; decide))
    | exact fin0 _ _ _ _ (eP.trans (hR9.trans (parse_bad (by omega) (read_not hw hw0 (idx_hit (by omega) hi9 (by assumption)) (by assumption) (by assumption)))))
    | exact fin0 _ _ _ _ (eP.trans (hR9.trans (parse_bad (by omega) (read_chk hw hw0 (idx_hit (by omega) hi9 (by assumption)) (by assumption) (by assumption) (by assumption)))))
    | (refine ⟨by omega, ?_⟩
       refine And.intro (Dat.hok fun _ => shapesV.getD j Dat.d0) (And.intro ⟨rfl, fun i _ => Dat.hok _⟩ ⟨hw0, by omega, fun x h => Nat.le_trans (hw2 x h) (by decide)⟩))
    | (refine ⟨by omega, ?_⟩
       refine And.intro ⟨⟨rfl, fun i _ => ⟨trivial, trivial, trivial⟩⟩, rfl, by decide, by decide⟩ fun i _ => rfl)
    | (refine ⟨by omega, ?_⟩
       refine And.intro ⟨rfl, fun i _ => ok_row rfl (Dat.hok _) ⟨trivial, trivial, trivial⟩⟩ (show _ ≤ _ by rw [List.length_append, hl9, List.length_singleton]; decide))
  refine ⟨⟨k + 1, by omega, out ++ [(readV (shapesV.getD j Dat.d0) j w).1], by rw [List.length_append, List.length_singleton]; omega, hR9.trans (parse_ins (by omega) (read_ok hw hw0 (idx_hit (by omega) hi9 (by assumption)) (by assumption) (by assumption) (by assumption)))⟩, ?_, ?_, rfl, by (try dsimp only); omega⟩
  · cbv
    repeat' first | (refine Stp.mk ?_; cbv) | (refine Gen.mk fun r hr => ?_; (try simp only [Dat.ok, Dat.dec, Leaf.ok, Leaf.val, Z0, Z1, val_sl, val_nil] at hr); cbv) | exact trivial | rfl | refine Both.mk ?_ ?_ | (refine Imp.mk fun h => ?_; (try dsimp only at h); (try simp only [nc, Int.toNat_natCast, ne_eq, zz] at h); (try simp only [nc] at h)) | refine Ob.mk ?_ ?_ | refine Chk.mk (by kernel_rfl) ?_ | refine Eq'.mk ?_ | (refine AllN.mk fun i hi => ?_; cbv) | (refine AllC.mk fun c hc hcm => ?_; (try dsimp only at hc); cbv) | (refine AllS.mk fun r hr => ?_; (try simp only [Dat.ok, Dat.dec, Leaf.ok, Leaf.val, Z0, Z1, val_sl] at hr); cbv)
    all_goals (simp; done)
  · cbv
    repeat' first | (refine Stp.mk ?_; cbv) | (refine Gen.mk fun r hr => ?_; (try simp only [Dat.ok, Dat.dec, Leaf.ok, Leaf.val, Z0, Z1, val_sl, val_nil] at hr); cbv) | exact trivial | rfl | refine Both.mk ?_ ?_ | (refine Imp.mk fun h => ?_; (try dsimp only at h); (try simp only [nc, Int.toNat_natCast, ne_eq, zz] at h); (try simp only [nc] at h)) | refine Ob.mk ?_ ?_ | refine Chk.mk (by kernel_rfl) ?_ | refine Eq'.mk ?_ | (refine AllN.mk fun i hi => ?_; cbv) | (refine AllC.mk fun c hc hcm => ?_; (try dsimp only at hc); cbv) | (refine AllS.mk fun r hr => ?_; (try simp only [Dat.ok, Dat.dec, Leaf.ok, Leaf.val, Z0, Z1, val_sl] at hr); cbv)
    all_goals first
      | (have e := gd_snoc out ((readV (shapesV.getD j Dat.d0) j w).1) Dat.d0 i (by assumption)
         dsimp only
         rw [e]; cases decide (i < out.length) <;> rfl)
      | (simp; done)
theorem parseC2_ok : PcOk Tryd.prog 7 (parseC2_C) := fun A K h => by
  unfold parseC2_C at h
  split at h
  · rename_i s
    cases h with
    | mk h1 h2 =>
      refine FnOk.pre ?_ (A' := [.s fun _ => s ()]) (.mk (.mk rfl) (trivial))
      exact FnOk.out (K := fun r H _ => K r H) (parseC2_vc (s ())) rfl h2.out
  · cases h

end Go.Proofs.YtebiaihhpflpgaaDoor
