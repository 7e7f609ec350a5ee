/- The abstract step is right: numbers, texts, comparisons. -/
import Derived.Test.YtadjemhbfaonbaaAbsSound2
import Derived.Laws.StructEq
set_option linter.all false
namespace Go.Abs
open Go
section
variable {P : Program} {E : Env} {o : Oper} {a : Act} {w : World} {M : Nat → Prop} {β : Nat → Option Nat} {cp : Nat → Nat} {h : Hp} {s : Tm} {nid : Nat}

theorem wrap64_in {n : Int} (hn : InR n) : IntKind.i64.wrap n = n := by
  obtain ⟨h1, h2⟩ := hn
  simp only [IntKind.wrap, IntKind.bits, IntKind.signed]
  simp
  omega

theorem kEq_eq {k k' : IntKind} (h : kEq k k' = true) : k = k' := by
  unfold kEq at h
  split at h <;> first | rfl | cases h

theorem part_one {t : TypeId} {d : TypeDesc} (hu : P.underlying t = some d) (h1 : ∀ fs, d ≠ .struct fs) (h2 : ∀ n e, d ≠ .array n e) {cs : Array Value} {ofs : Nat} (hlt : ofs < cs.size) :
    (part t cs ofs).run P w = .ok (cs.getD ofs undef) w := by
  simp only [part, Sem.run_bind, isAgg_one hu h1 h2, Result.andThen_ok]
  simp [hlt]

theorem run_eqFields {d : Nat} {xs ys : Array Value} : ∀ (fs : List Field) (ks : List LK) (n : Nat) (l m : List AV) (r : Th Bool), flatB P n ks fs = true → eqCells ks l m = some r →
    n + l.length ≤ xs.size → n + m.length ≤ ys.size → (∀ (j : Nat) (x : AV), l[j]? = some x → Rep w M β cp x (xs.getD (n + j) undef)) → (∀ (j : Nat) (x : AV), m[j]? = some x → Rep w M β cp x (ys.getD (n + j) undef)) →
    (Op.eqFields (d + 1) xs ys fs).run P w = .ok (r ()) w
  | [], [], n, [], [], r, _, he, _, _, _, _ => by simp [eqCells] at he; subst he; simp [Op.eqFields]
  | f :: fs, k :: ks, n, x :: l, y :: m, r, hf, he, hx, hy, hxs, hys => by
    simp only [flatB, Bool.and_eq_true, bne_iff_ne, ne_eq, beq_iff_eq] at hf
    obtain ⟨⟨⟨hnm, hofs⟩, hty⟩, hrest⟩ := hf
    simp only [eqCells] at he
    split at he
    · cases he
    · rename_i r' hr'
      have h1 := hxs 0 x rfl
      have h2 := hys 0 y rfl
      have ih := run_eqFields (xs := xs) (ys := ys) (d := d) fs ks (n + 1) l m r' hrest hr' (by simp at hx; omega) (by simp at hy; omega)
        (fun j x hj => by have := hxs (j + 1) x (by simpa using hj); rwa [show n + (j + 1) = n + 1 + j by omega] at this)
        (fun j x hj => by have := hys (j + 1) x (by simpa using hj); rwa [show n + (j + 1) = n + 1 + j by omega] at this)
      simp only [Nat.add_zero] at h1 h2
      have hx0 : n < xs.size := by simp at hx; omega
      have hy0 : n < ys.size := by simp at hy; omega
      have fin : ∀ q : Bool, (∃ u, P.underlying f.type = some u ∧ (∀ fs, u ≠ .struct fs) ∧ (∀ n e, u ≠ .array n e)) →
          (Op.equalIn (d + 1) f.type (xs.getD n undef) (ys.getD n undef)).run P w = .ok q w → (Op.eqFields (d + 1) xs ys (f :: fs)).run P w = .ok (q && r' ()) w := by
        intro q ⟨u, hu, hu1, hu2⟩ hq
        simp only [Op.eqFields, hnm, not_false_eq_true, ne_eq, if_true, hofs, Sem.run_bind, part_one hu hu1 hu2 hx0, part_one hu hu1 hu2 hy0, Result.andThen_ok, hq]
        cases q <;> simp [ih]
      split at he
      · cases he
        obtain ⟨k', hu⟩ := LK.fits_i hty
        rw [rep_i h1, rep_i h2] at fin
        exact fin _ ⟨_, hu, by simp, by simp⟩ (run_equalIn_int w d f.type _ _ _ _ hu)
      · cases he
        have hu := LK.fits_b hty
        rw [rep_b h1, rep_b h2] at fin
        exact fin _ ⟨_, hu, by simp, by simp⟩ (run_equalIn_bool' w d f.type _ _ hu)
      · cases he
        have hu := LK.fits_b hty
        rw [rep_bc h1, rep_b h2] at fin
        exact fin _ ⟨_, hu, by simp, by simp⟩ (run_equalIn_bool' w d f.type _ _ hu)
      · cases he
        have hu := LK.fits_b hty
        rw [rep_b h1, rep_bc h2] at fin
        exact fin _ ⟨_, hu, by simp, by simp⟩ (run_equalIn_bool' w d f.type _ _ hu)
      · cases he
        have hu := LK.fits_b hty
        rw [rep_bc h1, rep_bc h2] at fin
        exact fin _ ⟨_, hu, by simp, by simp⟩ (run_equalIn_bool' w d f.type _ _ hu)
      · cases he
        have hu := LK.fits_s hty
        rw [rep_s h1, rep_s h2] at fin
        exact fin _ ⟨_, hu, by simp, by simp⟩ (run_equalIn_string w d f.type _ _ hu)
      · cases he
  | [], [], _, [], _ :: _, _, _, he, _, _, _, _ => by simp [eqCells] at he
  | [], [], _, _ :: _, _, _, _, he, _, _, _, _ => by simp [eqCells] at he
  | [], _ :: _, _, _, _, _, hf, _, _, _, _, _ => by simp [flatB] at hf
  | _ :: _, [], _, _, _, _, hf, _, _, _, _, _ => by simp [flatB] at hf
  | _ :: _, _ :: _, _, [], _, _, _, he, _, _, _, _ => by simp [eqCells] at he
  | _ :: _, _ :: _, _, _ :: _, [], _, _, he, _, _, _, _ => by simp [eqCells] at he


theorem rep_asB {x : AV} {v : Value} {p : Th Bool} (hr : Rep w M β cp x v) (hp : asB x = some p) : v = .bool (p ()) := by
  unfold asB at hp
  split at hp
  · cases hp; exact rep_b hr
  · cases hp; exact rep_bc hr
  · cases hp

theorem binK_sound {t t' : TypeId} {op : BinOp} {x y : Operand} (hh : HeapRel w M β cp h) (ho : o.op = .binOp op t x y t') {k : IntKind} {p q : Th Int}
    (ex : a.eval x = .int k (p ())) (ey : a.eval y = .int k (q ())) : (aBinK k op p q).Sound (Good P o a w M β cp h nid) := by
  have run : ∀ v : Value, (binOp op t (.int k (p ())) (.int k (q ()))).run P w = .ok v w → (execOp a.eval o).run P w = .ok (.value v) w := by
    intro v hv
    have hg : (eqGuard op t x y (.int k (p ())) (.int k (q ()))).run P w = .ok () w := by cases op <;> simp [eqGuard]
    simp [execOp, ho, ex, ey, hg, hv]
  unfold aBinK
  split
  · exact good_val hh (run (.int k (k.wrap (p () + q ()))) (by simp [binOp, Op.intArith])) (.c (.i k fun _ => k.wrap (p () + q ())))
  · exact good_val hh (run (.int k (k.wrap (p () - q ()))) (by simp [binOp, Op.intArith])) (.c (.i k fun _ => k.wrap (p () - q ())))
  · exact good_val hh (run (.int k (k.wrap (p () * q ()))) (by simp [binOp, Op.intArith])) (.c (.i k fun _ => k.wrap (p () * q ())))
  · intro h0
    have h0 : q () ≠ 0 := h0
    exact good_val hh (run (.int k (k.wrap ((p ()).tdiv (q ())))) (by simp [binOp, Op.intDiv, h0])) (.c (.i k fun _ => k.wrap ((p ()).tdiv (q ()))))
  · intro h0
    have h0 : q () ≠ 0 := h0
    exact good_val hh (run (.int k ((p ()).tmod (q ()))) (by simp [binOp, Op.intDiv, h0])) (.c (.i k fun _ => (p ()).tmod (q ())))
  · exact good_val hh (run (.int k (bAnd k (p ()) (q ()))) (by simp [binOp, Op.intBits, bAnd])) (.c (.i k fun _ => bAnd k (p ()) (q ())))
  · exact good_val hh (run (.int k (bOr k (p ()) (q ()))) (by simp [binOp, Op.intBits, bOr])) (.c (.i k fun _ => bOr k (p ()) (q ())))
  · exact good_val hh (run (.int k (bXor k (p ()) (q ()))) (by simp [binOp, Op.intBits, bXor])) (.c (.i k fun _ => bXor k (p ()) (q ())))
  · exact good_val hh (run (.int k (bAndNot k (p ()) (q ()))) (by simp [binOp, Op.intBits, bAndNot])) (.c (.i k fun _ => bAndNot k (p ()) (q ())))
  · exact good_val hh (run (.bool (decide (p () < q ()))) (by simp [binOp, Op.intCmp])) (.c (.b fun _ => decide (p () < q ())))
  · exact good_val hh (run (.bool (decide (p () ≤ q ()))) (by simp [binOp, Op.intCmp])) (.c (.b fun _ => decide (p () ≤ q ())))
  · exact good_val hh (run (.bool (decide (q () < p ()))) (by simp [binOp, Op.intCmp])) (.c (.b fun _ => decide (q () < p ())))
  · exact good_val hh (run (.bool (decide (q () ≤ p ()))) (by simp [binOp, Op.intCmp])) (.c (.b fun _ => decide (q () ≤ p ())))
  · exact good_val hh (run (.bool (p () == q ())) (by simp [binOp, Op.intCmp])) (.c (.b fun _ => p () == q ()))
  · exact good_val hh (run (.bool (!(p () == q ()))) (by simp [binOp, Op.intCmp]; rfl)) (.c (.b fun _ => !(p () == q ())))
  · intro h0
    have h0 : ¬ q () < 0 := Int.not_lt.2 h0
    exact good_val hh (run (.int k (bShl k (p ()) (q ()))) (by simp [binOp, Op.shift, bShl, h0])) (.c (.i k fun _ => bShl k (p ()) (q ())))
  · intro h0
    have h0 : ¬ q () < 0 := Int.not_lt.2 h0
    exact good_val hh (run (.int k (bShr k (p ()) (q ()))) (by simp [binOp, Op.shift, bShr, h0])) (.c (.i k fun _ => bShr k (p ()) (q ())))

theorem bin_sound {T : Ty} {t t' : TypeId} {op : BinOp} {x y : Operand} {wr : Bool} (hT : TyOk P t T) (hh : HeapRel w M β cp h) (ho : o.op = .binOp op t x y t') {X Y : AV}
    (hx : Rep w M β cp X (a.eval x)) (hy : Rep w M β cp Y (a.eval y)) : (aBin T wr op X Y).Sound (Good P o a w M β cp h nid) := by
  unfold aBin
  split
  · rename_i k p k' q
    have ex := rep_i hx
    have ey := rep_i hy
    have run : ∀ v : Value, (binOp op t (.int k (p ())) (.int k' (q ()))).run P w = .ok v w → (execOp a.eval o).run P w = .ok (.value v) w := by
      intro v hv
      have hg : (eqGuard op t x y (.int k (p ())) (.int k' (q ()))).run P w = .ok () w := by cases op <;> simp [eqGuard]
      simp [execOp, ho, ex, ey, hg, hv]
    split
    · rename_i hk
      obtain rfl := kEq_eq hk
      split
      · intro hr
        exact good_val hh (run (.int .i64 (p () + q ())) (by simp [binOp, Op.intArith, wrap64_in hr])) (.c (.i .i64 fun _ => p () + q ()))
      · intro hr
        exact good_val hh (run (.int .i64 (p () - q ())) (by simp [binOp, Op.intArith, wrap64_in hr])) (.c (.i .i64 fun _ => p () - q ()))
      · intro hr
        exact good_val hh (run (.int .i64 (p () * q ())) (by simp [binOp, Op.intArith, wrap64_in hr])) (.c (.i .i64 fun _ => p () * q ()))
      · rintro ⟨h0, hr⟩
        exact good_val hh (run (.int .i64 ((p ()).tdiv (q ()))) (by simp [binOp, Op.intDiv, wrap64_in hr, h0])) (.c (.i .i64 fun _ => (p ()).tdiv (q ())))
      · exact binK_sound hh ho ex ey
    · split
      · intro h0
        have h0 : ¬ q () < 0 := Int.not_lt.2 h0
        exact good_val hh (run (.int k (bShl k (p ()) (q ()))) (by simp [binOp, Op.shift, bShl, h0])) (.c (.i k fun _ => bShl k (p ()) (q ())))
      · intro h0
        have h0 : ¬ q () < 0 := Int.not_lt.2 h0
        exact good_val hh (run (.int k (bShr k (p ()) (q ()))) (by simp [binOp, Op.shift, bShr, h0])) (.c (.i k fun _ => bShr k (p ()) (q ())))
      · trivial
  · rename_i p q
    have ex := rep_s hx
    have ey := rep_s hy
    have run : ∀ v : Value, (binOp op t (.string (p ())) (.string (q ()))).run P w = .ok v w → (execOp a.eval o).run P w = .ok (.value v) w := by
      intro v hv
      have hg : (eqGuard op t x y (.string (p ())) (.string (q ()))).run P w = .ok () w := by cases op <;> simp [eqGuard]
      simp [execOp, ho, ex, ey, hg, hv]
    split
    · exact good_val hh (run (.bool ((p ()).toList == (q ()).toList)) (by simp [binOp, Op.stringOp])) (.c (.b fun _ => (p ()).toList == (q ()).toList))
    · exact good_val hh (run (.bool (!((p ()).toList == (q ()).toList))) (by simp [binOp, Op.stringOp])) (.c (.b fun _ => !((p ()).toList == (q ()).toList)))
    · intro hr
      have hr : (p ()).size + (q ()).size ≤ 9223372036854775807 := hr
      refine good_val hh (run (.string (p () ++ q ())) ?_) (.c (.s fun _ => p () ++ q ()))
      simp only [binOp, Op.stringOp]
      rw [if_neg (by simp [IntKind.max, IntKind.bits, IntKind.signed]; omega)]
      rfl
    · trivial
  · rename_i l m
    obtain ⟨xs, ex, hl, _⟩ := rep_agg hx
    obtain ⟨ys, ey, hm, _⟩ := rep_agg hy
    split
    · rename_i ks fs sz z
      split
      · rename_i r hr
        obtain ⟨⟨fields, hu, _, hflat⟩, _⟩ := hT
        obtain ⟨h1, h2, h3⟩ := hflat ks rfl
        have hfo : P.fieldsOf t = fields := by simp [Program.fieldsOf, hu]
        have he := run_equalIn_struct (P := P) w 9999 t xs ys (by rw [hfo]; exact hu) h1
        rw [hfo, run_eqFields (d := 9998) (w := w) (M := M) (β := β) (cp := cp) fields.toList ks 0 l m r h3 hr (by have := hl.1; simp at this; omega) (by have := hm.1; simp at this; omega)
          (fun j x hj => by have := hl.2 j x hj; rw [Nat.zero_add, getD_arr]; exact this) (fun j x hj => by have := hm.2 j x hj; rw [Nat.zero_add, getD_arr]; exact this)] at he
        have run : ∀ v : Value, (binOp op t (.agg xs) (.agg ys)).run P w = .ok v w → (execOp a.eval o).run P w = .ok (.value v) w := by
          intro v hv
          have hg := run_eqGuard_agg (P := P) w op t x y xs ys h2
          simp [execOp, ho, ex, ey, hg, hv]
        split
        · exact good_val hh (run (.bool (r ())) (by rw [run_eql_struct, he]; rfl)) (.c (.b r))
        · exact good_val hh (run (.bool (!(r ()))) (by rw [run_neq_struct, he]; rfl)) (.c (.b fun _ => !(r ())))
        · trivial
      · trivial
    · trivial
  · split
    · rename_i p q hp hq
      have ex := rep_asB hx hp
      have ey := rep_asB hy hq
      have run : ∀ v : Value, (binOp op t (.bool (p ())) (.bool (q ()))).run P w = .ok v w → (execOp a.eval o).run P w = .ok (.value v) w := by
        intro v hv
        have hg : (eqGuard op t x y (.bool (p ())) (.bool (q ()))).run P w = .ok () w := by cases op <;> simp [eqGuard]
        simp [execOp, ho, ex, ey, hg, hv]
      split
      · exact good_val hh (run _ (run_eql_bool w t _ _ hT.1)) (.c (.b fun _ => p () == q ()))
      · exact good_val hh (run _ (run_neq_bool w t _ _ hT.1)) (.c (.b fun _ => !(p () == q ())))
      · trivial
    · trivial

end
end Go.Abs
