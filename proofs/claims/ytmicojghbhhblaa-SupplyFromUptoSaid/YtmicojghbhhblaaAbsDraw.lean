/- A statement whose order is open: one walk in the order of the text serves every order. Definitions, and the steps. -/
import Derived.Test.YtmicojghbhhblaaAbsCall
set_option linter.all false
namespace Go.Abs
open Go

abbrev Det := List AV → Option (Th Prop × AV)

/-- A contract with one outcome, and no new object. -/
def detPC (d : Det) : PC := fun A K => match d A with
  | some (p, r) => Ob p (K r [])
  | none => Bad 300

def conj : List (Th Prop) → Th Prop → Th Prop
  | [], p => p
  | q :: r, p => fun _ => q () ∧ conj r p ()

/-- A step, or a call with one outcome. -/
def stepD (E : Env) (det : FuncId → Option Det) (o : Oper) (s : Tm) (h : Hp) (nid : Nat) : Res :=
  match step E o s h nid with
  | .ok v c => .ok v c
  | .ob p v c => .ob p v c
  | .bad n => match o.op with
    | .call c => match c.callee with
      | .value (.func f) => match det f with
        | some d => match lower.lowerL h (c.args.toList.map (ev s)) with
          | some (q, l, A) => match closedL A, d A with
            | true, some (p, r) => match closed r, l, noSl r with
              | true, [], _ => .ob (conj q p) r .no
              | true, _, true => .ob (conj q p) r .no
              | _, _, _ => .bad 301
            | _, _ => .bad 302
          | none => .bad 303
        | none => .bad 304
      | _ => .bad n
    | _ => .bad n

mutual
def ids : AV → List Nat
  | .own b _ | .ept b _ _ _ | .ptr b _ => [b]
  | .agg l | .tup l | .fn _ l => idsL l
  | .ite _ x y => ids x ++ ids y
  | _ => []
def idsL : List AV → List Nat
  | [] => []
  | x :: r => ids x ++ idsL r
end

structure TrE where
  o : Oper
  v : AV
  c : Chg
  nid : Nat
  rs : List Nat
  rh : List Nat

def Chg.wr (c : Chg) (nid : Nat) : Option (Nat × AObj) := match c with
  | .no => none
  | .new o => some (nid, o)
  | .upd b o => some (b, o)

def opSlots (o : Oper) : List Operand → List Nat
  | [] => []
  | .tmp t :: r => t :: opSlots o r
  | _ :: r => opSlots o r

def guardSlot (all : List (Option Tmp)) (o : Oper) : List Nat := match o.guard with
  | none => []
  | some (j, _) => match nth none all j with
    | some d => [d]
    | none => []

def slotsOf (all : List (Option Tmp)) (o : Oper) : List Nat := guardSlot all o ++ opSlots o o.op.operands.toList
def idsAt (s : Tm) : List Operand → List Nat
  | [] => []
  | x :: r => ids (ev s x) ++ idsAt s r

def isNewOp : Op → Bool
  | .alloc _ | .box _ _ | .buildSlice _ _ _ | .makeSlice _ _ _ => true
  | _ => false
/-- Where a new object is laid; N: behind all. -/
def nidOf (N : Nat) (o : Oper) (h : Hp) : Nat := match isNewOp o.op with | true => len h | false => N

def chgOk (o : Op) (h : Hp) : Chg → Bool
  | .new _ => isNewOp o
  | .no => match isNewOp o with | true => false | false => true
  | .upd b _ => match isNewOp o with | true => false | false => Nat.blt b (len h)

/-- What is settled of the guards' slots. -/
def fwdM (d : Nat) : List (Nat × Bool) → Option Bool
  | [] => none
  | (i, y) :: r => match Nat.beq i d with | true => some y | false => fwdM d r
def dropM (o : Option Tmp) : List (Nat × Bool) → List (Nat × Bool)
  | [] => []
  | (i, y) :: r => match o with
    | none => (i, y) :: r
    | some d => match Nat.beq i d with | true => dropM o r | false => (i, y) :: dropM o r

/-- The order of the text: what each operation comes to. -/
def vcDraw (E : Env) (det : FuncId → Option Det) (nt N : Nat) (all : List (Option Tmp)) : List Oper → List (Nat × Bool) → Tm → Hp → List TrE → (Tm → Hp → List TrE → Prop) → Prop
  | [], _, s, h, tr, K => K s h tr
  | o :: r, m, s, h, tr, K =>
    let go (m : List (Nat × Bool)) (v : AV) (c : Chg) : Prop := match chgOk o.op h c, put nt o.dst v s with
      | true, some s' => vcDraw E det nt N all r (dropM o.dst m) s' (c.on (nidOf N o h) h) (tr ++ [⟨o, v, c, nidOf N o h, slotsOf all o, idsAt s o.op.operands.toList⟩]) K
      | _, _ => Bad 310
    let run (m : List (Nat × Bool)) : Prop := match stepD E det o s h (nidOf N o h) with
      | .ok v c => go m v c
      | .ob p v c => Ob p (go m v c)
      | .bad n => Bad n
    let skip (m : List (Nat × Bool)) : Prop := match put nt o.dst (.tup []) s with
      | some s' => vcDraw E det nt N all r (dropM o.dst m) s' h (tr ++ [⟨o, .tup [], .no, N, slotsOf all o, []⟩]) K
      | none => Bad 313
    match o.guard with
    | none => run m
    | some (j, b) => match nth none all j with
      | none => Bad 311
      | some d => match lk s d with
        | .bc x => match x, b with
          | true, true => run m
          | false, false => run m
          | _, _ => skip m
        | .b x => match fwdM d m with
          | some y => match y, b with
            | true, true => run m
            | false, false => run m
            | _, _ => skip m
          | none => match b with
            | true => splitB x (fun _ => run ((d, true) :: m)) fun _ => skip ((d, false) :: m)
            | false => splitB x (fun _ => skip ((d, true) :: m)) fun _ => run ((d, false) :: m)
        | .tup [] => skip m
        | _ => Bad 312

def inter : List Nat → List Nat → Bool
  | [], _ => false
  | x :: r, l => match memN x l with | true => true | false => inter r l
def optL : Option Nat → List Nat
  | none => []
  | some x => [x]
def wrL (e : TrE) : List Nat := match e.c.wr e.nid with | none => [] | some (b, _) => [b]

/-- May the two not change places? -/
def confl (x y : TrE) : Bool :=
  match inter (optL x.o.dst) (y.rs ++ optL y.o.dst), inter (optL y.o.dst) x.rs, inter (wrL x) (y.rh ++ wrL y), inter (wrL y) x.rh with
  | false, false, false, false => false
  | _, _, _, _ => true

def bindsAny (e : Edge) : Bool := match e.ground with
  | .textOnly _ => false
  | .gcOnly _ => false
  | _ => true

def preds (j : Nat) (acc : List (List Nat)) : List Edge → Option (List Nat)
  | [] => some []
  | e :: r => match preds j acc r with
    | none => none
    | some l => match bindsAny e with
      | false => some l
      | true => match Nat.blt e.on j with
        | true => some (e.on :: (nth [] acc e.on ++ l))
        | false => none
/-- Which operations stand ahead of each. -/
def befs : Nat → List (List Nat) → List Oper → Option (List (List Nat))
  | _, acc, [] => some acc
  | j, acc, o :: r => match preds j acc o.after.toList with
    | none => none
    | some l => befs (j + 1) (acc ++ [l]) r

def okPair (bef : List Nat) (y : TrE) : Nat → List TrE → Bool
  | _, [] => true
  | i, x :: r => match confl x y with
    | false => okPair bef y (i + 1) r
    | true => match memN i bef with
      | true => okPair bef y (i + 1) r
      | false => false
/-- Whatever may not change places stands in order. -/
def okAll (bef : List (List Nat)) (done : List TrE) : List TrE → Bool
  | [] => true
  | y :: r => match okPair (nth [] bef (len done)) y 0 done with
    | true => okAll bef (done ++ [y]) r
    | false => false

def okDraw (ops : List Oper) (tr : List TrE) : Bool :=
  match befs 0 [] ops with
  | none => false
  | some bef => okAll bef [] tr

section
variable {P : Program} {E : Env} {det : FuncId → Option Det} {w : World} {M : Nat → Prop} {β : Nat → Option Nat} {cp : Nat → Nat} {h : Hp} {o : Oper} {a : Act} {s : Tm} {nid : Nat}

def DetOk (P : Program) (det : FuncId → Option Det) : Prop := ∀ f d, det f = some d → Enters P f ∧ PcOk P f (detPC d)

theorem conj_out : ∀ {q : List (Th Prop)} {p : Th Prop}, conj q p () → (∀ x ∈ q, x ()) ∧ p ()
  | [], p, h => ⟨by simp, h⟩
  | x :: q, p, h => by
    have := conj_out (q := q) (p := p) h.2
    exact ⟨by intro y hy; rcases List.mem_cons.1 hy with rfl | hy; exact h.1; exact this.1 y hy, this.2⟩

/-- One operation of a statement whose order is open. -/
def GoodD (P : Program) (o : Oper) (a : Act) (w : World) (M : Nat → Prop) (β : Nat → Option Nat) (cp : Nat → Nat) (h : Hp) (nid : Nat) (v : AV) (c : Chg) : Prop :=
  ∀ (next : Act → World → Prop) (Q : Exit → Act → World → Prop), (∀ v' w' M' β' cp', After w M β cp h w' M' β' cp' (c.on nid h) → Rep w' M' β' cp' v v' → next (a.put o.dst v') w') → o.wp P a w next Q

theorem stepD_sound (hE : EnvOk P E) (hD : DetOk P det) (hh : HeapRel w M β cp h) (hn : nid ≤ h.length) (hd : β nid = none) (ht : ∀ t, Rep w M β cp (lk s t) (a.tmps.getD t undef)) :
    (stepD E det o s h nid).Sound (GoodD P o a w M β cp h nid) := by
  have hx := fun x => ev_rep (a := a) ht x
  have hs := step_sound (o := o) (nid := nid) hE hh hn hd hx
  have good : ∀ v c, Good P o a w M β cp h nid v c → GoodD P o a w M β cp h nid v c := by
    rintro v c ⟨n, v', w', M', β', cp', hr, hnv, haf, hrep⟩ next Q hnext
    unfold Oper.wp
    rw [hr]
    rcases hnv with rfl | ⟨rfl, rfl⟩
    · exact hnext _ _ _ _ _ haf hrep
    · exact hnext _ _ _ _ _ haf hrep
  unfold stepD
  split
  · rename_i v c he; rw [he] at hs; exact good v c hs
  · rename_i p v c he; rw [he] at hs; exact fun hp => good v c (hs hp)
  · split
    · rename_i c ho
      split
      · rename_i f hc
        split
        · rename_i d hdf
          split
          · rename_i q l A hl
            split
            · rename_i p r hcl hdA
              obtain ⟨hent, hpc⟩ := hD f d hdf
              have hargs : RepL w M β cp (c.args.toList.map (ev s)) (c.args.map a.eval).toList := ⟨by simp, fun j x hj => by
                simp only [List.getElem?_map, Option.map_eq_some_iff] at hj
                obtain ⟨y, hy, rfl⟩ := hj
                have : (c.args.map a.eval).toList[j]? = some (a.eval y) := by rw [Array.toList_map, List.getElem?_map, hy]; rfl
                rw [List.getD_eq_getElem?_getD, this]
                exact hx y⟩
              have key : (l = [] ∨ noSl r = true) → closed r = true → conj q p () → GoodD P o a w M β cp h nid r .no := by
                intro hls hcr hqp next Q hnext
                obtain ⟨hq, hp⟩ := conj_out hqp
                have hr : (execOp a.eval o).run P w = .ok (.enter f (c.args.map a.eval)) w := by
                  simp [execOp, ho, resolve, hc, Act.eval, Deferred.ofValue, invoke, run_callFunc hent]
                unfold Oper.wp
                rw [hr, Oper.upon_enter]
                have hA' := lowerL_rep hh _ q l A hl hq l (fun _ h => h) _ hargs
                have hA2 : RepL w (fun k => M k ∧ ¬ Lent β l k) (fun _ => none) (fun _ => 0) A (c.args.map a.eval).toList := ⟨hA'.1, fun j x hj => .c (closed_rep (hA'.2 j x hj) (closedL_get hcl hj))⟩
                have hpc' := hpc A (fun r' H' => r' = r ∧ H' = []) (by unfold detPC; rw [hdA]; exact .mk hp ⟨rfl, rfl⟩)
                refine (hpc' w (fun k => M k ∧ ¬ Lent β l k) (fun _ => none) (fun _ => 0) _ ⟨fun _ _ => rfl, fun b o hb => by simp at hb, fun b b' o o' g hb => by simp at hb⟩ hA2).mono ?_
                rintro e w' ⟨v, r', H', kl, M', β', cp', rfl, ⟨rfl, rfl⟩, hh', hak, hrep⟩
                have hsame : ∀ k, k < w.heap.size → w'.heap[k]? = w.heap[k]? := fun k hk => hak.ext.block k hk (by rintro ⟨b, o, hb, _⟩; simp at hb)
                have hkeep : ∀ k, k < w.heap.size → ¬ M k → w'.heap[k]? = w.heap[k]? ∧ ¬ M k := fun k hk hM => ⟨hsame k hk, hM⟩
                have hrC := closed_rep hrep hcr
                refine hnext v w' M β cp ⟨⟨hh.out, fun b o hb => ?_, hh.inj⟩, hkeep, fun _ _ => ⟨rfl, rfl⟩, ⟨hak.ext.os, hak.ext.tape, hak.ext.output, hak.ext.size, fun k hk _ => hsame k hk, fun _ h => h, fun _ h => .inl h⟩, fun _ h => .inl h, fun _ h1 h2 => absurd h1 h2⟩ (.c ?_)
                · by_cases ho : o.live = true
                  · exact (hh.obj b o hb).keep hkeep (fun _ _ => ⟨rfl, rfl⟩) id fun g hg => ⟨hsame g (blk_lt hh hb ho hg).1, id⟩
                  · cases o with
                    | dead => trivial
                    | blk cs => exact absurd rfl ho
                    | vec _ _ _ _ => exact absurd rfl ho
                · rcases hls with rfl | hns
                  · exact hrC.keep fun k _ hM => ⟨rfl, fun h => hM (hak.ext.sub k ⟨h, by rintro ⟨b, hb, _⟩; cases hb⟩)⟩
                  · exact noSl_repC hrC hns
              split
              · exact fun hqp => key (.inl rfl) ‹closed _ = true› hqp
              · exact fun hqp => key (.inr ‹noSl _ = true›) ‹closed _ = true› hqp
              · trivial
            · trivial
          · trivial
        · trivial
      · trivial
    · trivial


theorem load_agree {T : Ty} {h h' : Hp} {X : AV} (hb : ∀ b ∈ ids X, nth .dead h b = nth .dead h' b) : aLoad T h X = aLoad T h' X := by
  cases X <;> simp only [aLoad]
  all_goals rw [hb _ (by simp [ids])]
theorem store_agree {T : Ty} {h h' : Hp} {X V : AV} (hb : ∀ b ∈ ids X, nth .dead h b = nth .dead h' b) : aStore T h X V = aStore T h' X V := by
  cases X <;> simp only [aStore]
  all_goals rw [hb _ (by simp [ids])]

mutual
theorem lower_agree {h h' : Hp} : ∀ (X : AV), (∀ b ∈ ids X, nth .dead h b = nth .dead h' b) → lower h X = lower h' X
  | .own b n, hb => by simp only [lower]; rw [hb b (by simp [ids])]
  | .agg l, hb => by simp only [lower]; rw [lowerL_agree l (fun b h => hb b (by simpa [ids] using h))]
  | .any, _ => rfl
  | .bc _, _ => rfl
  | .b _, _ => rfl
  | .i _ _, _ => rfl
  | .s _, _ => rfl
  | .nil, _ => rfl
  | .con _, _ => rfl
  | .tup _, _ => rfl
  | .ptr _ _, _ => rfl
  | .ept _ _ _ _, _ => rfl
  | .sl _ _ _, _ => rfl
  | .rp _, _ => rfl
  | .fn _ _, _ => rfl
  | .ite _ _ _, _ => rfl
theorem lowerL_agree {h h' : Hp} : ∀ (l : List AV), (∀ b ∈ idsL l, nth .dead h b = nth .dead h' b) → lower.lowerL h l = lower.lowerL h' l
  | [], _ => rfl
  | x :: l, hb => by
    simp only [lower.lowerL]
    rw [lower_agree x (fun b h => hb b (by simp [idsL, h])), lowerL_agree l (fun b h => hb b (by simp [idsL, h]))]
end

theorem idsAt_mem {s : Tm} {b : Nat} {x : Operand} : ∀ {l : List Operand}, x ∈ l → b ∈ ids (ev s x) → b ∈ idsAt s l
  | [], hx, _ => by simp at hx
  | y :: l, hx, hb => by
    rcases List.mem_cons.1 hx with rfl | hx
    · simp [idsAt, hb]
    · simp [idsAt, idsAt_mem hx hb]
theorem idsAt_map {s : Tm} {b : Nat} : ∀ {l : List Operand}, b ∈ idsL (l.map (ev s)) → b ∈ idsAt s l
  | [], h => by simp [idsL] at h
  | x :: l, h => by
    simp only [List.map_cons, idsL, List.mem_append] at h
    simp only [idsAt, List.mem_append]
    exact h.imp id idsAt_map

theorem step_agree {s s' : Tm} {h h' : Hp} (hs : ∀ x ∈ o.op.operands.toList, ev s' x = ev s x) (hb : ∀ b ∈ idsAt s o.op.operands.toList, nth .dead h' b = nth .dead h b) : step E o s' h' nid = step E o s h nid := by
  cases ho : o.op <;> simp only [step, ho]
  case move x => rw [hs x (by simp [ho, Op.operands])]
  case assign x => rw [hs x (by simp [ho, Op.operands])]
  case pick c x y => rw [hs c (by simp [ho, Op.operands]), hs x (by simp [ho, Op.operands]), hs y (by simp [ho, Op.operands])]
  case box t x => rw [hs x (by simp [ho, Op.operands])]
  case build t ps =>
    have : (ps.toList.map fun p => (p.1, ev s' p.2)) = ps.toList.map fun p => (p.1, ev s p.2) := List.map_congr_left fun p hp => by
      rw [hs p.2 (by simp only [ho, Op.operands]; exact List.mem_map.2 ⟨p, hp, rfl⟩)]
    rw [this]
  case buildSlice t n ps =>
    have : (ps.toList.map fun p => (p.1, ev s' p.2)) = ps.toList.map fun p => (p.1, ev s p.2) := List.map_congr_left fun p hp => by
      rw [hs p.2 (by simp only [ho, Op.operands]; exact List.mem_map.2 ⟨p, hp, rfl⟩)]
    split
    · split
      · rfl
      · rename_i x hps
        rw [hs x (by simp [ho, Op.operands, hps])]
      · rw [this]
    · rfl
  case load t x => rw [hs x (by simp [ho, Op.operands])]; exact load_agree fun b h => hb b (idsAt_mem (x := x) (by simp [ho, Op.operands]) h)
  case store t x y =>
    rw [hs x (by simp [ho, Op.operands]), hs y (by simp [ho, Op.operands])]
    exact store_agree fun b h => hb b (idsAt_mem (x := x) (by simp [ho, Op.operands]) h)
  case nilCheck x => rw [hs x (by simp [ho, Op.operands])]
  case binOp op t x y t' => rw [hs x (by simp [ho, Op.operands]), hs y (by simp [ho, Op.operands])]
  case unOp op t x => rw [hs x (by simp [ho, Op.operands])]
  case convert t t' x => rw [hs x (by simp [ho, Op.operands])]
  case makeSlice t x y => rw [hs x (by simp [ho, Op.operands]), hs y (by simp [ho, Op.operands])]
  case fieldAddr t x k => rw [hs x (by simp [ho, Op.operands])]
  case indexAddr t x y =>
    rw [hs x (by simp [ho, Op.operands]), hs y (by simp [ho, Op.operands])]
    split
    · have hb' : ∀ b ∈ ids (ev s x), nth .dead h' b = nth .dead h b := fun b h => hb b (idsAt_mem (x := x) (by simp [ho, Op.operands]) h)
      revert hb'
      generalize ev s x = X
      generalize ev s y = Y
      intro hb'
      cases X
      case own b n => cases Y <;> first | rfl | (dsimp only; rw [hb' b (by simp [ids])])
      all_goals (cases Y <;> rfl)
    · rfl
  case extract x k => rw [hs x (by simp [ho, Op.operands])]
  case slice t x lo hi mx =>
    have e : ∀ y : Option Operand, (∀ z, y = some z → z ∈ o.op.operands.toList) → evO s' y = evO s y := by
      intro y hy
      cases y with
      | none => rfl
      | some z => simp only [evO]; rw [hs z (hy z rfl)]
    rw [hs x (by simp [ho, Op.operands]), e lo (by rintro z rfl; simp [ho, Op.operands]), e hi (by rintro z rfl; simp [ho, Op.operands])]
  case call c =>
    have hc : ∀ y ∈ c.args.toList, ev s' y = ev s y := fun y hy => hs y (by simp [ho, Op.operands, Call.operands]; right; simpa using hy)
    split
    · split
      · rename_i t x _ hx; rw [hc x (by simp [hx])]
      · rfl
    · split
      · rename_i x y hx; rw [hc x (by simp [hx]), hc y (by simp [hx])]
      · rfl
    · split
      · rename_i x y hx; rw [hc x (by simp [hx]), hc y (by simp [hx])]
      · rfl
    · rfl

theorem stepD_agree {s s' : Tm} {h h' : Hp} (hs : ∀ x ∈ o.op.operands.toList, ev s' x = ev s x) (hb : ∀ b ∈ idsAt s o.op.operands.toList, nth .dead h' b = nth .dead h b) : stepD E det o s' h' nid = stepD E det o s h nid := by
  unfold stepD
  rw [step_agree hs hb]
  split
  · rfl
  · rfl
  · split
    · rename_i c ho
      split
      · rename_i f hcal
        have hc : c.args.toList.map (ev s') = c.args.toList.map (ev s) := List.map_congr_left fun y hy => hs y (by simp [ho, Op.operands, Call.operands]; right; simpa using hy)
        rw [hc]
        split
        · rw [lowerL_agree (h := h') (h' := h) _ fun b hm => hb b (by
            have := idsAt_map hm
            have e : o.op.operands.toList = .func f :: c.args.toList := by simp [ho, Op.operands, Call.operands, hcal]
            rw [e]
            simp [idsAt, ev, ids, idsL, this])]
        · rfl
      · rfl
    · rfl

end
end Go.Abs
