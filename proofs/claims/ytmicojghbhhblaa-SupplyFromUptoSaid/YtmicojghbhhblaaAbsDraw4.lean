/- A statement whose order is open, as a walk takes it. -/
import Derived.Test.YtmicojghbhhblaaAbsDraw3
set_option linter.all false
namespace Go.Abs
open Go
section
variable {P : Program} {E : Env} {det : FuncId → Option Det} {w0 : World} {M0 : Nat → Prop} {β0 : Nat → Option Nat} {cp0 : Nat → Nat} {h0 : Hp} {nt : Nat} {kl : List Nat} {bef : List (List Nat)} {tr : List TrE} {sB s1 : Tm} {hB h1 : Hp} {ops : Array Oper} {listed : Array Bool} {Q : Exit → Act → World → Prop} {w : World} {a : Act}

theorem all_listed (hbef : befs 0 [] ops.toList = some bef) (hr : Region.ready .any ops listed = []) (hsz : listed.size = ops.size) : ∀ n i, i < n → i < ops.size → listed.getD i false = true := by
  intro n
  induction n with
  | zero => intro i hi; omega
  | succ n ih =>
    intro i hi hlt
    by_cases hn : i < n
    · exact ih i hn hlt
    · cases hl : listed.getD i false with
      | true => rfl
      | false =>
        have hoi : ops[i]? = some ops[i] := Array.getElem?_eq_getElem hlt
        have hm : i ∈ Region.ready .any ops listed := by
          refine mem_ready.2 ⟨by simpa [Array.getD_eq_getD_getElem?, hsz, hlt] using hl, ops[i], hoi, fun e he hb => ?_⟩
          rw [binds_any] at hb
          have := ((befs_get hbef rfl).2 i ops[i] (by simpa using hoi)).2 e he hb
          exact ih e.on (by omega) (by omega)
        rw [hr] at hm; cases hm

theorem sim_end (hr : Run E det nt (hB.length + ops.size) (ops.toList.map (·.dst)) ops.toList sB hB tr s1 h1) (hbef : befs 0 [] ops.toList = some bef)
    (hs : Sim w0 M0 β0 cp0 h0 nt kl bef tr sB hB ops listed a w) (hnil : Region.ready .any ops listed = []) : St w0 M0 β0 cp0 h0 nt s1 h1 kl a w := by
  obtain ⟨f1, f2, f3, f4, f5, f6⟩ := hr.fin
  obtain ⟨M, β, cp, s, h, hh, ht, hak, hS, hH, hlen, hβ⟩ := hs.ex
  have hall := fun i (hi : i < ops.size) => all_listed hbef hnil hs.sz (i + 1) i (by omega) hi
  simp only [Array.length_toList] at f1 f2 f3 f5
  have hS' : ∀ t, lk s t = lk s1 t := fun t => by rw [hS, f2]; exact lastW_congr fun k hk _ => hall k hk
  have hH' : ∀ b, nth .dead h b = nth .dead h1 b := fun t => by rw [hH, f3]; exact lastW_congr fun k hk _ => hall k hk
  have hget : ∀ (b : Nat) (o : AObj), h1[b]? = some o → h[b]? = some o := by
    intro b o hb
    have hlt : b < h1.length := (List.getElem?_eq_some_iff.1 hb).1
    have h2 := hH' b
    rw [nth_eq, nth_eq, List.getD_eq_getElem?_getD, List.getD_eq_getElem?_getD, hb, List.getElem?_eq_getElem (by omega)] at h2
    simp only [Option.getD_some] at h2
    rw [List.getElem?_eq_getElem (by omega), h2]
  refine ⟨⟨M, β, cp, ⟨fun b hb => ?_, fun b o hb => hh.obj b o (hget b o hb), fun b b' o o' g hb hb' => hh.inj b b' o o' g (hget b o hb) (hget b' o' hb')⟩, fun t => by rw [← hS']; exact ht t, ⟨hak.keep, hak.bk, hak.ext, fun g hg => ?_⟩⟩, hs.nt, hs.df⟩
  · cases hb0 : β b with
    | none => rfl
    | some g =>
      rcases hβ b (by rw [hb0]; simp) with h2 | ⟨k, _, h2⟩
      · omega
      · have := f6 k b h2; omega
  · obtain ⟨b, o, hb, hl, hg⟩ := hg
    exact hak.own g ⟨b, o, hget b o hb, hl, hg⟩

def unl (ops : Array Oper) (listed : Array Bool) : Nat := ((List.range ops.size).filter fun i => !listed.getD i true).length

theorem filter_lt {p q : Nat → Bool} {i : Nat} (hpq : ∀ k, q k = true → p k = true) (hp : p i = true) (hq : q i = false) : ∀ {l : List Nat}, i ∈ l → (l.filter q).length < (l.filter p).length
  | [], h => by simp at h
  | x :: l, h => by
    have hle : ∀ l : List Nat, (l.filter q).length ≤ (l.filter p).length := by
      intro l
      induction l with
      | nil => simp
      | cons y l ih =>
        simp only [List.filter_cons]
        split
        · rename_i hy; rw [if_pos (hpq y hy)]; simp; exact ih
        · split
          · simp; omega
          · exact ih
    simp only [List.filter_cons]
    rcases List.mem_cons.1 h with rfl | h
    · rw [if_pos hp, if_neg (by simp [hq])]; simp; have := hle l; omega
    · have ih := filter_lt hpq hp hq h
      split
      · rename_i hx; rw [if_pos (hpq x hx)]; simp; exact ih
      · split
        · simp; omega
        · exact ih

theorem sim_any (hE : EnvOk P E) (hD : DetOk P det) (hr : Run E det nt (hB.length + ops.size) (ops.toList.map (·.dst)) ops.toList sB hB tr s1 h1) (hbef : befs 0 [] ops.toList = some bef) (hok : okAll bef [] tr = true)
    (hQ : ∀ a w, St w0 M0 β0 cp0 h0 nt s1 h1 kl a w → Q .normal a w) : ∀ (fuel : Nat) (listed : Array Bool) (a : Act) (w : World), unl ops listed ≤ fuel → Sim w0 M0 β0 cp0 h0 nt kl bef tr sB hB ops listed a w → wpAny P .any ops Q fuel listed a w := by
  intro fuel
  induction fuel with
  | zero =>
    intro listed a w hu hs
    have hnil : Region.ready .any ops listed = [] := by
      refine List.eq_nil_iff_forall_not_mem.2 fun i hi => ?_
      obtain ⟨h1, o, h2, _⟩ := mem_ready.1 hi
      have hlt : i < ops.size := (Array.getElem?_eq_some_iff.1 h2).1
      have : i ∈ (List.range ops.size).filter fun i => !listed.getD i true := List.mem_filter.2 ⟨List.mem_range.2 hlt, by rw [h1]; rfl⟩
      unfold unl at hu
      have h0 := List.eq_nil_of_length_eq_zero (Nat.le_zero.1 hu)
      rw [h0] at this
      cases this
    exact ⟨hnil, hQ a w (sim_end hr hbef hs hnil)⟩
  | succ fuel ih =>
    intro listed a w hu hs
    refine ⟨fun hnil => hQ a w (sim_end hr hbef hs hnil), fun i hi => sim_step hE hD hr hbef hok hs hi fun a w hs' => ih _ a w ?_ hs'⟩
    obtain ⟨h1, o, h2, _⟩ := mem_ready.1 hi
    have hlt : i < ops.size := (Array.getElem?_eq_some_iff.1 h2).1
    have hls : i < listed.size := by rw [hs.sz]; exact hlt
    have := filter_lt (p := fun i => !listed.getD i true) (q := fun k => !(listed.setIfInBounds i true).getD k true) (i := i) (fun k hk => by
      by_cases hki : k = i
      · subst hki; simp [Array.getD_eq_getD_getElem?, hls] at hk
      · rw [getD_set_ne true (Ne.symm hki)] at hk; exact hk) (by rw [h1]; rfl) (by simp [Array.getD_eq_getD_getElem?, hls]) (List.mem_range.2 hlt)
    unfold unl at hu ⊢
    omega

/-- A statement whose order is open: the order of the text, and what may not change places stands in order. -/
def draws (E : Env) (det : FuncId → Option Det) : Drw := fun nt ops s h K =>
  vcDraw E det nt (len h + len ops) (ops.map (·.dst)) ops [] s h [] fun s h tr => match okDraw ops tr with | true => K s h | false => Bad 122

theorem heap_same {w w' : World} {M : Nat → Prop} {β : Nat → Option Nat} {cp : Nat → Nat} {h : Hp} (hw : w'.heap = w.heap) (hh : HeapRel w M β cp h) : HeapRel w' M β cp h := by
  have hk : ∀ k, k < w.heap.size → ¬ M k → w'.heap[k]? = w.heap[k]? ∧ ¬ M k := fun k _ hM => ⟨by rw [hw], hM⟩
  exact ⟨hh.out, fun b o hb => (hh.obj b o hb).keep hk (fun _ _ => ⟨rfl, rfl⟩) id fun g _ => ⟨by rw [hw], id⟩, hh.inj⟩

theorem draws_ok (hE : EnvOk P E) (hD : DetOk P det) (hm : P.follows .mixedOrders = true) : DrwOk P (draws E det) := by
  intro w0 M0 β0 cp0 h0 nt id ops s h kl a w K Q hv hst hQ
  refine wp_region_any hm ?_
  unfold draws at hv
  obtain ⟨tr, s', h', hr, hK⟩ := vcDraw_run _ _ _ _ _ (fun d y x h => by simp [fwdM] at h) hv
  simp only [List.nil_append] at hK
  split at hK
  · rename_i hok
    unfold okDraw at hok
    split at hok
    · cases hok
    · rename_i bef hbef
      rw [len_eq, len_eq, Array.length_toList] at hr
      refine sim_any hE hD hr hbef hok (fun a w hst => hQ _ _ a w hK hst) _ _ _ _ ?_ ?_ (w0 := w0) (M0 := M0) (β0 := β0) (cp0 := cp0) (h0 := h0) (kl := kl)
      · unfold unl
        exact Nat.le_trans (List.length_filter_le _ _) (by simp)
      · obtain ⟨⟨M, β, cp, hh, ht, hak⟩, hnt, hdf⟩ := hst
        have hX : ∀ k, (Array.replicate ops.size false).getD k false = false := fun k => by
          rw [Array.getD_eq_getD_getElem?, Array.getElem?_replicate]; split <;> rfl
        have hW : ∀ {α : Type} (base : α) (W : Nat → Option α), lastW base W (fun k => (Array.replicate ops.size false).getD k false) ops.size = base := fun base W =>
          lastW_cut (m := 0) (Nat.zero_le _) fun k _ _ _ => hX k
        have hdead : ∀ (b : Nat) (o : AObj), (h ++ List.replicate ops.size AObj.dead)[b]? = some o → o.live = true → h[b]? = some o := by
          intro b o hb hl
          rcases Nat.lt_or_ge b h.length with h1 | h1
          · rwa [List.getElem?_append_left h1] at hb
          · rw [List.getElem?_append_right h1, List.getElem?_replicate] at hb
            split at hb
            · cases hb; cases hl
            · cases hb
        have hh2 := heap_same (w := w) (w' := { w with drawn := w.drawn + 1 }) rfl hh
        have hk : ∀ k, k < w.heap.size → ¬ M k → ({ w with drawn := w.drawn + 1 } : World).heap[k]? = w.heap[k]? ∧ ¬ M k := fun k _ hM => ⟨rfl, hM⟩
        refine ⟨by simp, fun j hj => (by rw [hX] at hj; cases hj), ⟨M, β, cp, s, h ++ List.replicate ops.size .dead, ⟨fun b hb => hh2.out b (by simp at hb; omega), fun b o hb => ?_, fun b b' o o' g hb hb' hl hl' => hh2.inj b b' o o' g (hdead b o hb hl) (hdead b' o' hb' hl') hl hl'⟩, fun t => (ht t).keep hk fun _ _ => ⟨rfl, rfl⟩, ⟨hak.keep, hak.bk, ⟨hak.ext.os, hak.ext.tape, hak.ext.output, hak.ext.size, hak.ext.block, hak.ext.sub, hak.ext.new⟩, fun g hg => ?_⟩, fun t => (hW _ _).symm, fun b => ?_, by simp, fun b hb => ?_⟩, hnt, hdf⟩
        · cases o with
          | dead => trivial
          | blk cs => exact hh2.obj b _ (hdead b _ hb rfl)
          | vec e sz n f => exact hh2.obj b _ (hdead b _ hb rfl)
        · obtain ⟨b, o, hb, hl, hg⟩ := hg
          exact hak.own g ⟨b, o, hdead b o hb hl, hl, hg⟩
        · rw [hW, nth_eq, nth_eq, List.getD_eq_getElem?_getD, List.getD_eq_getElem?_getD]
          rcases Nat.lt_or_ge b h.length with h1 | h1
          · rw [List.getElem?_append_left h1]
          · rw [List.getElem?_append_right h1, List.getElem?_eq_none h1, List.getElem?_replicate]
            split <;> rfl
        · refine .inl ?_
          rcases Nat.lt_or_ge b h.length with h1 | h1
          · exact h1
          · exact absurd (hh.out b h1) hb
  · cases hK

end
end Go.Abs
