/- The terminals: what lies where; connect, New, Drop. -/
import Derived.Test.YtnnocbelgfhecaaGreatDoorTwn
import Derived.Test.YtnnocbelgfhecaaGreatDoorTwi
import Derived.Laws.EntriesVeiled
set_option linter.unusedSimpArgs false
namespace Go.Proofs.YtnnocbelgfhecaaGreatDoor
open Go.ChangeShapes Go.WideShapes Go.ChangeAt Go.RowKit Go.Lott
/-- The cells of a terminal. -/
def teC (q id : Nat) (key : Int) (nx : Nat) (on : Bool) (wv pv : Value) : Array Value := #[.int .i64 id, .int .i64 5, .int .i64 nx, .int .u64 key, .bool on, .func (.func (if on then 40 else 21)) #[.pointer (some ⟨q, 0, none⟩)] #[], wv, pv]
structure TObj (w : World) (B : Nat) (σ : Rl) (q id : Nat) (key : Int) (nx : Nat) (on : Bool) (wt : List Tp.Tk) (k : Nat) (wv pv : Value) : Prop where
  low : ∀ b, σ b ≠ none → B ≤ b ∧ b < w.heap.size
  tq : σ q = some (0, 0)
  cp : Cel w q (teC q id key nx on wv pv) 73
  wr : w.ownsRow B 44 7 wv wt.length (wt.flatMap fun t => (rcC key t).toList)
  pr : w.ownsRow B 3 1 pv k (List.replicate k (.int .i64 0))
  wT : ∀ g, wv.ownBlock = some g → σ g = some (1, 0)
  pT : ∀ g, pv.ownBlock = some g → σ g = some (2, 0)
section
variable {w w1 : World} {B q id k : Nat} {σ τ : Rl} {key : Int} {nx : Nat} {on : Bool} {wt : List Tp.Tk} {wv pv : Value}
theorem TObj.same (h : TObj w B σ q id key nx on wt k wv pv) (hs : w.heap.size ≤ w1.heap.size) (hb : ∀ b, σ b ≠ none → w1.heap[b]? = w.heap[b]?) : TObj w1 B σ q id key nx on wt k wv pv where
  low := fun b hb => ⟨(h.low b hb).1, Nat.lt_of_lt_of_le (h.low b hb).2 hs⟩
  tq := h.tq
  cp := (hb q (by rw [h.tq]; simp)).trans h.cp
  wr := ownsRow_same h.wr (fun g hg => hb g (by rw [h.wT g hg]; simp))
  pr := ownsRow_same h.pr (fun g hg => hb g (by rw [h.pT g hg]; simp))
  wT := h.wT
  pT := h.pT
theorem TObj.below (h : TObj w B σ q id key nx on wt k wv pv) (hb : Below w.heap.size w w1) : TObj w1 B σ q id key nx on wt k wv pv :=
  h.same hb.size (fun b hr => hb.block b (h.low b hr).2)
theorem TObj.fr (h : TObj w B σ q id key nx on wt k wv pv) (hf : Fr τ w w1) (hd : ∀ b, σ b ≠ none → τ b = none) : TObj w1 B σ q id key nx on wt k wv pv :=
  h.same hf.size (fun b hr => hf.block b (h.low b hr).2 (hd b hr))
theorem TObj.pushW (h : TObj w B σ q id key nx on wt k wv pv) (t : Tp.Tk) {V w9 : World} {gg cap : Nat} (hV : Below w.heap.size w V) (hgrow : V.grownBy w9 wv.ownBlock)
    (hown : w9.ownsRow B 44 7 (.slice (some ⟨gg, 0, none⟩) (wt.length + 1) cap) (wt.length + 1) ((wt.flatMap fun t => (rcC key t).toList) ++ (rcC key t).toList)) (hat : wv.ownBlock = some gg ∨ w.heap.size ≤ gg) (hlt : gg < w9.heap.size) :
    TObj (w9.setCell ⟨q, 6, none⟩ (.slice (some ⟨gg, 0, none⟩) (wt.length + 1) cap)) B (tg σ gg (1, 0)) q id key nx on (wt ++ [t]) k (.slice (some ⟨gg, 0, none⟩) (wt.length + 1) cap) pv ∧
      Fr σ w (w9.setCell ⟨q, 6, none⟩ (.slice (some ⟨gg, 0, none⟩) (wt.length + 1) cap)) ∧ Gr σ (tg σ gg (1, 0)) w.heap.size := by
  have hql := h.cp.lt
  have hg0 : σ gg = some (1, 0) ∨ σ gg = none := by
    rcases hat with e | e
    · exact .inl (h.wT gg e)
    · exact .inr (Classical.byContradiction fun c => by have := (h.low gg c).2; omega)
  have hqg : gg ≠ q := fun e => by
    subst e
    rcases hg0 with e | e <;> rw [h.tq] at e <;> cases e
  have hfr : Fr σ w w9 := (Fr.of_below hV).grown hgrow (fun k hk => .inl (by rw [h.wT k hk]; simp))
  have hbk : ∀ b, b < w.heap.size → some b ≠ wv.ownBlock → w9.heap[b]? = w.heap[b]? := fun b hb hne => by
    exact (hgrow.block b (Nat.lt_of_lt_of_le hb hV.size) hne).trans (hV.block b hb)
  have hqw : some q ≠ wv.ownBlock := fun e => by
    have := h.wT q e.symm
    rw [h.tq] at this; cases this
  have hsz := hfr.size
  have hpb : ∀ g, pv.ownBlock = some g → (w9.setCell ⟨q, 6, none⟩ (.slice (some ⟨gg, 0, none⟩) (wt.length + 1) cap)).heap[g]? = w.heap[g]? := fun g hg => by
    have hgT := h.pT g hg
    have hgl := (h.low g (by rw [hgT]; simp)).2
    rw [Below.heap_setCell _ _ _ _ (show g ≠ q from fun e => by subst e; rw [h.tq] at hgT; cases hgT)]
    exact hbk g hgl (fun e => by have := h.wT g e.symm; rw [hgT] at this; cases this)
  refine ⟨?_, hfr.setCell (.inl (by show σ q ≠ none; rw [h.tq]; simp)) _, Gr.tg ?_⟩
  · exact {
      low := fun b hb => by
        rw [sz_set]
        by_cases e : b = gg
        · subst e
          have hB : B ≤ w.heap.size := Nat.le_trans (h.low q (by rw [h.tq]; simp)).1 (Nat.le_of_lt hql)
          have := (ownsRow_range hown).2.2.1
          exact ⟨this, hlt⟩
        · rw [tg_ne _ e] at hb
          have := h.low b hb
          omega
      tq := by rw [tg_ne _ (fun e => hqg e.symm)]; exact h.tq
      cp := by
        have := (show Cel w9 q _ 73 from (hbk q hql hqw).trans h.cp).set 6 (.slice (some ⟨gg, 0, none⟩) (wt.length + 1) cap)
        simpa [teC] using this
      wr := by
        rw [List.flatMap_append, List.length_append]
        refine ownsRow_same ?_ (fun g hg => Below.heap_setCell _ _ _ _ (show g ≠ q from fun e => by
          subst e
          exact hqg (by cases hg; rfl)))
        simpa using hown
      pr := ownsRow_same h.pr hpb
      wT := fun g hg => by cases hg; exact tg_same _ _ _
      pT := fun g hg => by
        have hgT := h.pT g hg
        by_cases e : g = gg
        · subst e
          rcases hg0 with e | e <;> rw [hgT] at e <;> cases e
        · rw [tg_ne _ e]; exact hgT }
  · rcases hat with e | e
    · exact .inl (by rw [h.wT gg e]; simp)
    · exact .inr e
theorem TObj.pushP (h : TObj w B σ q id key nx on wt k wv pv) {V w9 : World} {gg cap : Nat} (hV : Below w.heap.size w V) (hgrow : V.grownBy w9 pv.ownBlock)
    (hown : w9.ownsRow B 3 1 (.slice (some ⟨gg, 0, none⟩) (k + 1) cap) (k + 1) (List.replicate k (.int .i64 0) ++ [.int .i64 0])) (hat : pv.ownBlock = some gg ∨ w.heap.size ≤ gg) (hlt : gg < w9.heap.size) :
    TObj (w9.setCell ⟨q, 7, none⟩ (.slice (some ⟨gg, 0, none⟩) (k + 1) cap)) B (tg σ gg (2, 0)) q id key nx on wt (k + 1) wv (.slice (some ⟨gg, 0, none⟩) (k + 1) cap) ∧
      Fr σ w (w9.setCell ⟨q, 7, none⟩ (.slice (some ⟨gg, 0, none⟩) (k + 1) cap)) ∧ Gr σ (tg σ gg (2, 0)) w.heap.size := by
  have hql := h.cp.lt
  have hg0 : σ gg = some (2, 0) ∨ σ gg = none := by
    rcases hat with e | e
    · exact .inl (h.pT gg e)
    · exact .inr (Classical.byContradiction fun c => by have := (h.low gg c).2; omega)
  have hqg : gg ≠ q := fun e => by
    subst e
    rcases hg0 with e | e <;> rw [h.tq] at e <;> cases e
  have hfr : Fr σ w w9 := (Fr.of_below hV).grown hgrow (fun j hk => .inl (by rw [h.pT j hk]; simp))
  have hbk : ∀ b, b < w.heap.size → some b ≠ pv.ownBlock → w9.heap[b]? = w.heap[b]? := fun b hb hne => by
    exact (hgrow.block b (Nat.lt_of_lt_of_le hb hV.size) hne).trans (hV.block b hb)
  have hqw : some q ≠ pv.ownBlock := fun e => by
    have := h.pT q e.symm
    rw [h.tq] at this; cases this
  have hsz := hfr.size
  have hpb : ∀ g, wv.ownBlock = some g → (w9.setCell ⟨q, 7, none⟩ (.slice (some ⟨gg, 0, none⟩) (k + 1) cap)).heap[g]? = w.heap[g]? := fun g hg => by
    have hgT := h.wT g hg
    have hgl := (h.low g (by rw [hgT]; simp)).2
    rw [Below.heap_setCell _ _ _ _ (show g ≠ q from fun e => by subst e; rw [h.tq] at hgT; cases hgT)]
    exact hbk g hgl (fun e => by have := h.pT g e.symm; rw [hgT] at this; cases this)
  refine ⟨?_, hfr.setCell (.inl (by show σ q ≠ none; rw [h.tq]; simp)) _, Gr.tg ?_⟩
  · exact {
      low := fun b hb => by
        rw [sz_set]
        by_cases e : b = gg
        · subst e
          have hB : B ≤ w.heap.size := Nat.le_trans (h.low q (by rw [h.tq]; simp)).1 (Nat.le_of_lt hql)
          have := (ownsRow_range hown).2.2.1
          exact ⟨this, hlt⟩
        · rw [tg_ne _ e] at hb
          have := h.low b hb
          omega
      tq := by rw [tg_ne _ (fun e => hqg e.symm)]; exact h.tq
      cp := by
        have := (show Cel w9 q _ 73 from (hbk q hql hqw).trans h.cp).set 7 (.slice (some ⟨gg, 0, none⟩) (k + 1) cap)
        simpa [teC] using this
      wr := ownsRow_same h.wr hpb
      pr := by
        rw [List.replicate_succ']
        exact ownsRow_same hown (fun g hg => Below.heap_setCell _ _ _ _ (show g ≠ q from fun e => by
          subst e
          exact hqg (by cases hg; rfl)))
      pT := fun g hg => by cases hg; exact tg_same _ _ _
      wT := fun g hg => by
        have hgT := h.wT g hg
        by_cases e : g = gg
        · subst e
          rcases hg0 with e | e <;> rw [hgT] at e <;> cases e
        · rw [tg_ne _ e]; exact hgT }
  · rcases hat with e | e
    · exact .inl (by rw [h.pT gg e]; simp)
    · exact .inr e
end
theorem teConnect_any (q id : Nat) (key : Int) (nx : Nat) (on : Bool) (f wv pv : Value) (w : World) (h : Cel w q #[.int .i64 id, .int .i64 5, .int .i64 nx, .int .u64 key, .bool on, f, wv, pv] 73) :
    Calls Tryz.prog 20 #[.pointer (some ⟨q, 0, none⟩)] w fun e w' => e = .returned (.tuple #[]) ∧ Cel w' q (teC q id key nx true (.slice none 0 0) (.slice none 0 0)) 73 ∧ w'.heap.size = w.heap.size ∧ (∀ b, b ≠ q → w'.heap[b]? = w.heap[b]?) ∧ Below q w w' := by
  have q4 := h.cell 4
  have q5 := h.cell 5
  have q6 := h.cell 6
  have q7 := h.cell 7
  have f4 := h.free 4
  have f5 := h.free 5
  have f6 := h.free 6
  have f7 := h.free 7
  have ql := h.lt
  simp at q4 q5 q6 q7
  have H := Lib.hid h
  clear h
  go_enter Tryz.func20, Tryz.ntmps20
  go_wp2
  refine bodyPost_end (v := .tuple #[]) (by simp [results, Tryz.results20, go_sem]) rfl ⟨rfl, ?_, by simp only [sz_set], fun b hb => ?_, ?_⟩
  · have := (((H.out.set 4 (.bool true)).set 5 (.func (.func 40) #[.pointer (some ⟨q, 0, none⟩)] #[])).set 6 (.slice none 0 0)).set 7 (.slice none 0 0)
    simpa [teC] using this
  · repeat rw [Below.heap_setCell _ _ _ _ (show b ≠ q from hb)]
  · exact ((((Below.refl q w).setCell (Nat.le_refl _) _).setCell (Nat.le_refl _) _).setCell (Nat.le_refl _) _).setCell (Nat.le_refl _) _
theorem teDrop_any (q id : Nat) (key : Int) (nx : Nat) (on : Bool) (f wv pv : Value) (w : World) (h : Cel w q #[.int .i64 id, .int .i64 5, .int .i64 nx, .int .u64 key, .bool on, f, wv, pv] 73) :
    Calls Tryz.prog 8 #[.pointer (some ⟨q, 0, none⟩)] w fun e w' => e = .returned (.tuple #[]) ∧ Cel w' q (teC q id key nx false wv pv) 73 ∧ w'.heap.size = w.heap.size ∧ (∀ b, b ≠ q → w'.heap[b]? = w.heap[b]?) ∧ Below q w w' := by
  have q4 := h.cell 4
  have q5 := h.cell 5
  have f4 := h.free 4
  have f5 := h.free 5
  have ql := h.lt
  simp at q4 q5
  have H := Lib.hid h
  clear h
  go_enter Tryz.func8, Tryz.ntmps8
  go_wp2
  refine bodyPost_end (v := .tuple #[]) (by simp [results, Tryz.results8, go_sem]) rfl ⟨rfl, ?_, by simp only [sz_set], fun b hb => ?_, ?_⟩
  · have := (H.out.set 4 (.bool false)).set 5 (.func (.func 21) #[.pointer (some ⟨q, 0, none⟩)] #[])
    simpa [teC] using this
  · repeat rw [Below.heap_setCell _ _ _ _ (show b ≠ q from hb)]
  · exact (((Below.refl q w).setCell (Nat.le_refl _) _).setCell (Nat.le_refl _) _)

set_option maxHeartbeats 1000000 in
theorem teNew_any (id : Nat) (key : Int) (w : World) : Calls Tryz.prog 7 #[.int .i64 id, .int .u64 key, .int .i64 5] w fun e w' => e = .returned (.pointer (some ⟨w.heap.size, 0, none⟩)) ∧ Cel w' w.heap.size (teC w.heap.size id key 1 true (.slice none 0 0) (.slice none 0 0)) 73 ∧ Below w.heap.size w w' := by
  have HC := Lib.hid (teConnect_any w.heap.size id key 1 false .nilFunc (.slice none 0 0) (.slice none 0 0) (w.alloc (.cells #[.int .i64 id, .int .i64 5, .int .i64 1, .int .u64 key, .bool false, .nilFunc, .slice none 0 0, .slice none 0 0] 73)) (Cel.new _ _ _))
  have HX := Lib.hid ((Below.refl w.heap.size w).alloc (Nat.le_refl _) (.cells #[.int .i64 id, .int .i64 5, .int .i64 1, .int .u64 key, .bool false, .nilFunc, .slice none 0 0, .slice none 0 0] 73))
  go_enter Tryz.func7, Tryz.ntmps7
  go_wp2_with fail
  rw [show min (max (5 : Int) 0) 64 = 5 from by decide]
  go_wp2_with (first | (go_at_call 20; (with_reducible refine HC.out.mono ?_); rintro e w2 ⟨rfl, hc, hs, hb, hb2⟩; have HC2 := Lib.hid hc; have HB2 := Lib.hid hb2; clear hc hs hb hb2) | fail)
  go_ret
  exact ⟨rfl, HC2.out, HX.out.trans HB2.out⟩
end Go.Proofs.YtnnocbelgfhecaaGreatDoor
