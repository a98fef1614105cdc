/- A slice of five slices, each with a row of its own; such objects beside a player's object. -/
import Derived.Test.YtainelkenkgppaaDoorPltwo
namespace Go.Proofs.YtainelkenkgppaaDoor
open Go.ChangeShapes Go.WideShapes Go.ChangeAt Go.RowKit Go.Lott
open Go.Sort Go.Lott.Stb Go.Lott.Srt Go.Lott.Lm
def five (V : Nat → Value) : Array Value := #[V 0, V 1, V 2, V 3, V 4]
theorem five_get (V : Nat → Value) {k : Nat} (hk : k < 5) : (five V)[k]? = some (V k) := by
  rcases (show k = 0 ∨ k = 1 ∨ k = 2 ∨ k = 3 ∨ k = 4 by omega) with rfl | rfl | rfl | rfl | rfl <;> rfl
theorem five_set (V : Nat → Value) {k : Nat} (hk : k < 5) (v : Value) : (five V).setIfInBounds k v = five (fun j => if j = k then v else V j) := by
  rcases (show k = 0 ∨ k = 1 ∨ k = 2 ∨ k = 3 ∨ k = 4 by omega) with rfl | rfl | rfl | rfl | rfl <;> simp [five]
structure SS (w : World) (B : Nat) (σ : Rl) (q : Nat) (T e : TypeId) (sz : Nat) (N : Nat → Nat) (X : Nat → List Value) (V : Nat → Value) : Prop where
  low : ∀ b, σ b ≠ none → B ≤ b ∧ b < w.heap.size
  tq : σ q = some (0, 0)
  cq : Cel w q (five V) T
  rw : ∀ k, k < 5 → w.ownsRow B e sz (V k) (N k) (X k)
  tv : ∀ k g, k < 5 → (V k).ownBlock = some g → σ g = some (1, k)
section
variable {w w1 w3 : World} {B q sz : Nat} {σ ρ : Rl} {T e : TypeId} {N : Nat → Nat} {X : Nat → List Value} {V : Nat → Value}
theorem SS.fr (h : SS w B σ q T e sz N X V) (hf : Fr ρ w w1) (hd : ∀ b, σ b ≠ none → ρ b = none) : SS w1 B σ q T e sz N X V where
  low := fun b hb => ⟨(h.low b hb).1, Nat.lt_of_lt_of_le (h.low b hb).2 hf.size⟩
  tq := h.tq
  cq := h.cq.fr hf (hd _ (by rw [h.tq]; simp))
  rw := fun k hk => owns_fr (h.rw k hk) hf (fun g hg => hd _ (by rw [h.tv k g hk hg]; simp))
  tv := h.tv
theorem SS.below (h : SS w B σ q T e sz N X V) (hb : Below w.heap.size w w1) : SS w1 B σ q T e sz N X V := h.fr (ρ := fun _ => none) (Fr.of_below hb) (fun _ _ => rfl)
theorem SS.push (h : SS w B σ q T e sz N X V) {k g n : Nat} {xs : List Value} {v : Value} (hk : k < 5) (hg : w.grownBy w3 (V k).ownBlock) (hv : v.ownBlock = some g) (hat : (V k).ownBlock = some g ∨ g = w.heap.size) (hgB : B ≤ g) (hlt : g < w3.heap.size) (hr : w3.ownsRow B e sz v n xs) :
    SS (w3.setCell ⟨q, k, none⟩ v) B (tg σ g (1, k)) q T e sz (fun j => if j = k then n else N j) (fun j => if j = k then xs else X j) (fun j => if j = k then v else V j) := by
  have hgw : w.heap.size ≤ w3.heap.size := hg.size
  have hqg : q ≠ g := fun c => by
    rcases hat with ha | ha
    · have := h.tv k g hk ha; rw [← c, h.tq] at this; cases this
    · have := (h.low q (by rw [h.tq]; simp)).2; omega
  have hqr : (V k).ownBlock ≠ some q := fun c => by have := h.tv k q hk c; rw [h.tq] at this; cases this
  have e2 : (w3.setCell ⟨q, k, none⟩ v).heap.size = w3.heap.size := by simp [World.setCell]
  refine ⟨fun b hb => ?_, by rw [tg_ne _ hqg]; exact h.tq, ?_, fun j hj => ?_, fun j g' hj hg' => ?_⟩
  · rw [e2]
    by_cases c : b = g
    · rw [c]; exact ⟨hgB, hlt⟩
    · rw [tg_ne _ c] at hb; have := h.low b hb; exact ⟨this.1, by omega⟩
  · have := (h.cq.grow hg hqr).set k v
    rwa [five_set V hk] at this
  · by_cases c : j = k
    · simp only [if_pos c]
      exact owns_set (a := ⟨q, k, none⟩) hr (by rw [hv]; intro e; cases e; exact hqg rfl) v
    · simp only [if_neg c]
      have hfar : (V j).ownBlock = none ∨ (V j).ownBlock ≠ (V k).ownBlock := by
        cases hvb : (V j).ownBlock with
        | none => exact .inl rfl
        | some x =>
          right
          intro e
          have h1 := h.tv j x hj hvb
          have h2 := h.tv k x hk e.symm
          rw [h1] at h2
          simp at h2
          exact c h2
      exact owns_set (a := ⟨q, k, none⟩) ((h.rw j hj).kept hg hfar) (fun e => by have := h.tv j q hj e; rw [h.tq] at this; cases this) v
  · by_cases c : j = k
    · simp only [if_pos c] at hg'
      rw [hv] at hg'
      cases hg'
      rw [c]
      exact tg_same _ _ _
    · simp only [if_neg c] at hg'
      have h1 := h.tv j g' hj hg'
      by_cases d : g' = g
      · subst d
        rcases hat with ha | ha
        · have h2 := h.tv k g' hk ha
          rw [h1] at h2
          simp at h2
          exact absurd h2 c
        · exact absurd (h.low g' (by rw [h1]; simp)).2 (by omega)
      · rw [tg_ne _ d]; exact h1
/-- Behind an append that the law does: the slice of slices, and what has turned. -/
theorem SS.done (h : SS w B σ q T e sz N X V) {k g n cap : Nat} {xs : List Value} (hk : k < 5) {v : Value} (hv : v = V k) {wA : World} (hA : Below w.heap.size w wA) (hsz : wA.heap.size = w.heap.size + 1) (hg : wA.grownBy w1 v.ownBlock) (hat : v.ownBlock = some g ∨ g = w.heap.size + 1) (hlt : g < w1.heap.size)
    (hr : w1.ownsRow B e sz (.slice (some ⟨g, 0, none⟩) n cap) n xs) :
    ∃ σ' V', SS (w1.setCell ⟨q, k, none⟩ (.slice (some ⟨g, 0, none⟩) n cap)) B σ' q T e sz (fun j => if j = k then n else N j) (fun j => if j = k then xs else X j) V' ∧ Fr σ w (w1.setCell ⟨q, k, none⟩ (.slice (some ⟨g, 0, none⟩) n cap)) ∧ Gr σ σ' w.heap.size := by
  subst hv
  refine ⟨_, _, (h.below hA).push hk hg (v := .slice (some ⟨g, 0, none⟩) n cap) (g := g) rfl (by rw [hsz]; exact hat) (hr.lt g rfl).1 hlt hr, ?_, Gr.tg ?_⟩
  · refine Fr.setCell (Fr.grown (Fr.of_below hA) hg fun x hx => .inl ?_) (.inl ?_) _
    · rw [h.tv k x hk hx]; simp
    · rw [h.tq]; simp
  · rcases hat with ha | ha
    · exact .inl (by rw [h.tv k g hk ha]; simp)
    · exact .inr (by omega)
theorem SS.start (h : Cel w q (five fun _ => .slice none 0 0) T) (hB : B ≤ q) : SS w B (tg (fun _ => none) q (0, 0)) q T e sz (fun _ => 0) (fun _ => []) (fun _ => .slice none 0 0) where
  low := fun b hb => by
    by_cases c : b = q
    · rw [c]; exact ⟨hB, h.lt⟩
    · rw [tg_ne _ c] at hb; exact absurd rfl hb
  tq := tg_same _ _ _
  cq := h
  rw := fun _ _ => World.ownsRow_nil w B _ _
  tv := fun _ _ _ hg => by cases hg
/-- A row of numbers out of such an object. -/
theorem SS.rows (h : SS w B σ q T e sz N X V) {k : Nat} (hk : k < 5) {z : Nat → Nat → Int} (hz : ∀ i j, i < N k → j < sz → (X k)[i * sz + j]? = some (.int .i64 (z i j))) : ∃ a c, V k = .slice a (N k) c ∧ IsRows sz w a (N k) z := rows_of_owns (h.rw k hk) hz
/-- What an append to such a row asks of the world. -/
structure SF (w : World) (q k : Nat) (v : Value) : Prop where
  r0 : w.cell? ⟨q, k, none⟩ = some v
  rf : w.frozen? ⟨q, k, none⟩ = false
  rl : q < w.heap.size
  nr : some q ≠ v.ownBlock
theorem SF.fr {k : Nat} {v : Value} (h : SF w q k v) (hb : Below w.heap.size w w1) : SF w1 q k v :=
  ⟨(hb.cell (p := ⟨q, k, none⟩) h.rl).trans h.r0, (hb.frozen (p := ⟨q, k, none⟩) h.rl).trans h.rf, Nat.lt_of_lt_of_le h.rl hb.size, h.nr⟩
theorem SF.grow {k : Nat} {v : Value} (h : SF w q k v) (hg : w.grownBy w1 v.ownBlock) : SF w1 q k v :=
  ⟨(hg.cell_far ⟨q, k, none⟩ h.rl h.nr).trans h.r0, (hg.frozen_far ⟨q, k, none⟩ h.rl h.nr).trans h.rf, Nat.lt_of_lt_of_le h.rl hg.size, h.nr⟩
theorem SS.facts (h : SS w B σ q T e sz N X V) {k : Nat} (hk : k < 5) {v : Value} (hv : v = V k) : SF w q k v :=
  ⟨by rw [h.cq.cell, five_get V hk, hv], h.cq.free k, h.cq.lt, fun c => by rw [hv] at c; have := h.tv k q hk c.symm; rw [h.tq] at this; cases this⟩
end
/-- What the law holds: the player's object, the changes and the exclusions that were accepted, and a box. -/
structure Tri (w : World) (A p qa qb : Nat) (S : PSt) (τ σ ρ : Rl) (la : Nat → List Cg) (lb : Nat → List (Int × Int)) (VA VB : Nat → Value) : Prop where
  a : PO w A τ p S
  x : SS w A σ qa 23 30 4 (fun k => (la k).length) (fun k => flC (la k)) VA
  y : SS w A ρ qb 56 58 2 (fun k => (lb k).length) (fun k => flP (lb k)) VB
  ax : ∀ b, τ b = none ∨ σ b = none
  ay : ∀ b, τ b = none ∨ ρ b = none
  xy : ∀ b, σ b = none ∨ ρ b = none
theorem dj_new {τ τ' σ : Rl} {n : Nat} (h : ∀ b, τ b = none ∨ σ b = none) (hG : Gr τ τ' n) (hl : ∀ b, σ b ≠ none → b < n) : ∀ b, τ' b = none ∨ σ b = none := fun b => by
  by_cases c : τ' b = none
  · exact .inl c
  · right
    rcases hG b c with d | d
    · exact (h b).resolve_left d
    · exact Classical.byContradiction fun e => by have := hl b e; omega
theorem dj_swap {τ σ : Rl} (h : ∀ b, τ b = none ∨ σ b = none) : ∀ b, σ b = none ∨ τ b = none := fun b => (h b).symm
section
variable {w w1 : World} {A p qa qb : Nat} {S S' : PSt} {τ σ ρ τ' : Rl} {la : Nat → List Cg} {lb : Nat → List (Int × Int)} {VA VB : Nat → Value}
theorem Tri.below (h : Tri w A p qa qb S τ σ ρ la lb VA VB) (hb : Below w.heap.size w w1) : Tri w1 A p qa qb S τ σ ρ la lb VA VB := ⟨h.a.below hb, h.x.below hb, h.y.below hb, h.ax, h.ay, h.xy⟩
theorem Tri.hA (h : Tri w A p qa qb S τ σ ρ la lb VA VB) : A ≤ w.heap.size := by have := h.a.low p h.a.main; omega
theorem Tri.act (h : Tri w A p qa qb S τ σ ρ la lb VA VB) (hO : PO w1 A τ' p S') (hF : Fr τ w w1) (hG : Gr τ τ' w.heap.size) : Tri w1 A p qa qb S' τ' σ ρ la lb VA VB ∧ Below A w w1 :=
  ⟨⟨hO, h.x.fr hF (fun x hx => (h.ax x).resolve_right hx), h.y.fr hF (fun x hx => (h.ay x).resolve_right hx), dj_new h.ax hG (fun b hb => (h.x.low b hb).2), dj_new h.ay hG (fun b hb => (h.y.low b hb).2), h.xy⟩, hF.below h.hA (fun b hb => (h.a.low b hb).1)⟩
theorem Tri.chA (h : Tri w A p qa qb S τ σ ρ la lb VA VB) {la' : Nat → List Cg} {σ' : Rl} {VA' : Nat → Value} (hO : SS w1 A σ' qa 23 30 4 (fun k => (la' k).length) (fun k => flC (la' k)) VA') (hF : Fr σ w w1) (hG : Gr σ σ' w.heap.size) : Tri w1 A p qa qb S τ σ' ρ la' lb VA' VB ∧ Below A w w1 :=
  ⟨⟨h.a.fr hF (fun x hx => (h.ax x).resolve_left hx), hO, h.y.fr hF (fun x hx => (h.xy x).resolve_right hx), dj_swap (dj_new (dj_swap h.ax) hG (fun b hb => (h.a.low b hb).2)), h.ay, dj_new h.xy hG (fun b hb => (h.y.low b hb).2)⟩, hF.below h.hA (fun b hb => (h.x.low b hb).1)⟩
theorem Tri.chB (h : Tri w A p qa qb S τ σ ρ la lb VA VB) {lb' : Nat → List (Int × Int)} {ρ' : Rl} {VB' : Nat → Value} (hO : SS w1 A ρ' qb 56 58 2 (fun k => (lb' k).length) (fun k => flP (lb' k)) VB') (hF : Fr ρ w w1) (hG : Gr ρ ρ' w.heap.size) : Tri w1 A p qa qb S τ σ ρ' la lb' VA VB' ∧ Below A w w1 :=
  ⟨⟨h.a.fr hF (fun x hx => (h.ay x).resolve_left hx), h.x.fr hF (fun x hx => (h.xy x).resolve_left hx), hO, h.ax, dj_swap (dj_new (dj_swap h.ay) hG (fun b hb => (h.a.low b hb).2)), dj_swap (dj_new (dj_swap h.xy) hG (fun b hb => (h.x.low b hb).2))⟩, hF.below h.hA (fun b hb => (h.y.low b hb).1)⟩
theorem la_push (la : Nat → List Cg) (k : Nat) (c : Cg) : (fun j => if j = k then (la k).length + 1 else (la j).length) = (fun j => ((fun j => if j = k then la k ++ [c] else la j) j).length) ∧ (fun j => if j = k then flC (la k) ++ encC c else flC (la j)) = (fun j => flC ((fun j => if j = k then la k ++ [c] else la j) j)) :=
  ⟨funext fun j => by by_cases h : j = k <;> simp [h], funext fun j => by by_cases h : j = k <;> simp [h, flC_snoc]⟩
theorem lb_push (lb : Nat → List (Int × Int)) (k : Nat) (c : Int × Int) : (fun j => if j = k then (lb k).length + 1 else (lb j).length) = (fun j => ((fun j => if j = k then lb k ++ [c] else lb j) j).length) ∧ (fun j => if j = k then flP (lb k) ++ [.int .i64 c.1, .int .i64 c.2] else flP (lb j)) = (fun j => flP ((fun j => if j = k then lb k ++ [c] else lb j) j)) :=
  ⟨funext fun j => by by_cases h : j = k <;> simp [h], funext fun j => by by_cases h : j = k <;> simp [h, flP_snoc]⟩
end
/-! What the law's lists say of the players. -/
structure Heard (S : PSt) (la : Nat → List Cg) (lb : Nat → List (Int × Int)) : Prop where
  a : ∀ k : Nat, 1 ≤ k → k < 5 → la k = (thr S k).ch
  b : ∀ k : Nat, 1 ≤ k → k < 5 → lb k = (thr S k).ex
theorem heard0 : Heard ps0 (fun _ => []) (fun _ => []) := ⟨fun _ _ _ => rfl, fun _ _ _ => rfl⟩
theorem stpR_keep {e : Int} {r : PRec} {d : PDo} (h1 : e = 0 → d.k ≠ 1) (h2 : e = 0 → d.k ≠ 2) : (stpR e r d).ch = r.ch ∧ (stpR e r d).ex = r.ex := by
  unfold stpR
  by_cases he : e = 0
  · rw [if_pos he, if_neg (h1 he), if_neg (h2 he)]
    split
    · exact ⟨rfl, rfl⟩
    · split
      · exact ⟨rfl, rfl⟩
      · exact ⟨rfl, rfl⟩
  · rw [if_neg he]; exact ⟨rfl, rfl⟩
theorem Heard.keep {S : PSt} {la : Nat → List Cg} {lb : Nat → List (Int × Int)} (h : Heard S la lb) {d : PDo} (hd : (errD S d = 0 → d.k ≠ 1 ∧ d.k ≠ 2) ∨ ¬ (1 ≤ d.id ∧ d.id ≤ 4)) : Heard (stpD S d) la lb := by
  have key : ∀ k : Nat, 1 ≤ k → k < 5 → (thr (stpD S d) k).ch = (thr S k).ch ∧ (thr (stpD S d) k).ex = (thr S k).ex := fun k h1 h5 => by
    by_cases c : (k : Int) = d.id
    · rw [c, (stp_self S d).2]
      rcases hd with h' | h'
      · exact stpR_keep (fun e => (h' e).1) (fun e => (h' e).2)
      · exact absurd ⟨by omega, by omega⟩ h'
    · rw [(stp_other S d c).2]; exact ⟨rfl, rfl⟩
  exact ⟨fun k h1 h5 => by rw [(key k h1 h5).1]; exact h.a k h1 h5, fun k h1 h5 => by rw [(key k h1 h5).2]; exact h.b k h1 h5⟩
theorem Heard.set {S : PSt} {la : Nat → List Cg} {lb : Nat → List (Int × Int)} (h : Heard S la lb) {d : PDo} {i : Nat} (hi : d.id = (i : Int)) (he : errD S d = 0) (hk : d.k = 1) : Heard (stpD S d) (fun j => if j = i then la i ++ [(d.t, d.x, d.y, d.z)] else la j) lb := by
  have hs : stpR (errD S d) (thr S d.id) d = { thr S d.id with ch := (thr S d.id).ch ++ [(d.t, d.x, d.y, d.z)] } := by unfold stpR; rw [if_pos he, if_pos hk]
  refine ⟨fun k h1 h5 => ?_, fun k h1 h5 => ?_⟩
  · by_cases c : k = i
    · subst c
      simp only [if_true]
      rw [← hi, (stp_self S d).2, hs, h.a k h1 h5, hi]
    · simp only [if_neg c]
      rw [(stp_other S d (by omega)).2]
      exact h.a k h1 h5
  · by_cases c : k = i
    · subst c
      rw [← hi, (stp_self S d).2, hs, h.b k h1 h5, hi]
    · rw [(stp_other S d (by omega)).2]
      exact h.b k h1 h5
theorem Heard.bar {S : PSt} {la : Nat → List Cg} {lb : Nat → List (Int × Int)} (h : Heard S la lb) {d : PDo} {i : Nat} (hi : d.id = (i : Int)) (he : errD S d = 0) (hk : d.k = 2) : Heard (stpD S d) la (fun j => if j = i then lb i ++ [(d.x, d.y)] else lb j) := by
  have hs : stpR (errD S d) (thr S d.id) d = { thr S d.id with ex := (thr S d.id).ex ++ [(d.x, d.y)] } := by unfold stpR; rw [if_pos he, if_neg (by omega), if_pos hk]
  refine ⟨fun k h1 h5 => ?_, fun k h1 h5 => ?_⟩
  · by_cases c : k = i
    · subst c
      rw [← hi, (stp_self S d).2, hs, h.a k h1 h5, hi]
    · rw [(stp_other S d (by omega)).2]
      exact h.a k h1 h5
  · by_cases c : k = i
    · subst c
      simp only [if_true]
      rw [← hi, (stp_self S d).2, hs, h.b k h1 h5, hi]
    · simp only [if_neg c]
      rw [(stp_other S d (by omega)).2]
      exact h.b k h1 h5
end Go.Proofs.YtainelkenkgppaaDoor
