/- The objects in memory: what lies where, and what each turn keeps. -/
import Derived.Test.YtainelkenkgppaaDoorPlh
import Derived.Test.YtainelkenkgppaaDoorPla
import Derived.Maps.OwnSet
import Derived.Laws.OwnMore
namespace Go.Proofs.YtainelkenkgppaaDoor
open Go.ChangeShapes Go.WideShapes Go.ChangeAt Go.RowKit Go.Lott
open Go.Sort Go.Lott.Stb Go.Lott.Srt Go.Lott.Lm
def rOf (S : PSt) (k : Nat) : PRec := match S.rs[k]? with | some p => p.2 | none => rec0
def iOf (S : PSt) (k : Nat) : Int := match S.rs[k]? with | some p => p.1 | none => 0
theorem rOf_thr (S : PSt) (id : Int) : rOf S (fnd S.rs id) = thr S id := rfl
theorem rOf_upd {S : PSt} {id t : Int} {r : PRec} (h : knw S id = true) (k : Nat) : rOf (upd S id r t) k = if k = fnd S.rs id then r else rOf S k := by
  have hk := knw_iff.1 h
  unfold rOf upd
  by_cases c : k = fnd S.rs id
  · rw [if_pos c, c, List.getElem?_set_self hk]
  · rw [if_neg c, List.getElem?_set_ne (fun e => c e.symm)]
theorem iOf_upd {S : PSt} {id t : Int} {r : PRec} (h : knw S id = true) (k : Nat) : iOf (upd S id r t) k = iOf S k := by
  have hk := knw_iff.1 h
  unfold iOf upd
  by_cases c : k = fnd S.rs id
  · rw [c, List.getElem?_set_self hk, thr_at h]
  · rw [List.getElem?_set_ne (fun e => c e.symm)]
theorem len_upd (S : PSt) (id t : Int) (r : PRec) : (upd S id r t).rs.length = S.rs.length := by simp [upd]
/-- One of a record's three rows. -/
def RecF (w : World) (B f : Nat) (r : PRec) (v : Value) : Prop :=
  if f = 0 then w.ownsRow B 30 4 v r.ch.length (flC r.ch) else if f = 1 then w.ownsRow B 58 2 v r.ex.length (flP r.ex) else w.ownsRow B 26 2 v r.hi.length (flP r.hi)
section
variable {w w1 : World} {B f : Nat} {r : PRec} {v : Value} {τ : Rl}
theorem RecF.map (h : RecF w B f r v) (k : ∀ (e size n : Nat) (xs : List Value), w.ownsRow B e size v n xs → w1.ownsRow B e size v n xs) : RecF w1 B f r v := by
  unfold RecF at *
  split
  · rw [if_pos (by assumption)] at h; exact k _ _ _ _ h
  · rename_i c
    rw [if_neg c] at h
    split
    · rw [if_pos (by assumption)] at h; exact k _ _ _ _ h
    · rename_i c
      rw [if_neg c] at h; exact k _ _ _ _ h
theorem RecF.fr (h : RecF w B f r v) (hf : Fr τ w w1) (hb : ∀ g, v.ownBlock = some g → τ g = none) : RecF w1 B f r v := h.map fun _ _ _ _ h => owns_fr h hf hb
theorem RecF.set (h : RecF w B f r v) {a : Addr} (ha : v.ownBlock ≠ some a.block) (u : Value) : RecF (w.setCell a u) B f r v := h.map fun _ _ _ _ h => owns_set h ha u
theorem RecF.grow {row : Option Nat} (h : RecF w B f r v) (hg : w.grownBy w1 row) (hne : v.ownBlock = none ∨ v.ownBlock ≠ row) : RecF w1 B f r v := h.map fun _ _ _ _ h => h.kept hg hne
theorem RecF.lt (h : RecF w B f r v) : ∀ g, v.ownBlock = some g → B ≤ g ∧ g < w.heap.size := by
  unfold RecF at h
  split at h
  · exact h.lt
  · split at h
    · exact h.lt
    · exact h.lt
theorem RecF.nil (w : World) (B f : Nat) : RecF w B f rec0 (.slice none 0 0) := by
  unfold RecF
  split
  · exact World.ownsRow_nil w B _ _
  · split
    · exact World.ownsRow_nil w B _ _
    · exact World.ownsRow_nil w B _ _
theorem RecF.slice (h : RecF w B f r v) : ∃ a n c, v = .slice a n c := by
  have key : ∀ {e size n : Nat} {xs : List Value}, w.ownsRow B e size v n xs → ∃ a n c, v = .slice a n c := fun h => by
    rcases h.2 with ⟨hv, _⟩ | ⟨g, cap, cur, hv, _⟩
    · exact ⟨_, _, _, hv⟩
    · exact ⟨_, _, _, hv⟩
  unfold RecF at h
  split at h
  · exact key h
  · split at h
    · exact key h
    · exact key h
end
/-- A row that is owned, as rows of numbers. -/
theorem rows_of_owns {w : World} {base : Nat} {e : TypeId} {size n : Nat} {v : Value} {xs : List Value} {z : Nat → Nat → Int} (h : w.ownsRow base e size v n xs) (hz : ∀ i j, i < n → j < size → xs[i * size + j]? = some (.int .i64 (z i j))) :
    ∃ a c, v = .slice a n c ∧ IsRows size w a n z := by
  rcases h.2 with ⟨hv, h0⟩ | ⟨g, cap, cur, hv, hg, hh, hc1, hc2, hc3, hc4⟩
  · exact ⟨none, 0, by rw [hv, h0], .inl h0⟩
  · refine ⟨_, cap, hv, .inr ⟨g, 0, rfl, lt_of_block hh, by omega, fun i j hi hj => ?_⟩⟩
    have hc : Cel w g cur e := hh
    have hlt : i * size + j < n * size := by
      have : (i + 1) * size ≤ n * size := Nat.mul_le_mul_right _ hi
      rw [Nat.add_mul] at this; omega
    rw [Nat.zero_add, hc.cell, ← hz i j hi hj, ← hc4, List.getElem?_take, if_pos hlt, Array.getElem?_toList]
theorem flP_get : ∀ (l : List (Int × Int)) (i j : Nat), i < l.length → j < 2 → (flP l)[i * 2 + j]? = some (.int .i64 (zP l i j))
  | [], i, _, h, _ => by simp at h
  | p :: l, 0, j, _, hj => by
    have e : flP (p :: l) = .int .i64 p.1 :: .int .i64 p.2 :: flP l := rfl
    rw [e]
    rcases (show j = 0 ∨ j = 1 by omega) with rfl | rfl <;> rfl
  | p :: l, i + 1, j, h, hj => by
    have h' : i < l.length := by simpa using h
    have ih := flP_get l i j h' hj
    have e : flP (p :: l) = .int .i64 p.1 :: .int .i64 p.2 :: flP l := rfl
    rw [e, show (i + 1) * 2 + j = i * 2 + j + 1 + 1 by omega]
    have z0 : zP (p :: l) (i + 1) j = zP l i j := by unfold zP; simp
    rw [z0]
    simpa using ih
theorem RecF.rows0 {w : World} {B : Nat} {r : PRec} {v : Value} (h : RecF w B 0 r v) : ∃ a c, v = .slice a r.ch.length c ∧ IsRows 4 w a r.ch.length (zC r.ch) := rows_of_owns h (flC_get r.ch)
theorem RecF.rows1 {w : World} {B : Nat} {r : PRec} {v : Value} (h : RecF w B 1 r v) : ∃ a c, v = .slice a r.ex.length c ∧ IsRows 2 w a r.ex.length (zP r.ex) := rows_of_owns h (flP_get r.ex)
theorem RecF.rows2 {w : World} {B : Nat} {r : PRec} {v : Value} (h : RecF w B 2 r v) : ∃ a c, v = .slice a r.hi.length c ∧ IsRows 2 w a r.hi.length (zP r.hi) := rows_of_owns h (flP_get r.hi)
/-- How a pointer in a map reads. -/
def ptrR : Value → Option (DataW Unit × List MemPlace)
  | .pointer none => some (.lit (.int .i64 (-1)), [])
  | .pointer (some ⟨b, 0, none⟩) => some (.lit (.int .i64 b), [])
  | _ => none
theorem ptrR_inv {v : Value} {b : Nat} {ps : List MemPlace} (h : ptrR v = some (.lit (.int .i64 b), ps)) : v = .pointer (some ⟨b, 0, none⟩) := by
  unfold ptrR at h
  split at h
  · simp at h
  · simp at h
    obtain ⟨h1, _⟩ := h
    have := Int.ofNat.inj h1
    rw [this]
  · cases h
theorem ptrR_nil {v : Value} {ps : List MemPlace} (h : ptrR v = some (.lit (.int .i64 (-1)), ps)) : v = .pointer none := by
  unfold ptrR at h
  split at h
  · rfl
  · simp at h
  · cases h
def zN : DataW Unit := .lit (.int .i64 (-1))
theorem keyI : Go.Maps.Keyed Tryd.prog 3 := Go.Maps.int_keyed Tryd.underlying3
/-- The program's object. -/
structure PObj (w : World) (B : Nat) (τ : Rl) (p : Nat) (S : PSt) (m : Nat) (D : DataW Unit) (rb : Nat → Nat) (V : Nat → Nat → Value) : Prop where
  low : ∀ b, τ b ≠ none → B ≤ b ∧ b < w.heap.size
  tp : τ p = some (0, 0)
  cp : Cel w p #[.map (some m), .int .i64 S.now] 79
  tm : τ m = some (1, 0)
  mp : w.ownsMap Tryd.prog 3 ptrR m S.rs.length D
  sz : Maps.size D = S.rs.length
  hs : ∀ id, Maps.has D (.int .i64 id) = knw S id
  ak : ∀ id, knw S id = true → D.atKey (.int .i64 id) zN = .lit (.int .i64 (rb (fnd S.rs id)))
  tr : ∀ k, k < S.rs.length → τ (rb k) = some (2, k)
  cr : ∀ k, k < S.rs.length → Cel w (rb k) #[V k 0, V k 1, V k 2] 88
  rw : ∀ k f, k < S.rs.length → f < 3 → RecF w B f (rOf S k) (V k f)
  tv : ∀ k f g, k < S.rs.length → f < 3 → (V k f).ownBlock = some g → τ g = some (3 + f, k)
def PO (w : World) (B : Nat) (τ : Rl) (p : Nat) (S : PSt) : Prop := ∃ m D rb V, PObj w B τ p S m D rb V
section
variable {w w1 w3 : World} {B p m : Nat} {τ σ : Rl} {S : PSt} {D : DataW Unit} {rb : Nat → Nat} {V : Nat → Nat → Value}
theorem ownsMap_fr {R : Value → Option (DataW Unit × List MemPlace)} {n : Nat} (h : w.ownsMap Tryd.prog 3 R m n D) (hf : Fr σ w w1) (hm : σ m = none) : w1.ownsMap Tryd.prog 3 R m n D := by
  have hlt := h.lt
  obtain ⟨es, clock, hb, r⟩ := h
  exact ⟨es, clock, (hf.block m hlt hm).trans hb, r⟩
/-- What another call does not reach stays. -/
theorem PObj.fr (h : PObj w B τ p S m D rb V) (hf : Fr σ w w1) (hd : ∀ b, τ b ≠ none → σ b = none) : PObj w1 B τ p S m D rb V where
  low := fun b hb => ⟨(h.low b hb).1, Nat.lt_of_lt_of_le (h.low b hb).2 hf.size⟩
  tp := h.tp
  cp := h.cp.fr hf (hd _ (by rw [h.tp]; simp))
  tm := h.tm
  mp := ownsMap_fr h.mp hf (hd _ (by rw [h.tm]; simp))
  sz := h.sz
  hs := h.hs
  ak := h.ak
  tr := h.tr
  cr := fun k hk => (h.cr k hk).fr hf (hd _ (by rw [h.tr k hk]; simp))
  rw := fun k f hk hf3 => (h.rw k f hk hf3).fr hf (fun g hg => hd _ (by rw [h.tv k f g hk hf3 hg]; simp))
  tv := h.tv
theorem PObj.below (h : PObj w B τ p S m D rb V) (hb : Below w.heap.size w w1) : PObj w1 B τ p S m D rb V := h.fr (σ := fun _ => none) (Fr.of_below hb) (fun _ _ => rfl)
theorem PO.fr (h : PO w B τ p S) (hf : Fr σ w w1) (hd : ∀ b, τ b ≠ none → σ b = none) : PO w1 B τ p S := by
  obtain ⟨m, D, rb, V, h⟩ := h; exact ⟨m, D, rb, V, h.fr hf hd⟩
theorem PO.below (h : PO w B τ p S) (hb : Below w.heap.size w w1) : PO w1 B τ p S := by
  obtain ⟨m, D, rb, V, h⟩ := h; exact ⟨m, D, rb, V, h.below hb⟩
theorem PO.low (h : PO w B τ p S) : ∀ b, τ b ≠ none → B ≤ b ∧ b < w.heap.size := by obtain ⟨m, D, rb, V, h⟩ := h; exact h.low
/-- An element appended to one of a record's rows, and the time. -/
theorem PObj.push (h : PObj w B τ p S m D rb V) {id t : Int} (hk : knw S id = true) {f g : Nat} (hf : f < 3) {r : PRec} {v : Value}
    (hg : w.grownBy w3 (V (fnd S.rs id) f).ownBlock) (hv : v.ownBlock = some g) (hat : (V (fnd S.rs id) f).ownBlock = some g ∨ g = w.heap.size) (hgB : B ≤ g) (hlt : g < w3.heap.size)
    (hr : RecF w3 B f r v) (ho : ∀ f', f' < 3 → f' ≠ f → ∀ w v, RecF w B f' (thr S id) v → RecF w B f' r v) :
    PObj ((w3.setCell ⟨rb (fnd S.rs id), f, none⟩ v).setCell ⟨p, 1, none⟩ (.int .i64 t)) B (tg τ g (3 + f, fnd S.rs id)) p (upd S id r t) m D rb (fun k j => if k = fnd S.rs id ∧ j = f then v else V k j) := by
  have hkl := knw_iff.1 hk
  obtain ⟨K, hK⟩ : ∃ K, K = fnd S.rs id := ⟨_, rfl⟩
  rw [← hK] at hg hat hkl ⊢
  have hth : thr S id = rOf S K := by rw [hK]; exact (rOf_thr S id).symm
  rw [hth] at ho
  have hgw : w.heap.size ≤ w3.heap.size := hg.size
  -- the roles of the blocks that stand
  have tK := h.tr K hkl
  have hgτ : ∀ x, τ x ≠ none → x ≠ g ∨ τ x = some (3 + f, K) := fun x hx => by
    by_cases c : x = g
    · right
      subst c
      rcases hat with ha | ha
      · exact h.tv K f x hkl hf ha
      · exact absurd (h.low x hx).2 (by omega)
    · exact .inl c
  have tgne : ∀ x u, τ x = some u → u ≠ (3 + f, K) → tg τ g (3 + f, K) x = some u := fun x u hx hu => by
    rw [tg_ne _ (by rcases hgτ x (by rw [hx]; simp) with c | c; exact c; rw [hx] at c; exact absurd (Option.some.inj c) hu)]; exact hx
  have far : ∀ x u, τ x = some u → u ≠ (3 + f, K) → (V K f).ownBlock ≠ some x := fun x u hx hu c => by
    have := h.tv K f x hkl hf c
    rw [hx] at this
    exact hu (Option.some.inj this)
  have pne : ∀ k, k < S.rs.length → rb k ≠ p := fun k hk c => by have := h.tr k hk; rw [c, h.tp] at this; simp at this
  refine ⟨fun b hb => ?_, tgne _ _ h.tp (by simp; omega), ?_, tgne _ _ h.tm (by simp; omega), ?_, ?_, fun j => ?_, fun j hj => ?_, fun k hk' => ?_, fun k hk' => ?_, fun k f' hk' hf' => ?_, fun k f' g' hk' hf' hg' => ?_⟩
  · have e2 : ((w3.setCell ⟨rb K, f, none⟩ v).setCell ⟨p, 1, none⟩ (.int .i64 t)).heap.size = w3.heap.size := by simp [World.setCell]
    rw [e2]
    by_cases c : b = g
    · rw [c]; exact ⟨hgB, hlt⟩
    · rw [tg_ne _ c] at hb; have := h.low b hb; exact ⟨this.1, by omega⟩
  · have c1 := (h.cp.grow hg (far _ _ h.tp (by simp; omega))).other (a := ⟨rb K, f, none⟩) (fun c => pne K hkl c.symm) v
    have := c1.set 1 (.int .i64 t)
    simpa [upd] using this
  · rw [len_upd]
    have m1 := h.mp.kept hg (fun c => far _ _ h.tm (by simp; omega) c.symm)
    have m2 := m1.setCell (a := ⟨rb K, f, none⟩) (fun c => by have := h.tr K hkl; rw [show rb K = m from c.symm, h.tm] at this; simp at this) v
    exact m2.setCell (a := ⟨p, 1, none⟩) (fun c => by have := h.tp; rw [show p = m from c.symm, h.tm] at this; simp at this) _
  · rw [len_upd]; exact h.sz
  · exact (h.hs j).trans (knw_upd hk j).symm
  · rw [fnd_upd hk, h.ak j (by rw [knw_upd hk] at hj; exact hj)]
  · rw [len_upd] at hk'; exact tgne _ _ (h.tr k hk') (by simp; omega)
  · rw [len_upd] at hk'
    have c1 := (h.cr k hk').grow hg (far _ _ (h.tr k hk') (by simp; omega))
    by_cases c : k = K
    · subst c
      have c2 := (c1.set f v).other (a := ⟨p, 1, none⟩) (pne k hk') (.int .i64 t)
      have e : (#[V k 0, V k 1, V k 2] : Array Value).setIfInBounds f v = #[if k = k ∧ 0 = f then v else V k 0, if k = k ∧ 1 = f then v else V k 1, if k = k ∧ 2 = f then v else V k 2] := by
        rcases (show f = 0 ∨ f = 1 ∨ f = 2 by omega) with rfl | rfl | rfl <;> simp
      rw [e] at c2
      exact c2
    · have hne : rb k ≠ rb K := fun e => by have h1 := h.tr k hk'; rw [e, tK] at h1; simp at h1; exact c h1.symm
      have c2 := (c1.other (a := ⟨rb K, f, none⟩) hne v).other (a := ⟨p, 1, none⟩) (pne k hk') (.int .i64 t)
      simpa [c] using c2
  · rw [len_upd] at hk'
    rw [rOf_upd hk, ← hK]
    have key : ∀ (r' : PRec) (u : Value), RecF w3 B f' r' u → (∀ x, u.ownBlock = some x → x ≠ rb K ∧ x ≠ p) → RecF ((w3.setCell ⟨rb K, f, none⟩ v).setCell ⟨p, 1, none⟩ (.int .i64 t)) B f' r' u := fun r' u hu hx =>
      (hu.set (a := ⟨rb K, f, none⟩) (fun c => (hx _ c).1 rfl) v).set (a := ⟨p, 1, none⟩) (fun c => (hx _ c).2 rfl) _
    have hrole : ∀ x u, τ x = some u → 3 ≤ u.1 → x ≠ rb K ∧ x ≠ p := fun x u hx hu =>
      ⟨fun c => by rw [c, tK] at hx; cases hx; simp at hu, fun c => by rw [c, h.tp] at hx; cases hx; simp at hu⟩
    by_cases c : k = K ∧ f' = f
    · obtain ⟨rfl, rfl⟩ := c
      simp only [and_self, if_true]
      refine key _ _ hr fun x hx => ?_
      rw [hv] at hx
      cases hx
      rcases hat with ha | ha
      · exact hrole g _ (h.tv k f' g hkl hf ha) (by simp)
      · exact ⟨fun c => by have := (h.low (rb k) (by rw [tK]; simp)).2; omega, fun c => by have := (h.low p (by rw [h.tp]; simp)).2; omega⟩
    · rw [if_neg c]
      have hrow := h.rw k f' hk' hf'
      have hfar : (V k f').ownBlock = none ∨ (V k f').ownBlock ≠ (V K f).ownBlock := by
        cases hvb : (V k f').ownBlock with
        | none => exact .inl rfl
        | some x =>
          right
          intro e
          have h1 := h.tv k f' x hk' hf' hvb
          have h2 := h.tv K f x hkl hf e.symm
          rw [h1] at h2
          simp at h2
          exact c ⟨h2.2, by omega⟩
      have h3 := hrow.grow hg hfar
      have hx : ∀ x, (V k f').ownBlock = some x → x ≠ rb K ∧ x ≠ p := fun x hx => hrole x _ (h.tv k f' x hk' hf' hx) (by simp)
      by_cases c2 : k = K
      · subst c2
        rw [if_pos rfl]
        exact key _ _ (ho f' hf' (fun e => c ⟨rfl, e⟩) _ _ h3) hx
      · rw [if_neg c2]
        exact key _ _ h3 hx
  · rw [len_upd] at hk'
    by_cases c : k = K ∧ f' = f
    · obtain ⟨rfl, rfl⟩ := c
      simp only [and_self, if_true] at hg'
      rw [hv] at hg'
      cases hg'
      exact tg_same _ _ _
    · simp only [if_neg c] at hg'
      have h1 := h.tv k f' g' hk' hf' hg'
      exact tgne _ _ h1 (by simp; intro e; have : f' = f := by omega
                            intro e2; exact c ⟨e2, this⟩)
/-- A new player. -/
theorem PObj.reg (h : PObj w B τ p S m D rb V) {id t : Int} (hk : knw S id = false) (hB : B ≤ w.heap.size) {cs : Array Value} (hcs : cs = #[.slice none 0 0, .slice none 0 0, .slice none 0 0])
    (hm : w3.ownsMap Tryd.prog 3 ptrR m (S.rs.length + 1) (D.put (.int .i64 id) (.lit (.int .i64 w.heap.size)))) (hg : (w.alloc (.cells cs 88)).grownBy w3 (some m)) :
    PObj (w3.setCell ⟨p, 1, none⟩ (.int .i64 t)) B (tg τ w.heap.size (2, S.rs.length)) p (add S id t) m (D.put (.int .i64 id) (.lit (.int .i64 w.heap.size))) (fun k => if k = S.rs.length then w.heap.size else rb k) (fun k j => if k = S.rs.length then .slice none 0 0 else V k j) := by
  subst hcs
  have hfn : fnd S.rs id = S.rs.length := by
    have := fnd_le S.rs id
    have : ¬ fnd S.rs id < S.rs.length := fun c => by rw [knw_iff.2 c] at hk; cases hk
    omega
  have hlen : (add S id t).rs.length = S.rs.length + 1 := by simp [add]
  have hgw : w.heap.size + 1 ≤ w3.heap.size := by have := hg.size; simpa using this
  have old : ∀ x, τ x ≠ none → x ≠ w.heap.size := fun x hx c => by have := (h.low x hx).2; omega
  have tgo : ∀ x u, τ x = some u → tg τ w.heap.size (2, S.rs.length) x = some u := fun x u hx => by rw [tg_ne _ (old x (by rw [hx]; simp))]; exact hx
  have mne : ∀ x u, τ x = some u → u ≠ (1, 0) → (some m : Option Nat) ≠ some x := fun x u hx hu c => by cases c; rw [h.tm] at hx; exact hu (Option.some.inj hx).symm
  have hr : ∀ k, k < S.rs.length → rOf (add S id t) k = rOf S k := fun k hk' => by unfold rOf add; rw [List.getElem?_append_left hk']
  have hcel : ∀ {b cs T}, Cel w b cs T → Cel (w.alloc (.cells #[.slice none 0 0, .slice none 0 0, .slice none 0 0] 88)) b cs T := fun h => h.alloc _
  refine ⟨fun b hb => ?_, tgo _ _ h.tp, ?_, tgo _ _ h.tm, ?_, ?_, fun j => ?_, fun j hj => ?_, fun k hk' => ?_, fun k hk' => ?_, fun k f' hk' hf' => ?_, fun k f' g' hk' hf' hg' => ?_⟩
  · have e2 : (w3.setCell ⟨p, 1, none⟩ (.int .i64 t)).heap.size = w3.heap.size := by simp [World.setCell]
    rw [e2]
    by_cases c : b = w.heap.size
    · rw [c]; exact ⟨hB, by omega⟩
    · rw [tg_ne _ c] at hb; have := h.low b hb; exact ⟨this.1, by omega⟩
  · have := ((hcel h.cp).grow hg (mne _ _ h.tp (by simp))).set 1 (.int .i64 t)
    simpa [add] using this
  · rw [hlen]
    exact hm.setCell (a := ⟨p, 1, none⟩) (fun c => by have := h.tp; rw [show p = m from c.symm, h.tm] at this; simp at this) _
  · rw [hlen, Go.Maps.size_put (h.mp.tidy keyI), h.hs, hk, h.sz]; simp
  · rw [knw_add hk]
    by_cases c : id = j
    · subst c
      rw [Go.Maps.has_put_same h.mp.isMap (by simp [WideAt.IsKeyLit])]; simp
    · rw [Go.Maps.has_put_other (by simp; exact fun e => c e.symm), h.hs, decide_eq_false c, Bool.or_false]
  · have hfj : fnd (add S id t).rs j = if fnd S.rs j < S.rs.length then fnd S.rs j else if id = j then S.rs.length else S.rs.length + 1 := fnd_snoc _ _ _ _
    rw [hfj]
    by_cases c : id = j
    · subst c
      rw [show (if fnd S.rs id < S.rs.length then fnd S.rs id else if id = id then S.rs.length else S.rs.length + 1) = S.rs.length by rw [hfn]; simp, if_pos rfl, Go.Maps.atKey_put_same h.mp.isMap (by simp [WideAt.IsKeyLit])]
    · rw [knw_add hk, decide_eq_false c, Bool.or_false] at hj
      have hjl := knw_iff.1 hj
      rw [if_pos hjl, if_neg (by omega), Go.Maps.atKey_put_other (by simp; exact fun e => c e.symm), h.ak j hj]
  · rw [hlen] at hk'
    by_cases c : k = S.rs.length
    · rw [if_pos c, c]; exact tg_same _ _ _
    · rw [if_neg c]; exact tgo _ _ (h.tr k (by omega))
  · rw [hlen] at hk'
    by_cases c : k = S.rs.length
    · simp only [if_pos c]
      refine ((Cel.new w _ _).grow hg (fun e => ?_)).other (a := ⟨p, 1, none⟩) (fun e => ?_) _
      · cases e; exact old _ (by rw [h.tm]; simp) rfl
      · exact old p (by rw [h.tp]; simp) e.symm
    · simp only [if_neg c]
      exact ((hcel (h.cr k (by omega))).grow hg (mne _ _ (h.tr k (by omega)) (by simp))).other (a := ⟨p, 1, none⟩) (fun e => by have := h.tr k (by omega); rw [show rb k = p from e, h.tp] at this; simp at this) _
  · rw [hlen] at hk'
    by_cases c : k = S.rs.length
    · simp only [if_pos c]
      have : rOf (add S id t) k = rec0 := by unfold rOf add; rw [c, List.getElem?_append_right (Nat.le_refl _)]; simp
      rw [this]
      exact RecF.nil _ _ _
    · simp only [if_neg c]
      rw [hr k (by omega)]
      have hrow := h.rw k f' (by omega) hf'
      have hvo : ∀ x, (V k f').ownBlock = some x → τ x = some (3 + f', k) := fun x hx => h.tv k f' x (by omega) hf' hx
      refine ((hrow.map (w1 := w.alloc (.cells #[.slice none 0 0, .slice none 0 0, .slice none 0 0] 88)) fun _ _ _ _ h => h.alloc _).grow hg ?_).set (a := ⟨p, 1, none⟩) (fun e => ?_) _
      · cases hvb : (V k f').ownBlock with
        | none => exact .inl rfl
        | some x => exact .inr (fun e => mne x _ (hvo x hvb) (by simp; omega) (by rw [e]))
      · have := hvo _ e; rw [h.tp] at this; simp at this; omega
  · rw [hlen] at hk'
    by_cases c : k = S.rs.length
    · simp only [if_pos c] at hg'; cases hg'
    · simp only [if_neg c] at hg'
      exact tgo _ _ (h.tv k f' g' (by omega) hf' hg')
end
end Go.Proofs.YtainelkenkgppaaDoor
