/- The register in memory: what lies where, and what each turn keeps. -/
import Derived.Test.YtnnocbelgfhecaaGreatDoorTwa
import Derived.Test.YtnnocbelgfhecaaGreatDoorTkc
import Derived.Deep.MidRow
set_option linter.unusedSimpArgs false
namespace Go.Proofs.YtnnocbelgfhecaaGreatDoor
open Go.ChangeShapes Go.WideShapes Go.ChangeAt Go.RowKit Go.Lott
/-- The cells of the game. -/
def gcs (v : Value) : Array Value := #[.string nmB, .int .i64 1, .int .i64 200, .int .i64 2, .int .i64 6, .int .i64 0, .int .i64 0, .int .i64 0, .int .i64 4, .int .i64 4, .int .i64 32, .int .i64 1230, .int .i64 30, .int .i64 15, .int .i64 90, .int .i64 5000, .int .i64 0, .int .i64 1, .int .i64 0, .int .i64 0, .slice none 0 0, v]
theorem gameV_eq (v : Value) : gameV v = .agg (gcs v) := rfl
/-- The number of a ticket. -/
def nu (t : Tp.Tk) : ByteArray := mkB (t.tm : Int) (t.sq : Int)
/-- The cells of a ticket whose line lies in the slice u. -/
def tkC (q : Tp.Tk × Value) : List Value := [.string (nu q.1), .string nmB, q.2, .bool false, .int .i64 1, .int .i64 0, .string ⟨#[]⟩, .int .i64 (Tp.fst q.1.at_), .int .i64 200, .int .i64 q.1.at_, .int .i64 q.1.tm, .int .i64 q.1.sq, .int .i64 0, .bool false]
def tkCs (ls : List (Tp.Tk × Value)) : List Value := ls.flatMap tkC
theorem tkCs_snoc (ls : List (Tp.Tk × Value)) (q : Tp.Tk × Value) : tkCs (ls ++ [q]) = tkCs ls ++ tkC q := by simp [tkCs]
/-- A line in a slice, in blocks of the role (9, 0). -/
def UOk (τ : Rl) (w : World) (u : Value) (x y : Int) : Prop := ∃ b o c mb mo mc, u = .slice (some ⟨b, o, none⟩) 1 c ∧ 1 ≤ c ∧ τ b = some (9, 0) ∧ τ mb = some (9, 0) ∧ b < w.heap.size ∧ w.cell? ⟨b, o, none⟩ = some (.slice (some ⟨mb, mo, none⟩) 2 mc) ∧ w.cell? ⟨b, o + 1, none⟩ = some (.slice none 0 0) ∧ IsTwo w (.slice (some ⟨mb, mo, none⟩) 2 mc) x y
/-- The same blocks stand in two worlds, but for those of another role. -/
def Same (τ : Rl) (P : Nat × Nat → Prop) (w w1 : World) : Prop := w.heap.size ≤ w1.heap.size ∧ ∀ b r, τ b = some r → P r → b < w.heap.size → w1.heap[b]? = w.heap[b]?
theorem cell_same {w w1 : World} {b : Nat} (h : w1.heap[b]? = w.heap[b]?) (i : Nat) : w1.cell? ⟨b, i, none⟩ = w.cell? ⟨b, i, none⟩ := World.cell?_of_block h
theorem IsTwo.lt {w : World} {b o c : Nat} {x y : Int} (h : IsTwo w (.slice (some ⟨b, o, none⟩) 2 c) x y) : b < w.heap.size := by
  obtain ⟨_, _, _, b', o', c', h3, _, h5, _⟩ := h; cases h3; exact h5
theorem IsTwo.same {w w1 : World} {b o c : Nat} {x y : Int} (h : IsTwo w (.slice (some ⟨b, o, none⟩) 2 c) x y) (hs : w.heap.size ≤ w1.heap.size) (hb : w1.heap[b]? = w.heap[b]?) : IsTwo w1 (.slice (some ⟨b, o, none⟩) 2 c) x y := by
  obtain ⟨h0, h1, h2, b', o', c', h3, h4, h5, h6, h7⟩ := h
  cases h3
  exact ⟨h0, h1, h2, b, o, c, rfl, h4, by omega, (cell_same hb _).trans h6, (cell_same hb _).trans h7⟩
theorem UOk.same {τ : Rl} {w w1 : World} {u : Value} {x y : Int} (h : UOk τ w u x y) (hs : w.heap.size ≤ w1.heap.size) (hb : ∀ b, τ b = some (9, 0) → b < w.heap.size → w1.heap[b]? = w.heap[b]?) : UOk τ w1 u x y := by
  obtain ⟨b, o, c, mb, mo, mc, h0, h1, t1, t2, h2, h3, h4, h5⟩ := h
  exact ⟨b, o, c, mb, mo, mc, h0, h1, t1, t2, by omega, (cell_same (hb b t1 h2) _).trans h3, (cell_same (hb b t1 h2) _).trans h4, h5.same hs (hb mb t2 h5.lt)⟩
theorem UOk.role {τ τ1 : Rl} {w : World} {u : Value} {x y : Int} (h : UOk τ w u x y) (ht : ∀ b, τ b = some (9, 0) → τ1 b = some (9, 0)) : UOk τ1 w u x y := by
  obtain ⟨b, o, c, mb, mo, mc, h0, h1, t1, t2, r⟩ := h
  exact ⟨b, o, c, mb, mo, mc, h0, h1, ht _ t1, ht _ t2, r⟩
theorem UOk.bet {τ : Rl} {w : World} {u : Value} {x y : Int} (h : UOk τ w u x y) : IsBet w (.agg #[u, .bool false, .int .i64 1, .int .i64 0]) x y := by
  obtain ⟨b, o, c, mb, mo, mc, rfl, h1, t1, t2, h2, h3, h4, h5⟩ := h
  exact ⟨b, o, c, _, rfl, h1, h2, h3, h4, h5⟩
/-- The tier of the game, in a block of the role (9, 0). -/
def TierR (τ : Rl) (w : World) (v : Value) : Prop := ∃ b o c, v = .slice (some ⟨b, o, none⟩) 1 c ∧ 1 ≤ c ∧ τ b = some (9, 0) ∧ b < w.heap.size ∧ w.cell? ⟨b, o, none⟩ = some (.int .i64 2) ∧ w.cell? ⟨b, o + 1, none⟩ = some (.int .i64 0) ∧ w.cell? ⟨b, o + 2, none⟩ = some (.int .i64 0) ∧
  w.cell? ⟨b, o + 3, none⟩ = some (.int .i64 0) ∧ w.cell? ⟨b, o + 4, none⟩ = some (.int .i64 3) ∧ w.cell? ⟨b, o + 5, none⟩ = some (.int .i64 1)
theorem TierR.tier {τ : Rl} {w : World} {v : Value} (h : TierR τ w v) : IsTier w v := by
  obtain ⟨b, o, c, h1, h2, _, r⟩ := h; exact ⟨b, o, c, h1, h2, r⟩
theorem TierR.same {τ : Rl} {w w1 : World} {v : Value} (h : TierR τ w v) (hs : w.heap.size ≤ w1.heap.size) (hb : ∀ b, τ b = some (9, 0) → b < w.heap.size → w1.heap[b]? = w.heap[b]?) : TierR τ w1 v := by
  obtain ⟨b, o, c, h1, h2, t1, h3, h4, h5, h6, h7, h8, h9⟩ := h
  have k := cell_same (hb b t1 h3)
  exact ⟨b, o, c, h1, h2, t1, by omega, (k _).trans h4, (k _).trans h5, (k _).trans h6, (k _).trans h7, (k _).trans h8, (k _).trans h9⟩
theorem TierR.role {τ τ1 : Rl} {w : World} {v : Value} (h : TierR τ w v) (ht : ∀ b, τ b = some (9, 0) → τ1 b = some (9, 0)) : TierR τ1 w v := by
  obtain ⟨b, o, c, h1, h2, t1, r⟩ := h; exact ⟨b, o, c, h1, h2, ht _ t1, r⟩
def intR : Value → Option (DataW Unit × List MemPlace)
  | .int .i64 n => some (.lit (.int .i64 n), [])
  | _ => none
/-- The register at block p; its tickets are ls; m: at most so many places; c: at most so many numbers in a guard; U: the numbers that a guard has taken. -/
structure RObj (w : World) (B : Nat) (τ : Rl) (p : Nat) (key : Int) (v : Value) (ls : List (Tp.Tk × Value)) (m c : Nat) (U : Nat → Int → Prop) (cs : Array Value) (gb gc pm : Nat) (tv : Value) (gs gm : Nat → Nat) (D : DataW Unit) : Prop where
  low : ∀ b, τ b ≠ none → B ≤ b ∧ b < w.heap.size
  tp : τ p = some (0, 0)
  cp : Cel w p cs 64
  sz : cs.size = 37
  c0 : cs[0]? = some (.slice (some ⟨gb, 0, none⟩) 1 gc)
  c1 : cs[1]? = some tv
  c2 : cs[2]? = some (.map (some pm))
  c3 : cs[3]? = some (.int .u64 key)
  cg : ∀ k, k < 33 → cs[4 + k]? = some (.pointer (some ⟨gs k, 0, none⟩))
  g1 : 1 ≤ gc
  gT : τ gb = some (9, 0)
  gR : w.rangeAt gb 0 (gcs v).toList
  ti : TierR τ w v
  tm : τ pm = some (1, 0)
  mp : w.ownsMap Tryz.prog 9 intR pm m D
  tk : w.ownsRow B 81 14 tv ls.length (tkCs ls)
  tt : ∀ g, tv.ownBlock = some g → τ g = some (2, 0)
  ut : ∀ q ∈ ls, UOk τ w q.2 q.1.x q.1.y
  gt : ∀ k, k < 33 → τ (gs k) = some (3, k) ∧ τ (gm k) = some (4, k)
  gr : ∀ k, k < 33 → Grd w (gs k) (gm k) c (U k)
section
variable {w w1 : World} {B p m c gb gc pm : Nat} {τ σ : Rl} {key : Int} {v tv : Value} {ls : List (Tp.Tk × Value)} {U : Nat → Int → Prop} {cs : Array Value} {gs gm : Nat → Nat} {D : DataW Unit}
theorem ownsMap_same {kt : TypeId} {R : Value → Option (DataW Unit × List MemPlace)} {b n : Nat} (h : w.ownsMap Tryz.prog kt R b n D) (hb : w1.heap[b]? = w.heap[b]?) : w1.ownsMap Tryz.prog kt R b n D := by
  obtain ⟨es, clock, h1, r⟩ := h
  exact ⟨es, clock, hb.trans h1, r⟩
theorem ownsRow_same {base : Nat} {e : TypeId} {size n : Nat} {u : Value} {xs : List Value} (h : w.ownsRow base e size u n xs) (hb : ∀ g, u.ownBlock = some g → w1.heap[g]? = w.heap[g]?) : w1.ownsRow base e size u n xs := by
  refine ⟨h.1, ?_⟩
  rcases h.2 with h2 | ⟨g, cap, cur, hv, hg, hh, hr⟩
  · exact .inl h2
  · exact .inr ⟨g, cap, cur, hv, hg, by rw [hb g (by rw [hv]; rfl)]; exact hh, hr⟩
theorem Grd.same {gb mb c : Nat} {U : Int → Prop} (h : Grd w gb mb c U) (h1 : w1.heap[gb]? = w.heap[gb]?) (h2 : w1.heap[mb]? = w.heap[mb]?) : Grd w1 gb mb c U := by
  obtain ⟨low, m, D, La, l0, l1, hmm, hcl, hm, r⟩ := h.ex
  exact ⟨low, m, D, La, l0, l1, hmm, h1.trans hcl, ownsMap_same hm h2, r⟩
theorem range_same {b : Nat} {l : List Value} (h : w.rangeAt b 0 l) (hb : w1.heap[b]? = w.heap[b]?) : w1.rangeAt b 0 l := fun j u hj => (cell_same hb _).trans (h j u hj)
/-- What does not turn a block with a role keeps the register. -/
theorem RObj.same (h : RObj w B τ p key v ls m c U cs gb gc pm tv gs gm D) (hs : w.heap.size ≤ w1.heap.size) (hb : ∀ b, τ b ≠ none → w1.heap[b]? = w.heap[b]?) : RObj w1 B τ p key v ls m c U cs gb gc pm tv gs gm D where
  low := fun b hb => ⟨(h.low b hb).1, Nat.lt_of_lt_of_le (h.low b hb).2 hs⟩
  tp := h.tp
  cp := (hb p (by rw [h.tp]; simp)).trans h.cp
  sz := h.sz
  c0 := h.c0
  c1 := h.c1
  c2 := h.c2
  c3 := h.c3
  cg := h.cg
  g1 := h.g1
  gT := h.gT
  gR := range_same h.gR (hb gb (by rw [h.gT]; simp))
  ti := h.ti.same hs (fun b ht _ => hb b (by rw [ht]; simp))
  tm := h.tm
  mp := ownsMap_same h.mp (hb pm (by rw [h.tm]; simp))
  tk := ownsRow_same h.tk (fun g hg => hb g (by rw [h.tt g hg]; simp))
  tt := h.tt
  ut := fun q hq => (h.ut q hq).same hs (fun b ht _ => hb b (by rw [ht]; simp))
  gt := h.gt
  gr := fun k hk => (h.gr k hk).same (hb _ (by rw [(h.gt k hk).1]; simp)) (hb _ (by rw [(h.gt k hk).2]; simp))
theorem RObj.below (h : RObj w B τ p key v ls m c U cs gb gc pm tv gs gm D) (hb : Below w.heap.size w w1) : RObj w1 B τ p key v ls m c U cs gb gc pm tv gs gm D :=
  h.same hb.size (fun b hr => hb.block b (h.low b hr).2)
theorem RObj.fr (h : RObj w B τ p key v ls m c U cs gb gc pm tv gs gm D) (hf : Fr σ w w1) (hd : ∀ b, τ b ≠ none → σ b = none) : RObj w1 B τ p key v ls m c U cs gb gc pm tv gs gm D :=
  h.same hf.size (fun b hr => hf.block b (h.low b hr).2 (hd b hr))
/-- A number is taken. -/
theorem RObj.take (h : RObj w B τ p key v ls m c U cs gb gc pm tv gs gm D) {k : Nat} (hk : k < 33) {n : Int} (hg : Grd w1 (gs k) (gm k) (c + 1) (fun q => U k q ∨ q = n)) (hf : Fr (gRl (gs k) (gm k)) w w1) :
    RObj w1 B τ p key v ls m (c + 1) (fun j q => U j q ∨ (j = k ∧ q = n)) cs gb gc pm tv gs gm D := by
  have hk' := h.gt k hk
  have key' : ∀ b r, τ b = some r → r ≠ (3, k) → r ≠ (4, k) → w1.heap[b]? = w.heap[b]? := fun b r hr h3 h4 =>
    hf.block b (h.low b (by rw [hr]; simp)).2 (by
      unfold gRl
      rw [if_neg]
      rintro (e | e)
      · rw [e, hk'.1] at hr; exact h3 (Option.some.inj hr).symm
      · rw [e, hk'.2] at hr; exact h4 (Option.some.inj hr).symm)
  have h9 : ∀ b, τ b = some (9, 0) → b < w.heap.size → w1.heap[b]? = w.heap[b]? := fun b hr _ => key' b _ hr (by simp) (by simp)
  exact {
    low := fun b hb => ⟨(h.low b hb).1, Nat.lt_of_lt_of_le (h.low b hb).2 hf.size⟩
    tp := h.tp
    cp := (key' p _ h.tp (by simp) (by simp)).trans h.cp
    sz := h.sz
    c0 := h.c0
    c1 := h.c1
    c2 := h.c2
    c3 := h.c3
    cg := h.cg
    g1 := h.g1
    gT := h.gT
    gR := range_same h.gR (key' gb _ h.gT (by simp) (by simp))
    ti := h.ti.same hf.size h9
    tm := h.tm
    mp := ownsMap_same h.mp (key' pm _ h.tm (by simp) (by simp))
    tk := ownsRow_same h.tk (fun g hg => key' g _ (h.tt g hg) (by simp) (by simp))
    tt := h.tt
    ut := fun q hq => (h.ut q hq).same hf.size h9
    gt := h.gt
    gr := fun j hj => by
      by_cases e : j = k
      · subst e
        exact hg.mono (Nat.le_refl _) (fun q hq => by rcases hq with hq | hq; exact .inl hq; exact .inr ⟨rfl, hq⟩)
      · have hj' := h.gt j hj
        exact ((h.gr j hj).same (key' _ _ hj'.1 (by simp; exact e) (by simp)) (key' _ _ hj'.2 (by simp) (by simp; exact e))).mono (Nat.le_succ _) (fun q hq => .inl hq) }
/-- A number is entered in the map. -/
theorem RObj.mapped (h : RObj w B τ p key v ls m c U cs gb gc pm tv gs gm D) {D1 : DataW Unit} {m1 : Nat} (hg : w.grownBy w1 (some pm)) (hm : w1.ownsMap Tryz.prog 9 intR pm m1 D1) : RObj w1 B τ p key v ls m1 c U cs gb gc pm tv gs gm D1 := by
  have key' : ∀ b r, τ b = some r → r ≠ (1, 0) → w1.heap[b]? = w.heap[b]? := fun b r hr hne =>
    hg.block b (h.low b (by rw [hr]; simp)).2 (fun e => by cases e; rw [h.tm] at hr; exact hne (Option.some.inj hr).symm)
  have h9 : ∀ b, τ b = some (9, 0) → b < w.heap.size → w1.heap[b]? = w.heap[b]? := fun b hr _ => key' b _ hr (by simp)
  exact {
    low := fun b hb => ⟨(h.low b hb).1, Nat.lt_of_lt_of_le (h.low b hb).2 hg.size⟩
    tp := h.tp
    cp := (key' p _ h.tp (by simp)).trans h.cp
    sz := h.sz
    c0 := h.c0
    c1 := h.c1
    c2 := h.c2
    c3 := h.c3
    cg := h.cg
    g1 := h.g1
    gT := h.gT
    gR := range_same h.gR (key' gb _ h.gT (by simp))
    ti := h.ti.same hg.size h9
    tm := h.tm
    mp := hm
    tk := ownsRow_same h.tk (fun g hg => key' g _ (h.tt g hg) (by simp))
    tt := h.tt
    ut := fun q hq => (h.ut q hq).same hg.size h9
    gt := h.gt
    gr := fun j hj => (h.gr j hj).same (key' _ _ (h.gt j hj).1 (by simp)) (key' _ _ (h.gt j hj).2 (by simp)) }
/-- New blocks get the role (9, 0). -/
theorem RObj.adopt (h : RObj w B τ p key v ls m c U cs gb gc pm tv gs gm D) {b : Nat} (hb : τ b = none) (hB : B ≤ b) (hlt : b < w.heap.size) : RObj w B (tg τ b (9, 0)) p key v ls m c U cs gb gc pm tv gs gm D := by
  have tgo : ∀ x r, τ x = some r → tg τ b (9, 0) x = some r := fun x r hx => by rw [tg_ne _ (fun e => by rw [e, hb] at hx; cases hx)]; exact hx
  exact {
    low := fun x hx => by
      by_cases e : x = b
      · rw [e]; exact ⟨hB, hlt⟩
      · rw [tg_ne _ e] at hx; exact h.low x hx
    tp := tgo _ _ h.tp
    cp := h.cp
    sz := h.sz
    c0 := h.c0
    c1 := h.c1
    c2 := h.c2
    c3 := h.c3
    cg := h.cg
    g1 := h.g1
    gT := tgo _ _ h.gT
    gR := h.gR
    ti := h.ti.role (fun x hx => tgo x _ hx)
    tm := tgo _ _ h.tm
    mp := h.mp
    tk := h.tk
    tt := fun g hg => tgo _ _ (h.tt g hg)
    ut := fun q hq => (h.ut q hq).role (fun x hx => tgo x _ hx)
    gt := fun k hk => ⟨tgo _ _ (h.gt k hk).1, tgo _ _ (h.gt k hk).2⟩
    gr := h.gr }
/-- A ticket is appended. -/
theorem RObj.push (h : RObj w B τ p key v ls m c U cs gb gc pm tv gs gm D) {q : Tp.Tk × Value} (hq : UOk τ w q.2 q.1.x q.1.y) {g cap : Nat} (hg : w.grownBy w1 tv.ownBlock) (hat : tv.ownBlock = some g ∨ w.heap.size ≤ g) (hlt : g < w1.heap.size)
    (ho : w1.ownsRow B 81 14 (.slice (some ⟨g, 0, none⟩) (ls ++ [q]).length cap) (ls ++ [q]).length (tkCs (ls ++ [q]))) :
    RObj (w1.setCell ⟨p, 1, none⟩ (.slice (some ⟨g, 0, none⟩) (ls ++ [q]).length cap)) B (tg τ g (2, 0)) p key v (ls ++ [q]) m c U (cs.setIfInBounds 1 (.slice (some ⟨g, 0, none⟩) (ls ++ [q]).length cap)) gb gc pm (.slice (some ⟨g, 0, none⟩) (ls ++ [q]).length cap) gs gm D := by
  obtain ⟨tv1, htv⟩ : ∃ tv1, tv1 = Value.slice (some ⟨g, 0, none⟩) (ls ++ [q]).length cap := ⟨_, rfl⟩
  rw [← htv] at ho ⊢
  have hgB : B ≤ g := own_ge ho g (by rw [htv]; rfl)
  have hgτ : ∀ x r, τ x = some r → r ≠ (2, 0) → x ≠ g := fun x r hx hr e => by
    subst e
    rcases hat with ha | ha
    · rw [h.tt x ha] at hx; exact hr (Option.some.inj hx).symm
    · have := (h.low x (by rw [hx]; simp)).2; omega
  have tgo : ∀ x r, τ x = some r → r ≠ (2, 0) → tg τ g (2, 0) x = some r := fun x r hx hr => by rw [tg_ne _ (hgτ x r hx hr)]; exact hx
  have old : ∀ x r, τ x = some r → r ≠ (2, 0) → w1.heap[x]? = w.heap[x]? := fun x r hx hr =>
    hg.block x (h.low x (by rw [hx]; simp)).2 (fun e => by have := h.tt x e.symm; rw [hx] at this; exact hr (Option.some.inj this))
  have keep : ∀ x r, τ x = some r → r ≠ (2, 0) → r ≠ (0, 0) → (w1.setCell ⟨p, 1, none⟩ tv1).heap[x]? = w.heap[x]? := fun x r hx hr h0 => by
    rw [Below.heap_setCell _ _ _ _ (show x ≠ p from fun e => by rw [e, h.tp] at hx; exact h0 (Option.some.inj hx).symm)]
    exact old x r hx hr
  have hs : w.heap.size ≤ (w1.setCell ⟨p, 1, none⟩ tv1).heap.size := by rw [sz_set]; exact hg.size
  have h9 : ∀ b, τ b = some (9, 0) → b < w.heap.size → (w1.setCell ⟨p, 1, none⟩ tv1).heap[b]? = w.heap[b]? := fun b hr _ => keep b _ hr (by simp) (by simp)
  have hgp : g ≠ p := fun e => hgτ p _ h.tp (by simp) e.symm
  have hcp1 : Cel w1 p cs 64 := (old p _ h.tp (by simp)).trans h.cp
  exact {
    low := fun x hx => by
      rw [sz_set]
      by_cases e : x = g
      · rw [e]; exact ⟨hgB, hlt⟩
      · rw [tg_ne _ e] at hx; exact ⟨(h.low x hx).1, Nat.lt_of_lt_of_le (h.low x hx).2 hg.size⟩
    tp := tgo _ _ h.tp (by simp)
    cp := hcp1.set 1 tv1
    sz := by rw [Array.size_setIfInBounds]; exact h.sz
    c0 := by rw [Array.getElem?_setIfInBounds, if_neg (by decide)]; exact h.c0
    c1 := by rw [Array.getElem?_setIfInBounds, if_pos rfl, if_pos (by rw [h.sz]; decide)]
    c2 := by rw [Array.getElem?_setIfInBounds, if_neg (by decide)]; exact h.c2
    c3 := by rw [Array.getElem?_setIfInBounds, if_neg (by decide)]; exact h.c3
    cg := fun k hk => by rw [Array.getElem?_setIfInBounds, if_neg (by omega)]; exact h.cg k hk
    g1 := h.g1
    gT := tgo _ _ h.gT (by simp)
    gR := range_same h.gR (keep gb _ h.gT (by simp) (by simp))
    ti := (h.ti.same hs h9).role (fun x hx => tgo x _ hx (by simp))
    tm := tgo _ _ h.tm (by simp)
    mp := ownsMap_same h.mp (keep pm _ h.tm (by simp) (by simp))
    tk := owns_set ho (by rw [htv]; intro e; cases e; exact hgp rfl) tv1
    tt := fun x hx => by rw [htv] at hx; cases hx; exact tg_same _ _ _
    ut := fun r hr => by
      rcases List.mem_append.1 hr with hr | hr
      · exact ((h.ut r hr).same hs h9).role (fun x hx => tgo x _ hx (by simp))
      · simp at hr; subst hr
        exact (hq.same hs h9).role (fun x hx => tgo x _ hx (by simp))
    gt := fun k hk => ⟨tgo _ _ (h.gt k hk).1 (by simp), tgo _ _ (h.gt k hk).2 (by simp)⟩
    gr := fun k hk => (h.gr k hk).same (keep _ _ (h.gt k hk).1 (by simp) (by simp)) (keep _ _ (h.gt k hk).2 (by simp) (by simp)) }
end
end Go.Proofs.YtnnocbelgfhecaaGreatDoor
/- The register: game, offer, draft. -/
set_option linter.unusedSimpArgs false
namespace Go.Proofs.YtnnocbelgfhecaaGreatDoor
open Go.ChangeShapes Go.WideShapes Go.ChangeAt Go.RowKit Go.Lott
theorem infoG : (Tryz.prog.info? 27).map (·.size) = some 22 := by kernel_rfl
theorem gcs_len (v : Value) : (Tryz.prog.info? 27).map (·.size) = some (gcs v).toList.length := infoG
/-- The closure of book.game at the game's name. -/
theorem game1_any (v : Value) (b : Nat) (w : World) (hb : b < w.heap.size) (hc : w.cell? ⟨b, 0, none⟩ = some (.string nmB)) : Calls Tryz.prog 36 #[.agg (gcs v), .pointer (some ⟨b, 0, none⟩)] w (RetB (.bool true) w) := by
  have hs := ba_self nmB
  unfold gcs
  go_enter Tryz.func36, Tryz.ntmps36
  go_wp2
  go_ret
  exact ⟨ret_bool (by first | exact hs | rfl), (Below.refl _ _).alloc (Nat.le_refl _) _⟩
set_option maxHeartbeats 1000000 in
set_option maxRecDepth 100000 in
theorem idxG_any (v : Value) (gb gc b : Nat) (w : World) (hg : w.rangeAt gb 0 (gcs v).toList) (_hc1 : 1 ≤ gc) (hb : b < w.heap.size) (hc : w.cell? ⟨b, 0, none⟩ = some (.string nmB)) : Calls Tryz.prog 35 #[.slice (some ⟨gb, 0, none⟩) 1 gc, .func (.func 36) #[] #[.pointer (some ⟨b, 0, none⟩)]] w (RetB (.int .i64 0) w) := by
  have HG := Lib.hid hg
  have HC := Lib.hid (game1_any v b w hb hc)
  clear hg hc hb
  go_enter Tryz.func35, Tryz.ntmps35
  go_wp2
  refine wp_loop_rounds 1 ?_
  rw [rounds_succ]
  go_wp2_with (first
    | (refine wpList_load_mid rfl 27 _ rfl gb 0 rfl (gcs v).toList _ HG.out Tryz.underlying27 rfl (gcs_len v) ?_)
    | fail)
  refine HC.out.mono ?_
  rintro e w1 ⟨rfl, hb1⟩
  have HX := Lib.hid hb1
  clear hb1
  go_wp2
  go_ret
  exact ⟨rfl, HX.out⟩
section
variable {w : World} {B p m c gb gc pm : Nat} {τ : Rl} {key : Int} {v tv : Value} {ls : List (Tp.Tk × Value)} {U : Nat → Int → Prop} {cs : Array Value} {gs gm : Nat → Nat} {D : DataW Unit}
set_option maxHeartbeats 1000000 in
theorem game_any (h : RObj w B τ p key v ls m c U cs gb gc pm tv gs gm D) : Calls Tryz.prog 18 #[.pointer (some ⟨p, 0, none⟩), .string nmB] w (RetB (.pointer (some ⟨gb, 0, none⟩)) w) := by
  have hb := (Below.refl w.heap.size w).alloc (Nat.le_refl _) (.cells #[.string nmB] 9)
  have h1 := h.below hb
  have HI := Lib.hid (idxG_any v gb gc w.heap.size _ h1.gR h1.g1 (Cel.new w #[.string nmB] 9).lt ((Cel.new w #[.string nmB] 9).cell 0))
  have c0 : (w.alloc (.cells #[.string nmB] 9)).cell? ⟨p, 0, none⟩ = some (.slice (some ⟨gb, 0, none⟩) 1 gc) := by rw [h1.cp.cell, h1.c0]
  have pl := h1.cp.lt
  have HX := Lib.hid hb
  have HO := Lib.hid h1
  have g1 := h.g1
  clear hb h1 h
  go_enter Tryz.func18, Tryz.ntmps18
  go_wp2_with (go_at_call 35; (with_reducible refine HI.out.mono ?_)
               rintro e w1 ⟨rfl, hb1⟩
               have HX1 := Lib.hid (HX.out.trans (hb1.mono HX.out.size))
               have hO1 := HO.out.below hb1
               have d0 : w1.cell? ⟨p, 0, none⟩ = some (.slice (some ⟨gb, 0, none⟩) 1 gc) := by rw [hO1.cp.cell, hO1.c0]
               have pl1 := hO1.cp.lt
               clear hb1 hO1 c0)
  go_ret
  exact ⟨rfl, HX1.out⟩
end
set_option maxHeartbeats 2000000 in
set_option maxRecDepth 100000 in
theorem offer_any (v vb : Value) (x y : Int) (t : Nat) (w : World) (ht : IsTier w v) (hb : IsBet w vb x y) (h2 : t ≤ 160000) : Calls Tryz.prog 47 #[gameV v, vb, .int .i64 t] w (RetB (.tuple #[.int .i64 (Tp.fst t), .int .i64 200, .int .i64 0]) w) := by
  have hX1 := (Below.alloc (Below.refl w.heap.size w) (Nat.le_refl _) (.cells #[.string nmB, .int .i64 1, .int .i64 200, .int .i64 2, .int .i64 6, .int .i64 0, .int .i64 0, .int .i64 0, .int .i64 4, .int .i64 4, .int .i64 32, .int .i64 1230, .int .i64 30, .int .i64 15, .int .i64 90, .int .i64 5000, .int .i64 0, .int .i64 1, .int .i64 0, .int .i64 0, .slice none 0 0, v] 27))
  have HBT := Lib.hid hb
  have HT := Lib.hid ht
  obtain ⟨b, o, c, vm, rfl, _, _, _, _, hm⟩ := hb
  clear hm
  have HX := Lib.hid (hX1.alloc hX1.size (.cells #[.slice (some ⟨b, o, none⟩) 1 c, .bool false, .int .i64 1, .int .i64 0] 79))
  have HG := Lib.hid ((Cel.new w #[.string nmB, .int .i64 1, .int .i64 200, .int .i64 2, .int .i64 6, .int .i64 0, .int .i64 0, .int .i64 0, .int .i64 4, .int .i64 4, .int .i64 32, .int .i64 1230, .int .i64 30, .int .i64 15, .int .i64 90, .int .i64 5000, .int .i64 0, .int .i64 1, .int .i64 0, .int .i64 0, .slice none 0 0, v] 27).alloc (.cells #[.slice (some ⟨b, o, none⟩) 1 c, .bool false, .int .i64 1, .int .i64 0] 79))
  have HL := Lib.hid (show Cel ((w.alloc (.cells #[.string nmB, .int .i64 1, .int .i64 200, .int .i64 2, .int .i64 6, .int .i64 0, .int .i64 0, .int .i64 0, .int .i64 4, .int .i64 4, .int .i64 32, .int .i64 1230, .int .i64 30, .int .i64 15, .int .i64 90, .int .i64 5000, .int .i64 0, .int .i64 1, .int .i64 0, .int .i64 0, .slice none 0 0, v] 27)).alloc (.cells #[.slice (some ⟨b, o, none⟩) 1 c, .bool false, .int .i64 1, .int .i64 0] 79)) (w.heap.size + 1) #[.slice (some ⟨b, o, none⟩) 1 c, .bool false, .int .i64 1, .int .i64 0] 79 by
    have := (Cel.new (w.alloc (.cells #[.string nmB, .int .i64 1, .int .i64 200, .int .i64 2, .int .i64 6, .int .i64 0, .int .i64 0, .int .i64 0, .int .i64 4, .int .i64 4, .int .i64 32, .int .i64 1230, .int .i64 30, .int .i64 15, .int .i64 90, .int .i64 5000, .int .i64 0, .int .i64 1, .int .i64 0, .int .i64 0, .slice none 0 0, v] 27)) #[.slice (some ⟨b, o, none⟩) 1 c, .bool false, .int .i64 1, .int .i64 0] 79)
    simpa using this)
  replace HT := Lib.hid (HT.out.below HX.out (Nat.le_refl _))
  replace HBT := Lib.hid (HBT.out.below HX.out (Nat.le_refl _))
  clear hX1 ht
  have hf1 := Tp.fst_pos t
  have hf2 := Tp.fst_le h2
  have HOP := Lib.hid fun W (h : IsTier W v) => open_any v t W h h2
  have HD := Lib.hid fun W (h : IsTier W v) => draw_any v (Tp.fst t : Int) W h (by omega) (by omega)
  have HPR := Lib.hid fun W vb (h1 : IsTier W v) (h2 : IsBet W vb x y) => price_any v vb x y W h1 h2
  unfold gameV at *
  go_enter Tryz.func47, Tryz.ntmps47
  go_wp2_with (first
    | (refine wpList_load_row rfl 27 _ rfl w.heap.size rfl _ _ _ _ HG.out Tryz.underlying27 rfl (by kernel_rfl) ?_)
    | (go_at_call 42; (with_reducible refine (HOP.out _ HT.out).mono ?_)
       rintro e w1 ⟨rfl, hb1⟩
       replace HX := Lib.hid (HX.out.trans (hb1.mono HX.out.size))
       replace HG := Lib.hid (HG.out.below hb1 HG.out.lt)
       replace HL := Lib.hid (HL.out.below hb1 HL.out.lt)
       replace HT := Lib.hid (HT.out.below hb1 (Nat.le_refl _))
       replace HBT := Lib.hid (HBT.out.below hb1 (Nat.le_refl _))
       have l2 := HL.out.cell 2
       have ll := HL.out.lt
       simp at l2
       clear hb1)
    | (go_at_call 50; (refine (HD.out _ HT.out).mono ?_)
       rintro e w2 ⟨rfl, hb1⟩
       replace HX := Lib.hid (HX.out.trans (hb1.mono HX.out.size))
       replace HG := Lib.hid (HG.out.below hb1 HG.out.lt)
       replace HL := Lib.hid (HL.out.below hb1 HL.out.lt)
       replace HT := Lib.hid (HT.out.below hb1 (Nat.le_refl _))
       replace HBT := Lib.hid (HBT.out.below hb1 (Nat.le_refl _))
       clear l2 ll
       have l0 := HL.out.cell 0
       have l1 := HL.out.cell 1
       have l2 := HL.out.cell 2
       have l3 := HL.out.cell 3
       have ll := HL.out.lt
       simp at l0 l1 l2 l3
       clear hb1)
    | (go_at_call 43; (with_reducible refine (HPR.out _ _ HT.out HBT.out).mono ?_)
       rintro e w3 ⟨rfl, hb1⟩
       replace HX := Lib.hid (HX.out.trans (hb1.mono HX.out.size))
       clear hb1))
  refine bodyPost_ret (results_tmp3 rfl _ _ _) rfl ?_
  exact ⟨rfl, HX.out⟩
end Go.Proofs.YtnnocbelgfhecaaGreatDoor
/- The register: draft. -/
set_option linter.unusedSimpArgs false
namespace Go.Proofs.YtnnocbelgfhecaaGreatDoor
open Go.ChangeShapes Go.WideShapes Go.ChangeAt Go.RowKit Go.Lott
theorem quiet_load_const {P : Program} {C : World → Prop} {a : Act} {K : Act → Prop} {dst : Option Tmp} {ty t : TypeId} {pos : String} {after : Array Edge} {guard : Option (Nat × Bool)} {x : Operand} {g : Nat} {v : Value}
    (hx : a.eval x = .pointer (some ⟨g, 0, none⟩)) (hc : ∀ w, C w → (loadVar t ⟨g, 0, none⟩).run P w = .ok v w)
    (h : (Oper.mk dst (.assign (.const v)) ty pos after guard).quiet P a C K) : (Oper.mk dst (.load t x) ty pos after guard).quiet P a C K := by
  obtain ⟨v', h1, h2⟩ := h
  refine ⟨v', fun w hw => ?_, h2⟩
  have h3 := h1 w hw
  unfold Oper.quietAt at h3 ⊢
  rw [BigFrame.run_assign (.const v) rfl] at h3
  unfold execOp
  simp only [hx, Instr.loadAt, Instr.sureAddr, Sem.run_bind, Sem.run_pure, Result.andThen_ok, hc w hw]
  exact h3
theorem load_game {w : World} {gb : Nat} {v : Value} (h : w.rangeAt gb 0 (gcs v).toList) : (loadVar 27 ⟨gb, 0, none⟩).run Tryz.prog w = .ok (.agg (gcs v)) w :=
  run_loadVar_mid w gb 0 27 (gcs v).toList _ h Tryz.underlying27 rfl (gcs_len v)
def drC (u : Value) (t : Nat) : Array Value := #[.string ⟨#[]⟩, .string nmB, u, .bool false, .int .i64 1, .int .i64 0, .string ⟨#[]⟩, .int .i64 (Tp.fst t), .int .i64 200, .int .i64 t, .int .i64 0, .int .i64 0, .int .i64 0, .bool false]
section
variable {w : World} {B p m c gb gc pm : Nat} {τ : Rl} {key : Int} {v tv : Value} {ls : List (Tp.Tk × Value)} {U : Nat → Int → Prop} {cs : Array Value} {gs gm : Nat → Nat} {D : DataW Unit}
set_option maxHeartbeats 4000000 in
set_option maxRecDepth 100000 in
theorem draft_any (h : RObj w B τ p key v ls m c U cs gb gc pm tv gs gm D) (x y t : Nat) (hx1 : 1 ≤ x) (hxy : x < y) (hy2 : y ≤ 6) (ht : t ≤ 160000) :
    Calls Tryz.prog 25 #[.pointer (some ⟨p, 0, none⟩), .string nmB, .string (tx x y), .int .i64 t] w fun e w' => ∃ u, e = .returned (.tuple #[.agg (drC u t), .int .i64 0]) ∧ IsBetF w.heap.size w' (.agg #[u, .bool false, .int .i64 1, .int .i64 0]) x y ∧ Below w.heap.size w w' := by
  obtain ⟨W1, hW1⟩ : ∃ W1, W1 = w.alloc (.cells #[.string ⟨#[]⟩, .string ⟨#[]⟩, .slice none 0 0, .bool false, .int .i64 0, .int .i64 0, .string ⟨#[]⟩, .int .i64 0, .int .i64 0, .int .i64 0, .int .i64 0, .int .i64 0, .int .i64 0, .bool false] 81) := ⟨_, rfl⟩
  have HX := Lib.hid (show Below w.heap.size w W1 by rw [hW1]; exact (Below.refl _ _).alloc (Nat.le_refl _) _)
  have HR := Lib.hid (show Cel W1 w.heap.size _ _ by rw [hW1]; exact Cel.new _ _ _)
  have HO0 := Lib.hid h
  have HG := Lib.hid fun W h => game_any (w := W) (B := B) (p := p) (m := m) (c := c) (gb := gb) (gc := gc) (pm := pm) (τ := τ) (key := key) (v := v) (tv := tv) (ls := ls) (U := U) (cs := cs) (gs := gs) (gm := gm) (D := D) h
  have HP := Lib.hid (show ∀ W, IsTier W v → Calls Tryz.prog 41 #[.agg (gcs v), .string (tx x y)] W fun e w' => ∃ u, e = .returned (.tuple #[u, .int .i64 0, .int .i64 0]) ∧ IsBetF W.heap.size w' u x y ∧ Below W.heap.size W w' from fun W h => parse_any v x y W h hx1 hxy hy2)
  have HOF := Lib.hid (show ∀ W vb, IsTier W v → IsBet W vb x y → Calls Tryz.prog 47 #[.agg (gcs v), vb, .int .i64 t] W (RetB (.tuple #[.int .i64 (Tp.fst t), .int .i64 200, .int .i64 0]) W) from fun W vb h1 h2 => offer_any v vb x y t W h1 h2 ht)
  have HW := Lib.hid hW1
  clear hW1 h
  go_enter Tryz.func25, Tryz.ntmps25
  go_wp2_with fail
  rw [← HW.out]
  refine (HG.out _ (HO0.out.below HX.out)).mono ?_
  rintro e w1 ⟨rfl, hb1⟩
  replace HX := Lib.hid (HX.out.trans (hb1.mono HX.out.size))
  replace HR := Lib.hid (HR.out.below hb1 HR.out.lt)
  have HGR := Lib.hid (HO0.out.below HX.out).gR
  have hgl := (HO0.out.below HX.out).low gb (by rw [(HO0.out).gT]; simp)
  have HGL := Lib.hid hgl.2
  have HWL1 := Lib.hid (show w.heap.size < w1.heap.size from HR.out.lt)
  clear hb1 HW hgl
  go_wp2_with (first
    | (refine wpList_load_mid rfl 27 _ rfl gb 0 rfl (gcs v).toList _ HGR.out Tryz.underlying27 rfl (gcs_len v) ?_)
    | (go_at_call 41; (with_reducible refine (HP.out _ (HO0.out.below HX.out).ti.tier).mono ?_)
       rintro e w2 ⟨u0, rfl, hbet, hb1⟩
       have hWs := HX.out.size
       replace HX := Lib.hid (HX.out.trans (hb1.mono HX.out.size))
       replace HR := Lib.hid (HR.out.below hb1 HR.out.lt)
       have HBET := Lib.hid hbet
       obtain ⟨ub, uo, uc, mb, mo, mc, rfl, _⟩ := hbet
       have HWS := Lib.hid hWs
       have HWL := Lib.hid (show w.heap.size < w2.heap.size from HR.out.lt)
       clear hb1 hWs))
  obtain ⟨V, hV⟩ : ∃ V, V = w2.alloc (.cells #[.slice (some ⟨ub, uo, none⟩) 1 uc, .bool false, .int .i64 1, .int .i64 0] 79) := ⟨_, rfl⟩
  have hal : Below w2.heap.size w2 V := by rw [hV]; exact (Below.refl _ _).alloc (Nat.le_refl _) _
  have HB := Lib.hid (show Cel V w2.heap.size #[.slice (some ⟨ub, uo, none⟩) 1 uc, .bool false, .int .i64 1, .int .i64 0] 79 by rw [hV]; exact Cel.new _ _ _)
  replace HX := Lib.hid (HX.out.trans (hal.mono HX.out.size))
  replace HR := Lib.hid (HR.out.below hal HR.out.lt)
  replace HBET := Lib.hid (HBET.out.below hal (Nat.le_refl _))
  rw [← hV]
  clear hal hV HGR
  have hOV := HO0.out.below HX.out
  have HTV := Lib.hid hOV.ti.tier
  have HLg := Lib.hid (show ∀ w', (∃ x : Sub V.heap.size V, w' = x.w) → (loadVar 27 ⟨gb, 0, none⟩).run Tryz.prog w' = .ok (.agg (gcs v)) w' from fun w' ⟨x, hx⟩ => by rw [hx]; exact load_game (hOV.below x.h).gR)
  have b0 := Sub.cell (HB.out.cell 0) HB.out.lt
  have b1 := Sub.cell (HB.out.cell 1) HB.out.lt
  have b2 := Sub.cell (HB.out.cell 2) HB.out.lt
  have b3 := Sub.cell (HB.out.cell 3) HB.out.lt
  clear hOV
  refine wp_region_below (by kernel_rfl) (by kernel_rfl) ?_
  repeat (first
    | (go_big_quiet_want; refine quiet_load_const rfl HLg.out ?_; go_big_quiet_op; go_big_quiet_on)
    | go_big_quiet_step ((go_at_call 47; exact Sub.ofB _ (Nat.le_refl _) (HOF.out _ _ (HTV.out.below (Sub.h _) (Nat.le_refl _)) (HBET.out.bet.below (Sub.h _) (Nat.le_refl _))))))
  refine wpQuiet_nil ?_
  rintro w3 ⟨⟨_, hb3⟩, rfl⟩
  have hb1 : Below V.heap.size V w3 := hb3
  replace HX := Lib.hid (HX.out.trans (hb1.mono HX.out.size))
  replace HR := Lib.hid (HR.out.below hb1 HR.out.lt)
  replace HB := Lib.hid (HB.out.below hb1 HB.out.lt)
  replace HBET := Lib.hid (HBET.out.below hb1 (Nat.le_refl _))
  clear b0 b1 b2 b3 hb1 hb3 HTV HLg
  have b0 := HB.out.cell 0
  have b1 := HB.out.cell 1
  have b2 := HB.out.cell 2
  have b3 := HB.out.cell 3
  have bl := HB.out.lt
  have g0 : w3.cell? ⟨gb, 0, none⟩ = some (.string nmB) := (HO0.out.below HX.out).gR 0 _ rfl
  have gl : gb < w3.heap.size := ((HO0.out.below HX.out).low gb (by rw [HO0.out.gT]; simp)).2
  have r0 := HR.out.cell 0
  have f0 := HR.out.free 0
  have r1 := HR.out.cell 1
  have f1 := HR.out.free 1
  have r2 := HR.out.cell 2
  have f2 := HR.out.free 2
  have r3 := HR.out.cell 3
  have f3 := HR.out.free 3
  have r4 := HR.out.cell 4
  have f4 := HR.out.free 4
  have r5 := HR.out.cell 5
  have f5 := HR.out.free 5
  have r6 := HR.out.cell 6
  have f6 := HR.out.free 6
  have r7 := HR.out.cell 7
  have f7 := HR.out.free 7
  have r8 := HR.out.cell 8
  have f8 := HR.out.free 8
  have r9 := HR.out.cell 9
  have f9 := HR.out.free 9
  have r10 := HR.out.cell 10
  have f10 := HR.out.free 10
  have r11 := HR.out.cell 11
  have f11 := HR.out.free 11
  have r12 := HR.out.cell 12
  have f12 := HR.out.free 12
  have r13 := HR.out.cell 13
  have f13 := HR.out.free 13
  have rl := HR.out.lt
  simp at b0 b1 b2 b3 r0 r1 r2 r3 r4 r5 r6 r7 r8 r9 r10 r11 r12 r13
  go_wp2
  refine wp_region_tail 9 (by kernel_rfl) (by kernel_rfl) ?_
  simp only [List.take_succ_cons, List.take_zero, List.drop_succ_cons, List.drop_zero]
  repeat (go_big_quiet_step (fail))
  refine wpQuiet_nil ?_
  go_wp2
  refine bodyPost_ret (v := .tuple #[.agg (drC (.slice (some ⟨ub, uo, none⟩) 1 uc) t), .int .i64 0]) (by simp [results, Tryz.results25, go_sem, drC, r0, r1, r2, r3, r4, r5, r6, r7, r8, r9, r10, r11, r12, r13]) rfl ⟨_, rfl, ?_, ?_⟩
  · refine IsBetF.mono (B := w1.heap.size) ?_ (Nat.le_of_lt HWL1.out)
    refine IsBetF.drew ?_
    repeat (first | (with_reducible exact HBET.out) | (refine IsBetF.st ?_ HWL1.out _))
  · refine Below.drew ?_
    repeat (first | (with_reducible exact HX.out) | (refine Below.setCell ?_ (Nat.le_refl w.heap.size) _))
end
end Go.Proofs.YtnnocbelgfhecaaGreatDoor
