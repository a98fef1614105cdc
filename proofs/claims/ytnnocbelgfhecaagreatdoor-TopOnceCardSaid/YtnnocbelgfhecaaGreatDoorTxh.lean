/- The register and the three terminals side by side: what each event keeps. -/
import Derived.Test.YtnnocbelgfhecaaGreatDoorTxc
set_option linter.unusedSimpArgs false
namespace Go.Proofs.YtnnocbelgfhecaaGreatDoor
open Go.ChangeShapes Go.WideShapes Go.ChangeAt Go.RowKit Go.Lott
/-- What a call leaves: all below B, and the blocks of Z. -/
structure Kp (B : Nat) (Z : Nat → Prop) (w w' : World) : Prop where
  bel : Below B w w'
  keep : ∀ b, Z b → w'.heap[b]? = w.heap[b]?
theorem Kp.of_below {B : Nat} {Z : Nat → Prop} {w w' : World} (hb : Below w.heap.size w w') (hB : B ≤ w.heap.size) (hZ : ∀ b, Z b → b < w.heap.size) : Kp B Z w w' := ⟨hb.mono hB, fun b hz => hb.block b (hZ b hz)⟩
theorem Kp.trans {B : Nat} {Z : Nat → Prop} {w w1 w2 : World} (h : Kp B Z w w1) (h1 : Kp B Z w1 w2) : Kp B Z w w2 := ⟨h.bel.trans h1.bel, fun b hz => (h1.keep b hz).trans (h.keep b hz)⟩
/-- The register at block p holds S.reg, the terminals at the blocks q hold S.tms; the blocks of Z are of none of them. -/
structure WSx (w : World) (B : Nat) (key : Int) (p : Nat) (q : Nat → Nat) (S : Tp.Sy) (Z : Nat → Prop) (τ : Rl) (σ : Nat → Rl) (v : Value) (ls : List (Tp.Tk × Value)) (U : Nat → Int → Prop) (cs : Array Value) (gb gc pm : Nat) (tv : Value) (gs gm : Nat → Nat) (D : DataW Unit) : Prop where
  reg : ls.map Prod.fst = S.reg
  ro : RObj w B τ p key v ls ls.length ls.length U cs gb gc pm tv gs gm D
  us : ∀ k n, U k n → ∃ t ∈ S.reg, k = t.tm ∧ n = (t.sq : Int)
  tm : ∀ k, k < 3 → ∃ wv pv, TObj w B (σ k) (q k) (k + 1) key (S.tms k).nx (S.tms k).on (S.tms k).wt (S.tms k).wt.length wv pv
  d1 : ∀ k, k < 3 → ∀ b, σ k b ≠ none → τ b = none
  d2 : ∀ k j, k < 3 → j < 3 → k ≠ j → ∀ b, σ k b ≠ none → σ j b = none
  z1 : ∀ b, Z b → b < w.heap.size ∧ τ b = none ∧ ∀ k, k < 3 → σ k b = none
  okR : ∀ t ∈ S.reg, TkOk t
  okW : ∀ k, k < 3 → ∀ t ∈ (S.tms k).wt, TkOk t
def WS (w : World) (B : Nat) (key : Int) (p : Nat) (q : Nat → Nat) (S : Tp.Sy) (Z : Nat → Prop) : Prop :=
  ∃ τ σ v ls U cs gb gc pm tv gs gm D, WSx w B key p q S Z τ σ v ls U cs gb gc pm tv gs gm D
section
variable {w w' : World} {B p gb gc pm : Nat} {q : Nat → Nat} {S : Tp.Sy} {Z : Nat → Prop} {τ τ' s : Rl} {σ : Nat → Rl} {key : Int} {v tv tv' : Value} {ls ls' : List (Tp.Tk × Value)} {U U' : Nat → Int → Prop} {cs cs' : Array Value} {gs gm : Nat → Nat} {D D' : DataW Unit}
theorem WSx.Bw (h : WSx w B key p q S Z τ σ v ls U cs gb gc pm tv gs gm D) : B ≤ w.heap.size := Nat.le_trans (h.ro.low p (by rw [h.ro.tp]; simp)).1 (Nat.le_of_lt (h.ro.low p (by rw [h.ro.tp]; simp)).2)
theorem WSx.same (h : WSx w B key p q S Z τ σ v ls U cs gb gc pm tv gs gm D) (hb : Below w.heap.size w w') : WSx w' B key p q S Z τ σ v ls U cs gb gc pm tv gs gm D where
  reg := h.reg
  ro := h.ro.below hb
  us := h.us
  tm := fun k hk => by
    obtain ⟨wv, pv, ht⟩ := h.tm k hk
    exact ⟨wv, pv, ht.below hb⟩
  d1 := h.d1
  d2 := h.d2
  z1 := fun b hz => ⟨Nat.lt_of_lt_of_le (h.z1 b hz).1 hb.size, (h.z1 b hz).2⟩
  okR := h.okR
  okW := h.okW
/-- Other blocks of the law: kept where they are not of the objects. -/
theorem WSx.zed (h : WSx w B key p q S Z τ σ v ls U cs gb gc pm tv gs gm D) {Z' : Nat → Prop} (hb : ∀ b, (τ b ≠ none ∨ ∃ k, k < 3 ∧ σ k b ≠ none) → w'.heap[b]? = w.heap[b]?) (hs : w.heap.size ≤ w'.heap.size) (hz : ∀ b, Z' b → Z b ∨ (w.heap.size ≤ b ∧ b < w'.heap.size)) : WSx w' B key p q S Z' τ σ v ls U cs gb gc pm tv gs gm D where
  reg := h.reg
  ro := h.ro.same hs (fun b hr => hb b (.inl hr))
  us := h.us
  tm := fun k hk => by
    obtain ⟨wv, pv, ht⟩ := h.tm k hk
    exact ⟨wv, pv, ht.same hs (fun b hr => hb b (.inr ⟨k, hk, hr⟩))⟩
  d1 := h.d1
  d2 := h.d2
  z1 := fun b hz' => by
    rcases hz b hz' with c | ⟨c, c2⟩
    · exact ⟨Nat.lt_of_lt_of_le (h.z1 b c).1 hs, (h.z1 b c).2⟩
    · refine ⟨c2, Classical.byContradiction fun hc => ?_, fun k hk => Classical.byContradiction fun hc => ?_⟩
      · have := (h.ro.low b hc).2; omega
      · obtain ⟨wv, pv, ht⟩ := h.tm k hk
        have := (ht.low b hc).2; omega
  okR := h.okR
  okW := h.okW
/-- One terminal, and the register, are turned. -/
theorem WSx.upd (h : WSx w B key p q S Z τ σ v ls U cs gb gc pm tv gs gm D) {k : Nat} (hk : k < 3) {reg' : List Tp.Tk} {tm' : Tp.Tm} (hreg : ls'.map Prod.fst = reg') (hro : RObj w' B τ' p key v ls' ls'.length ls'.length U' cs' gb gc pm tv' gs gm D')
    (hun : ∀ a n, U' a n → ∃ t ∈ reg', a = t.tm ∧ n = (t.sq : Int)) (htm : ∃ wv pv, TObj w' B s (q k) (k + 1) key tm'.nx tm'.on tm'.wt tm'.wt.length wv pv) (hf : Fr (un τ (σ k)) w w') (hg : Gr τ τ' w.heap.size) (hs : Gr (σ k) s w.heap.size) (hd : ∀ b, s b ≠ none → τ' b = none)
    (hoR : ∀ t ∈ reg', TkOk t) (hoW : ∀ t ∈ tm'.wt, TkOk t) :
    WSx w' B key p q ⟨reg', Tp.upT S.tms k tm'⟩ Z τ' (fun j => if j = k then s else σ j) v ls' U' cs' gb gc pm tv' gs gm D' ∧ Kp B Z w w' := by
  have lowT : ∀ j, j < 3 → ∀ b, σ j b ≠ none → B ≤ b ∧ b < w.heap.size := fun j hj b hb => by
    obtain ⟨wv, pv, ht⟩ := h.tm j hj
    exact ht.low b hb
  have nun : ∀ b, τ b = none → σ k b = none → un τ (σ k) b = none := fun b h1 h2 => by unfold un; rw [if_pos h1]; exact h2
  have gτ : ∀ b, b < w.heap.size → τ b = none → τ' b = none := fun b hb hn => Classical.byContradiction fun hc => by
    rcases hg b hc with d | d
    · exact d hn
    · omega
  have gs' : ∀ b, b < w.heap.size → σ k b = none → s b = none := fun b hb hn => Classical.byContradiction fun hc => by
    rcases hs b hc with d | d
    · exact d hn
    · omega
  refine ⟨{
    reg := hreg
    ro := hro
    us := hun
    tm := fun j hj => ?_
    d1 := fun j hj b hb => ?_
    d2 := fun i j hi hj hij b hb => ?_
    z1 := fun b hz => ?_
    okR := hoR
    okW := fun j hj t ht => ?_ }, ⟨hf.below h.Bw (fun b hb => ?_), fun b hz => ?_⟩⟩
  · dsimp only
    by_cases e : j = k
    · subst e; rw [if_pos rfl, Tp.upT_same]; exact htm
    · rw [if_neg e, Tp.upT_ne _ e]
      obtain ⟨wv, pv, ht⟩ := h.tm j hj
      exact ⟨wv, pv, ht.fr hf (fun b hb => nun b (h.d1 j hj b hb) (h.d2 j k hj hk e b hb))⟩
  · by_cases e : j = k
    · rw [if_pos e] at hb; exact hd b hb
    · rw [if_neg e] at hb; exact gτ b (lowT j hj b hb).2 (h.d1 j hj b hb)
  · by_cases e : i = k
    · rw [if_pos e] at hb
      have e2 : j ≠ k := fun c => hij (e.trans c.symm)
      rw [if_neg e2]
      rcases hs b hb with d | d
      · exact h.d2 k j hk hj (fun c => e2 c.symm) b d
      · exact Classical.byContradiction fun hc => by have := (lowT j hj b hc).2; omega
    · rw [if_neg e] at hb
      by_cases e2 : j = k
      · rw [if_pos e2]; exact gs' b (lowT i hi b hb).2 (h.d2 i k hi hk e b hb)
      · rw [if_neg e2]; exact h.d2 i j hi hj hij b hb
  · have hz' := h.z1 b hz
    refine ⟨Nat.lt_of_lt_of_le hz'.1 hf.size, gτ b hz'.1 hz'.2.1, fun j hj => ?_⟩
    by_cases e : j = k
    · rw [if_pos e]; exact gs' b hz'.1 (hz'.2.2 k hk)
    · rw [if_neg e]; exact hz'.2.2 j hj
  · by_cases e : j = k
    · subst e; dsimp only at ht; rw [Tp.upT_same] at ht; exact hoW t ht
    · dsimp only at ht; rw [Tp.upT_ne _ e] at ht; exact h.okW j hj t ht
  · by_cases e : τ b = none
    · unfold un at hb; rw [if_pos e] at hb; exact (lowT k hk b hb).1
    · exact (h.ro.low b e).1
  · have hz' := h.z1 b hz
    exact hf.block b hz'.1 (nun b hz'.2.1 (hz'.2.2 k hk))
end
end Go.Proofs.YtnnocbelgfhecaaGreatDoor
/- The events: a terminal is dropped, restored, sells. -/
set_option linter.unusedSimpArgs false
namespace Go.Proofs.YtnnocbelgfhecaaGreatDoor
open Go.ChangeShapes Go.WideShapes Go.ChangeAt Go.RowKit Go.Lott
section
variable {w w' : World} {B p gb gc pm : Nat} {q : Nat → Nat} {S : Tp.Sy} {Z : Nat → Prop} {τ : Rl} {σ : Nat → Rl} {key : Int} {v tv : Value} {ls : List (Tp.Tk × Value)} {U : Nat → Int → Prop} {cs : Array Value} {gs gm : Nat → Nat} {D : DataW Unit} {nums : List (Nat × Nat)} {r m T i : Nat}
theorem WSx.out (h : WSx w B key p q S Z τ σ v ls U cs gb gc pm tv gs gm D) : WS w B key p q S Z := ⟨τ, σ, v, ls, U, cs, gb, gc, pm, tv, gs, gm, D, h⟩
theorem WS.same (h : WS w B key p q S Z) (hb : Below w.heap.size w w') : WS w' B key p q S Z := by
  obtain ⟨τ, σ, v, ls, U, cs, gb, gc, pm, tv, gs, gm, D, h⟩ := h
  exact (h.same hb).out
theorem WS.Bw (h : WS w B key p q S Z) : B ≤ w.heap.size := by
  obtain ⟨τ, σ, v, ls, U, cs, gb, gc, pm, tv, gs, gm, D, h⟩ := h
  exact h.Bw
theorem drop_ws (h : WS w B key p q S Z) {k : Nat} (hk : k < 3) (hI : Tp.Inv S nums r m T i) :
    Calls Tryz.prog 8 #[.pointer (some ⟨q k, 0, none⟩)] w fun e w' => e = .returned (.tuple #[]) ∧ ∃ S', WS w' B key p q S' Z ∧ Tp.Inv S' nums r m T i ∧ Kp B Z w w' := by
  obtain ⟨τ, σ, v, ls, U, cs, gb, gc, pm, tv, gs, gm, D, h⟩ := h
  obtain ⟨wv, pv, ht⟩ := h.tm k hk
  have hqt := ht.tq
  have hqτ : τ (q k) = none := h.d1 k hk _ (by rw [hqt]; simp)
  refine (teDrop_any (q k) (k + 1) key (S.tms k).nx (S.tms k).on _ wv pv w ht.cp).mono ?_
  rintro e w' ⟨rfl, hc, hs, hb, hb2⟩
  have hf : Fr (un τ (σ k)) w w' := ⟨hb2.os, hb2.tape, hb2.output, by rw [hs]; exact Nat.le_refl _, fun b _ hn => hb b (fun e => by subst e; have := (un_none hn).2; rw [hqt] at this; cases this)⟩
  have hu := h.upd (w' := w') (τ' := τ) (s := σ k) (ls' := ls) (U' := U) (cs' := cs) (tv' := tv) (D' := D) hk (reg' := S.reg) (tm' := { S.tms k with on := false }) h.reg
    (h.ro.same (by rw [hs]; exact Nat.le_refl _) (fun b hr => hb b (fun e => hr (by rw [e]; exact hqτ)))) h.us
    ⟨wv, pv, {
      low := fun b hr => by rw [hs]; exact ht.low b hr
      tq := hqt
      cp := hc
      wr := ownsRow_same ht.wr (fun g hg => hb g (fun e => by have := ht.wT g hg; rw [e, hqt] at this; cases this))
      pr := ownsRow_same ht.pr (fun g hg => hb g (fun e => by have := ht.pT g hg; rw [e, hqt] at this; cases this))
      wT := ht.wT
      pT := ht.pT }⟩ hf (Gr.refl _ _) (Gr.refl _ _) (h.d1 k hk) h.okR (h.okW k hk)
  exact ⟨rfl, _, hu.1.out, hI.drop hk, hu.2⟩
theorem upT_id {f : Nat → Tp.Tm} {k : Nat} : Tp.upT f k (f k) = f := by
  funext j
  by_cases e : j = k
  · subst e; rw [Tp.upT_same]
  · rw [Tp.upT_ne _ e]
theorem restore_ws (h : WS w B key p q S Z) (hl : Lv B w) {k : Nat} (hk : k < 3) (hI : Tp.Inv S nums r m T i) (hT : T ≤ 160000) (hi : i ≤ 100) :
    Calls Tryz.prog 9 #[.pointer (some ⟨q k, 0, none⟩), .pointer (some ⟨p, 0, none⟩), .int .i64 T] w fun e w' => ∃ a nr c er, e = .returned (.tuple #[.slice a nr c, .int .i64 er]) ∧ ∃ S', WS w' B key p q S' Z ∧ Tp.Inv S' nums (r + nr) m T i ∧ nr ≤ 5 ∧ Kp B Z w w' := by
  obtain ⟨τ, σ, v, ls, U, cs, gb, gc, pm, tv, gs, gm, D, h⟩ := h
  obtain ⟨wv, pv, ht⟩ := h.tm k hk
  have hR := hI.restore hk
  cases hon : (S.tms k).on with
  | true =>
    have hw := hI.on k hk hon
    rw [hon] at ht
    refine (restoreOn_any ht.cp p T).mono ?_
    rintro e w' ⟨rfl, rfl⟩
    refine ⟨none, 0, 0, 8, rfl, S, h.out, ?_, by omega, Kp.of_below (Below.refl _ _) h.Bw (fun b hz => (h.z1 b hz).1)⟩
    exact hI
  | false =>
    have hll : ls.length ≤ 100 := by
      have h1 := hI.ct
      have h2 := hI.ln
      rw [← h.reg, List.length_map] at h1
      omega
    rw [hon] at ht
    refine (restore_any h.ro hl ht (h.d1 k hk) T hT (fun t htw => ?_) (hI.wd k hk) (hI.w5 k hk) (by omega) (by omega) (by omega)).mono ?_
    · refine ⟨h.okW k hk t htw, (hI.wt k hk t htw).2.2.1, fun hu => ?_⟩
      obtain ⟨u, hu1, hu2, hu3⟩ := h.us _ _ hu
      refine hI.dj k hk t htw u hu1 ?_
      unfold Tp.Tk.key
      rw [hu2, show t.sq = u.sq by omega]
    · rintro e w' ⟨a, nr, c, rfl, τ', acc, cs', tv', D', hacc, hnr, hro, ⟨s, hts, hss⟩, hf, hg⟩
      have hal : acc.length = ((S.tms k).wt.filter (Tp.fresh T)).length := by rw [← hacc, List.length_map]
      have hsp := Tp.filter_split (S.tms k).wt (Tp.fresh T)
      have hn : nr = ((S.tms k).wt.filter fun t => !Tp.fresh T t).length := by omega
      have h5 := hI.w5 k hk
      have hlow : ∀ b, s b ≠ none → b < w.heap.size := fun b hb => (ht.low b (hss b hb)).2
      have hu := h.upd (w' := w') (τ' := τ') (s := s) (ls' := ls ++ acc) (cs' := cs') (tv' := tv') (D' := D') hk (reg' := S.reg ++ (S.tms k).wt.filter (Tp.fresh T)) (tm' := ⟨(S.tms k).nx, true, []⟩)
        (by rw [List.map_append, h.reg, hacc]) (by rw [List.length_append]; exact hro)
        (fun a n hu => by
          rcases hu with hu | ⟨t, ht1, ht2, ht3⟩
          · obtain ⟨u, h1, h2⟩ := h.us a n hu
            exact ⟨u, List.mem_append_left _ h1, h2⟩
          · exact ⟨t, List.mem_append_right _ ht1, ht2, ht3⟩)
        ⟨_, _, hts⟩ hf hg (fun b hb => .inl (hss b hb))
        (fun b hb => Classical.byContradiction fun hc => by
          rcases hg b hc with d | d
          · exact d (h.d1 k hk b (hss b hb))
          · have := hlow b hb; omega)
        (fun t ht => by
          rcases List.mem_append.1 ht with c | c
          · exact h.okR t c
          · exact h.okW k hk t (List.mem_filter.1 c).1)
        (fun t ht => by cases ht)
      refine ⟨a, nr, c, 0, rfl, _, hu.1.out, ?_, by omega, hu.2⟩
      rw [hn]
      exact hR
theorem sell_ws (h : WS w B key p q S Z) (hl : Lv B w) {k : Nat} (hk : k < 3) (hI : Tp.Inv S nums r m T i) (hT : T ≤ 160000) (hi : i ≤ 100) (g : Value) (hg : IsTier w g) (x y : Nat) (hx : 1 ≤ x) (hxy : x < y) (hy : y ≤ 6) :
    Calls Tryz.prog 10 #[.pointer (some ⟨q k, 0, none⟩), .pointer (some ⟨p, 0, none⟩), .agg (gcs g), .string (tx x y), .int .i64 0, .int .i64 T] w fun e w' => Kp B Z w w' ∧
      ((e = .returned (.tuple #[rcV key (Tp.sold S k T x y), .int .i64 0]) ∧ ∃ S', WS w' B key p q S' Z ∧ Tp.Inv S' (nums ++ [(k + 1, (S.tms k).nx)]) r (max m (Tp.fst T)) T (i + 1)) ∨
        (e = .returned (.tuple #[.agg rcZ, .int .i64 25]) ∧ WS w' B key p q S Z)) := by
  obtain ⟨τ, σ, v, ls, U, cs, gb, gc, pm, tv, gs, gm, D, h⟩ := h
  obtain ⟨wv, pv, ht⟩ := h.tm k hk
  have hnx := hI.nx k hk
  have hok : TkOk (Tp.sold S k T x y) := ⟨by show 1 ≤ k + 1; omega, by show k + 1 ≤ 32; omega, hnx.1, by show (S.tms k).nx ≤ 1000; omega, hx, hxy, hy, hT⟩
  have hll : ls.length ≤ 100 := by
    have h1 := hI.ct
    have h2 := hI.ln
    rw [← h.reg, List.length_map] at h1
    omega
  cases hon : (S.tms k).on with
  | true =>
    rw [hon] at ht
    have hU : ¬ U (Tp.sold S k T x y).tm (Tp.sold S k T x y).sq := fun hu => by
      obtain ⟨u, hu1, hu2, hu3⟩ := h.us _ _ hu
      refine hI.new hk ?_
      have := (hI.rg u hu1).1
      have e : u.key = (k + 1, (S.tms k).nx) := by
        unfold Tp.Tk.key
        rw [← hu2, show u.sq = (S.tms k).nx from by have : ((S.tms k).nx : Int) = (u.sq : Int) := hu3; omega]
        rfl
      rwa [e] at this
    refine (sellOn_any h.ro hl (Tp.sold S k T x y) hok hU (by omega) (by omega) (by omega) g ht (h.d1 k hk)).mono ?_
    rintro e w' ⟨rfl, τ', u, cs', tv', D', hro, hts, hf, hg'⟩
    have hu := h.upd (w' := w') (τ' := τ') (s := σ k) (ls' := ls ++ [(Tp.sold S k T x y, u)]) (cs' := cs') (tv' := tv') (D' := D') hk (reg' := S.reg ++ [Tp.sold S k T x y]) (tm' := { S.tms k with nx := (S.tms k).nx + 1 })
      (by rw [List.map_append, h.reg]; rfl) (by rw [List.length_append]; exact hro)
      (fun a n hu => by
        rcases hu with hu | hu
        · obtain ⟨u, h1, h2⟩ := h.us a n hu
          exact ⟨u, List.mem_append_left _ h1, h2⟩
        · exact ⟨_, List.mem_append_right _ (List.mem_singleton.2 rfl), hu.1, hu.2⟩)
      ⟨wv, pv, by dsimp only; rw [hon]; exact hts⟩ hf hg' (Gr.refl _ _)
      (fun b hb => Classical.byContradiction fun hc => by
        rcases hg' b hc with d | d
        · exact d (h.d1 k hk b hb)
        · have := (ht.low b hb).2; omega)
      (fun t ht => by
        rcases List.mem_append.1 ht with c | c
        · exact h.okR t c
        · rw [List.mem_singleton.1 c]; exact hok)
      (h.okW k hk)
    exact ⟨hu.2, .inl ⟨rfl, _, hu.1.out, hI.sellOn hk hon⟩⟩
  | false =>
    rw [hon] at ht
    by_cases h5 : (S.tms k).wt.length < 5
    · refine (sellOff_any p hl (Tp.sold S k T x y) hok g hg ht h5).mono ?_
      rintro e w' ⟨rfl, s, wv', pv', hts, hf, hgs⟩
      have hf2 : Fr (un τ (σ k)) w w' := ⟨hf.os, hf.tape, hf.output, hf.size, fun b hb hn => hf.block b hb (un_none hn).2⟩
      have hu := h.upd (w' := w') (τ' := τ) (s := s) (ls' := ls) (U' := U) (cs' := cs) (tv' := tv) (D' := D) hk (reg' := S.reg) (tm' := ⟨(S.tms k).nx + 1, (S.tms k).on, (S.tms k).wt ++ [Tp.sold S k T x y]⟩)
        h.reg (h.ro.fr hf (fun b hb => Classical.byContradiction fun hc => hb (h.d1 k hk b hc))) h.us
        ⟨wv', pv', by dsimp only; rw [hon, List.length_append]; exact hts⟩ hf2 (Gr.refl _ _) hgs
        (fun b hb => by
          rcases hgs b hb with d | d
          · exact h.d1 k hk b d
          · exact Classical.byContradiction fun hc => by have := (h.ro.low b hc).2; omega)
        h.okR
        (fun t ht => by
          rcases List.mem_append.1 ht with c | c
          · exact h.okW k hk t c
          · rw [List.mem_singleton.1 c]; exact hok)
      exact ⟨hu.2, .inl ⟨rfl, _, hu.1.out, hI.sellOff hk hon h5⟩⟩
    · have h5' : (S.tms k).wt.length = 5 := by have := hI.w5 k hk; omega
      refine (sellFull_any p hl (Tp.sold S k T x y) hok g hg ht h5').mono ?_
      rintro e w' ⟨rfl, hb⟩
      exact ⟨Kp.of_below hb h.Bw (fun b hz => (h.z1 b hz).1), .inr ⟨rfl, (h.same hb).out⟩⟩
end
end Go.Proofs.YtnnocbelgfhecaaGreatDoor
/- The ending: what waits, the register's check and length, a last sale. -/
set_option linter.unusedSimpArgs false
namespace Go.Proofs.YtnnocbelgfhecaaGreatDoor
open Go.ChangeShapes Go.WideShapes Go.ChangeAt Go.RowKit Go.Lott
section
variable {w w' : World} {B p : Nat} {q : Nat → Nat} {S : Tp.Sy} {Z : Nat → Prop} {key : Int} {nums : List (Nat × Nat)} {r m T i : Nat}
theorem wait_ws (h : WS w B key p q S Z) {k : Nat} (hk : k < 3) (hI : Tp.Inv S nums r m T i) : Calls Tryz.prog 12 #[.pointer (some ⟨q k, 0, none⟩)] w fun e w' => ∃ a c, e = .returned (.slice a (S.tms k).wt.length c) ∧ Below w.heap.size w w' := by
  obtain ⟨τ, σ, v, ls, U, cs, gb, gc, pm, tv, gs, gm, D, h⟩ := h
  obtain ⟨wv, pv, ht⟩ := h.tm k hk
  exact teWait_any ht (hI.w5 k hk)
theorem WSx.len {τ : Rl} {σ : Nat → Rl} {v tv : Value} {ls : List (Tp.Tk × Value)} {U : Nat → Int → Prop} {cs : Array Value} {gb gc pm : Nat} {gs gm : Nat → Nat} {D : DataW Unit} (h : WSx w B key p q S Z τ σ v ls U cs gb gc pm tv gs gm D) (hI : Tp.Inv S nums r m T i) (hi : i ≤ 100) : ls.length = S.reg.length ∧ ls.length ≤ 100 := by
  have h1 := hI.ct
  have h2 := hI.ln
  rw [← h.reg, List.length_map] at h1 ⊢
  exact ⟨rfl, by omega⟩
theorem fits_ws (h : WS w B key p q S Z) (hI : Tp.Inv S nums r m T i) (hi : i ≤ 100) (hm : m ≤ 100) (g : Value) (hg : IsTier w g) : Calls Tryz.prog 13 #[.pointer (some ⟨p, 0, none⟩), .agg (gcs g), .int .i64 m] w (RetB (.bool true) w) := by
  obtain ⟨τ, σ, v, ls, U, cs, gb, gc, pm, tv, gs, gm, D, h⟩ := h
  have hl := (h.len hI hi).2
  refine fits_any h.ro g hg m hm (by omega) (fun t ht => ?_) (by rw [h.reg]; exact hI.rd)
  rw [h.reg] at ht
  exact ⟨h.okR t ht, (hI.rg t ht).2.1⟩
theorem len_ws (h : WS w B key p q S Z) (hI : Tp.Inv S nums r m T i) (hi : i ≤ 100) : Calls Tryz.prog 14 #[.pointer (some ⟨p, 0, none⟩)] w (RetS (.int .i64 S.reg.length) w) := by
  obtain ⟨τ, σ, v, ls, U, cs, gb, gc, pm, tv, gs, gm, D, h⟩ := h
  rw [← (h.len hI hi).1]
  exact len_any h.ro
def lastT : Tp.Tk := ⟨32, 1, 0, 1, 2⟩
theorem last_ws (h : WS w B key p q S Z) (hl : Lv B w) (hI : Tp.Inv S nums r m T i) (hi : i ≤ 100) (hlow : ∀ t ∈ S.reg, t.tm ≤ 3) : Calls Tryz.prog 15 #[.pointer (some ⟨p, 0, none⟩), .string nmB, .string (tx 1 2), .int .i64 32, .int .i64 1, .int .i64 0, .int .i64 0] w fun e w' => e = .returned (.tuple #[rcV key lastT, .int .i64 0]) ∧ Below B w w' := by
  obtain ⟨τ, σ, v, ls, U, cs, gb, gc, pm, tv, gs, gm, D, h⟩ := h
  have hll := (h.len hI hi).2
  refine (sell_any h.ro hl lastT (by decide) (by decide) (by decide) (by decide) (fun hu => ?_) (by omega) (by omega) (by omega) (by decide) (by decide) (by decide) (by decide)).mono ?_
  · obtain ⟨t, h1, h2, _⟩ := h.us _ _ hu
    have := hlow t h1
    have h3 : (32 : Nat) = t.tm := h2
    omega
  · rintro e w' ⟨τ', u, cs', tv', D', rfl, _, hf, _⟩
    exact ⟨rfl, hf.below h.Bw (fun b hb => (h.ro.low b hb).1)⟩
end
end Go.Proofs.YtnnocbelgfhecaaGreatDoor
/- The sale of the law: its own blocks beside the objects. -/
set_option linter.unusedSimpArgs false
namespace Go.Proofs.YtnnocbelgfhecaaGreatDoor
open Go.ChangeShapes Go.WideShapes Go.ChangeAt Go.RowKit Go.Lott
section
variable {w w' : World} {B p : Nat} {q : Nat → Nat} {S : Tp.Sy} {Z Z' : Nat → Prop} {key : Int} {nums : List (Nat × Nat)} {r m T i : Nat}
theorem WS.zsub (h : WS w B key p q S Z) (hz : ∀ b, Z' b → Z b) : WS w B key p q S Z' := by
  obtain ⟨τ, σ, v, ls, U, cs, gb, gc, pm, tv, gs, gm, D, h⟩ := h
  exact ⟨τ, σ, v, ls, U, cs, gb, gc, pm, tv, gs, gm, D, { reg := h.reg, ro := h.ro, us := h.us, tm := h.tm, d1 := h.d1, d2 := h.d2, z1 := fun b hb => h.z1 b (hz b hb), okR := h.okR, okW := h.okW }⟩
theorem WS.zlt (h : WS w B key p q S Z) : ∀ b, Z b → b < w.heap.size := by
  obtain ⟨τ, σ, v, ls, U, cs, gb, gc, pm, tv, gs, gm, D, h⟩ := h
  exact fun b hb => (h.z1 b hb).1
theorem WS.alloc (h : WS w B key p q S Z) (o : Obj) : WS (w.alloc o) B key p q S (fun b => Z b ∨ b = w.heap.size) := by
  obtain ⟨τ, σ, v, ls, U, cs, gb, gc, pm, tv, gs, gm, D, h⟩ := h
  have hb : Below w.heap.size w (w.alloc o) := (Below.refl _ _).alloc (Nat.le_refl _) o
  have hlow : ∀ b, (τ b ≠ none ∨ ∃ k, k < 3 ∧ σ k b ≠ none) → b < w.heap.size := fun b hb => by
    rcases hb with c | ⟨k, hk, c⟩
    · exact (h.ro.low b c).2
    · obtain ⟨wv, pv, ht⟩ := h.tm k hk
      exact (ht.low b c).2
  exact (h.zed (fun b hr => hb.block b (hlow b hr)) hb.size (fun b hz => by
    rcases hz with c | c
    · exact .inl c
    · exact .inr ⟨by omega, by subst c; simp⟩)).out
theorem WS.row {X : Nat} (h : WS w B key p q S Z) (hx : Z X) (cs : Array Value) : WS (w.setRow X cs) B key p q S Z := by
  obtain ⟨τ, σ, v, ls, U, cs', gb, gc, pm, tv, gs, gm, D, h⟩ := h
  refine (h.zed (fun b hr => setRow_other _ _ _ _ (fun e => ?_)) (by rw [size_setRow]; exact Nat.le_refl _) (fun b hz => .inl hz)).out
  subst e
  rcases hr with c | ⟨k, hk, c⟩
  · exact c (h.z1 _ hx).2.1
  · exact c ((h.z1 _ hx).2.2 k hk)
theorem WS.grow {row : Option Nat} (h : WS w B key p q S Z) (hg : w.grownBy w' row) (hr : ∀ g, row = some g → Z g) (hz : ∀ b, Z' b → Z b ∨ (w.heap.size ≤ b ∧ b < w'.heap.size)) : WS w' B key p q S Z' := by
  obtain ⟨τ, σ, v, ls, U, cs, gb, gc, pm, tv, gs, gm, D, h⟩ := h
  have hlow : ∀ b, (τ b ≠ none ∨ ∃ k, k < 3 ∧ σ k b ≠ none) → b < w.heap.size := fun b hb => by
    rcases hb with c | ⟨k, hk, c⟩
    · exact (h.ro.low b c).2
    · obtain ⟨wv, pv, ht⟩ := h.tm k hk
      exact (ht.low b c).2
  refine (h.zed (fun b hb => hg.block b (hlow b hb) (fun e => ?_)) hg.size hz).out
  have hz := h.z1 b (hr b e.symm)
  rcases hb with c | ⟨k, hk, c⟩
  · exact c hz.2.1
  · exact c (hz.2.2 k hk)
theorem Kp.row {X : Nat} (hX : B ≤ X) (hne : ∀ b, Z b → b ≠ X) (w : World) (cs : Array Value) : Kp B Z w (w.setRow X cs) := ⟨Below.row (Below.refl _ _) hX cs, fun b hb => setRow_other _ _ _ _ (hne b hb)⟩
/-- What stands behind the sale: the receipt in its box X. -/
def SaleQ (wz : World) (B : Nat) (key : Int) (p : Nat) (q : Nat → Nat) (S : Tp.Sy) (Z : Nat → Prop) (nums : List (Nat × Nat)) (r m T i k : Nat) (V : World) (X : Nat) (rc : Array Value) (er : Int) (x y : Nat) : Prop :=
  Cel V X rc 44 ∧ wz.heap.size ≤ X ∧ Kp B Z wz V ∧
    ((er = 0 ∧ rc = rcC key (Tp.sold S k T x y) ∧ ∃ S', WS V B key p q S' Z ∧ Tp.Inv S' (nums ++ [(k + 1, (S.tms k).nx)]) r (max m (Tp.fst T)) T (i + 1)) ∨ (er = 25 ∧ rc = rcZ ∧ WS V B key p q S Z))
/-- What a sale gives. -/
def SaleR (B : Nat) (key : Int) (p : Nat) (q : Nat → Nat) (S : Tp.Sy) (Z : Nat → Prop) (nums : List (Nat × Nat)) (r m T i k x y : Nat) (rc : Array Value) (er : Int) (w' : World) : Prop :=
  rc.size = 7 ∧ (rc.all fun x => x.oneCell') = true ∧ ((er = 0 ∧ rc = rcC key (Tp.sold S k T x y) ∧ ∃ S', WS w' B key p q S' Z ∧ Tp.Inv S' (nums ++ [(k + 1, (S.tms k).nx)]) r (max m (Tp.fst T)) T (i + 1)) ∨ (er = 25 ∧ rc = rcZ ∧ WS w' B key p q S Z))
theorem sell_r (h : WS w B key p q S Z) (hl : Lv B w) {k : Nat} (hk : k < 3) (hI : Tp.Inv S nums r m T i) (hT : T ≤ 160000) (hi : i ≤ 100) (g : Value) (hg : IsTier w g) (x y : Nat) (hx : 1 ≤ x) (hxy : x < y) (hy : y ≤ 6) :
    Calls Tryz.prog 10 #[.pointer (some ⟨q k, 0, none⟩), .pointer (some ⟨p, 0, none⟩), .agg (gcs g), .string (tx x y), .int .i64 0, .int .i64 T] w fun e w' => ∃ rc er, e = .returned (.tuple #[.agg rc, .int .i64 er]) ∧ Kp B Z w w' ∧ SaleR B key p q S Z nums r m T i k x y rc er w' := by
  refine (sell_ws h hl hk hI hT hi g hg x y hx hxy hy).mono ?_
  rintro e w' ⟨hkp, (⟨rfl, S', hws, hI'⟩ | ⟨rfl, hws⟩)⟩
  · exact ⟨rcC key (Tp.sold S k T x y), 0, rfl, hkp, rfl, by kernel_rfl, .inl ⟨rfl, rfl, S', hws, hI'⟩⟩
  · exact ⟨rcZ, 25, rfl, hkp, rfl, by kernel_rfl, .inr ⟨rfl, rfl, hws⟩⟩
theorem SaleR.map {k x y : Nat} {rc : Array Value} {er : Int} (h : SaleR B key p q S Z nums r m T i k x y rc er w) (hz : ∀ S', WS w B key p q S' Z → WS w' B key p q S' Z') : SaleR B key p q S Z' nums r m T i k x y rc er w' := by
  refine ⟨h.1, h.2.1, ?_⟩
  rcases h.2.2 with ⟨a, b, S', c, d⟩ | ⟨a, b, c⟩
  · exact .inl ⟨a, b, S', hz _ c, d⟩
  · exact .inr ⟨a, b, hz _ c⟩
theorem SaleR.done {wz V : World} {X k x y : Nat} {rc : Array Value} {er : Int} {W : World} (h : SaleR B key p q S Z' nums r m T i k x y rc er W) (hws : ∀ S', WS W B key p q S' Z' → WS V B key p q S' Z) (hc : Cel V X rc 44) (hX : wz.heap.size ≤ X) (hkp : Kp B Z wz V) : SaleQ wz B key p q S Z nums r m T i k V X rc er x y :=
  ⟨hc, hX, hkp, (h.map hws).2.2⟩
theorem share {G : Prop} {Q P : World → Nat → Array Value → Int → Nat → Nat → Prop} (main : (∀ V X rc er x y, Q V X rc er x y → P V X rc er x y) → G) (cont : ∀ V X rc er x y, Q V X rc er x y → P V X rc er x y) : G := main cont
end
end Go.Proofs.YtnnocbelgfhecaaGreatDoor
