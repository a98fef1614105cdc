/- The laws on reports of draws: the example, the bound. -/
import Derived.Test.YtgmilhhifigkkaaDoorRoj
namespace Go.Lott.Rp
open Go.Lott.Mny
theorem amT_300 : amT 300 = [51, 46, 48, 48] := by
  rw [amT_pos (by decide), show (300 : Int) = ((300 : Nat) : Int) from rfl, mT_at 300 3 _ (by decide) rfl (dd1 3 (by decide))]; rfl
theorem amT_600 : amT 600 = [54, 46, 48, 48] := by
  rw [amT_pos (by decide), show (600 : Int) = ((600 : Nat) : Int) from rfl, mT_at 600 6 _ (by decide) rfl (dd1 6 (by decide))]; rfl
theorem amT_1 : amT 1 = [48, 46, 48, 49] := by
  rw [amT_pos (by decide), show (1 : Int) = ((1 : Nat) : Int) from rfl, mT_at 1 0 _ (by decide) rfl (dd1 0 (by decide))]; rfl
theorem amT_5 : amT 5 = [48, 46, 48, 53] := by
  rw [amT_pos (by decide), show (5 : Int) = ((5 : Nat) : Int) from rfl, mT_at 5 0 _ (by decide) rfl (dd1 0 (by decide))]; rfl
theorem amT_7 : amT 7 = [48, 46, 48, 55] := by
  rw [amT_pos (by decide), show (7 : Int) = ((7 : Nat) : Int) from rfl, mT_at 7 0 _ (by decide) rfl (dd1 0 (by decide))]; rfl
theorem itoa_1 : Lib.itoa 1 = [49] := by unfold Lib.itoa; rw [if_neg (by decide)]; exact dd1 1 (by decide)
theorem itoa_2 : Lib.itoa 2 = [50] := by unfold Lib.itoa; rw [if_neg (by decide)]; exact dd1 2 (by decide)
theorem itoa_4 : Lib.itoa 4 = [52] := by unfold Lib.itoa; rw [if_neg (by decide)]; exact dd1 4 (by decide)
end Go.Lott.Rp
namespace Go.Proofs.YtgmilhhifigkkaaDoor
open Go.ChangeShapes Go.WideShapes Go.ChangeAt Go.RowKit Go.Lott
open Go.Lott.Mny Go.Lott.Rp
def drwX : ByteArray := ⟨#[100, 114, 97, 119, 32, 120, 32, 51, 10, 109, 97, 105, 110, 32, 49, 32, 52, 10, 116, 105, 101, 114, 32, 48, 32, 50, 32, 51, 46, 48, 48, 32, 54, 46, 48, 48, 10, 98, 114, 101, 97, 107, 97, 103, 101, 32, 48, 46, 48, 49, 10, 100, 114, 97, 119, 110, 32, 48, 46, 48, 48, 10, 99, 97, 114, 114, 121, 32, 48, 46, 48, 53, 10, 114, 101, 115, 101, 114, 118, 101, 32, 48, 46, 48, 55, 10, 114, 111, 108, 108, 115, 32, 49, 10]⟩
def zEx (i : Nat) : Int := if i = 0 then 1 else 4
theorem drwX_eq : (⟨(drwT (⟨#[120]⟩ : ByteArray).data.toList 3 2 zEx 0 (fun _ => 0) 0 (fun _ => 0) 0 ByteArray.empty.data.toList (min (min 1 1) 1) (fun _ => 2) (fun _ => 300) (fun _ => 600) 1 0 1 (fun _ => 5) 7 1).toArray⟩ : ByteArray) = drwX := by
  have e1 : numsT 2 zEx = [Lib.itoa 1, Lib.itoa 4] := rfl
  have e2 : amsT 1 (fun _ => 5) = [amT 5] := rfl
  have e3 : tierT (fun _ => 2) (fun _ => 300) (fun _ => 600) (min (min 1 1) 1) = [] ++ ln wTier [Lib.itoa 0, Lib.itoa 2, amT 300, amT 600] := rfl
  unfold drwT headT resT tailT
  rw [e1, e2, e3, itoa_3, itoa_1, itoa_4, itoa_2, itoa_0, amT_300, amT_600, amT_1, amT_0, amT_5, amT_7]
  rfl
theorem nrow_one {W : World} {b : Nat} {v : Int} {T : TypeId} (h : Cel W b #[.int .i64 v] T) (hv : I64 v) : NRow W (some ⟨b, 0, none⟩) 1 (fun _ => v) :=
  ⟨.inr ⟨b, 0, rfl, h.lt, by decide, fun i hi => by
    obtain rfl : i = 0 := by omega
    exact h.cell 0⟩, fun _ _ => hv⟩
theorem nrow_zEx {W : World} {b : Nat} {T : TypeId} (h : Cel W b #[.int .i64 1, .int .i64 4] T) : NRow W (some ⟨b, 0, none⟩) 2 zEx :=
  ⟨.inr ⟨b, 0, rfl, h.lt, by decide, fun i hi => by
    rcases (show i = 0 ∨ i = 1 by omega) with rfl | rfl
    · exact h.cell 0
    · exact h.cell 1⟩, fun i _ => by unfold zEx I64; split <;> decide⟩
theorem nrow_nil (W : World) : NRow W none 0 (fun _ => 0) := ⟨.inl rfl, fun i hi => by omega⟩
theorem cel_of {w w1 : World} {o : Obj} {b : Nat} {cs : Array Value} {t : TypeId} (h : w1 = w.alloc o) (c : Cel w b cs t) : Cel w1 b cs t := h ▸ c.alloc o
theorem draws_world {w W1 W2 W3 W4 W5 W6 : World} {T TA : TypeId} {aw : Array Value} (h1 : W1 = w.alloc (.cells #[.int .i64 2] T)) (h2 : W2 = W1.alloc (.cells #[.int .i64 300] T)) (h3 : W3 = W2.alloc (.cells #[.int .i64 600] T)) (h4 : W4 = W3.alloc (.cells #[.int .i64 5] T))
    (h5 : W5 = W4.alloc (.cells aw TA)) (h6 : W6 = W5.alloc (.cells #[.int .i64 1, .int .i64 4] T)) :
    NRow W6 (some ⟨w.heap.size, 0, none⟩) 1 (fun _ => 2) ∧ NRow W6 (some ⟨w.heap.size + 1, 0, none⟩) 1 (fun _ => 300) ∧ NRow W6 (some ⟨w.heap.size + 1 + 1, 0, none⟩) 1 (fun _ => 600) ∧ NRow W6 (some ⟨w.heap.size + 1 + 1 + 1, 0, none⟩) 1 (fun _ => 5) ∧
    NRow W6 (some ⟨w.heap.size + 1 + 1 + 1 + 1 + 1, 0, none⟩) 2 zEx ∧ Below w.heap.size w W6 := by
  have e1 : W1.heap.size = w.heap.size + 1 := by rw [h1]; simp
  have e2 : W2.heap.size = w.heap.size + 1 + 1 := by rw [h2]; simp [e1]
  have e3 : W3.heap.size = w.heap.size + 1 + 1 + 1 := by rw [h3]; simp [e2]
  have e4 : W4.heap.size = w.heap.size + 1 + 1 + 1 + 1 := by rw [h4]; simp [e3]
  have e5 : W5.heap.size = w.heap.size + 1 + 1 + 1 + 1 + 1 := by rw [h5]; simp [e4]
  have c1 : Cel W1 w.heap.size _ T := h1 ▸ Cel.new _ _ _
  have c2 : Cel W2 W1.heap.size _ T := h2 ▸ Cel.new _ _ _
  have c3 : Cel W3 W2.heap.size _ T := h3 ▸ Cel.new _ _ _
  have c4 : Cel W4 W3.heap.size _ T := h4 ▸ Cel.new _ _ _
  have c6 : Cel W6 W5.heap.size _ T := h6 ▸ Cel.new _ _ _
  rw [e1] at c2
  rw [e2] at c3
  rw [e3] at c4
  rw [e5] at c6
  refine ⟨nrow_one (cel_of h6 (cel_of h5 (cel_of h4 (cel_of h3 (cel_of h2 c1))))) (by unfold I64; decide), nrow_one (cel_of h6 (cel_of h5 (cel_of h4 (cel_of h3 c2)))) (by unfold I64; decide), nrow_one (cel_of h6 (cel_of h5 (cel_of h4 c3))) (by unfold I64; decide), nrow_one (cel_of h6 (cel_of h5 c4)) (by unfold I64; decide), nrow_zEx c6, ?_⟩
  rw [h6, h5, h4, h3, h2, h1]
  exact ((((((Below.refl _ _).alloc (Nat.le_refl _) _).alloc (by simp) _).alloc (by simp; omega) _).alloc (by simp; omega) _).alloc (by simp; omega) _).alloc (by simp; omega) _
set_option maxHeartbeats 4000000 in
set_option maxRecDepth 100000 in
theorem draws_any (w : World) (hp : P10 w) : Calls Tryd.prog 20 #[] w (RetB (.bool true) w) := by
  obtain ⟨W1, h1⟩ : ∃ W : World, W = w.alloc (.cells #[.int .i64 2] 3) := ⟨_, rfl⟩
  obtain ⟨W2, h2⟩ : ∃ W : World, W = W1.alloc (.cells #[.int .i64 300] 3) := ⟨_, rfl⟩
  obtain ⟨W3, h3⟩ : ∃ W : World, W = W2.alloc (.cells #[.int .i64 600] 3) := ⟨_, rfl⟩
  obtain ⟨W4, h4⟩ : ∃ W : World, W = W3.alloc (.cells #[.int .i64 5] 3) := ⟨_, rfl⟩
  obtain ⟨W5, h5⟩ : ∃ W : World, W = W4.alloc (.cells #[.slice (some ⟨w.heap.size, 0, none⟩) 1 1, .slice (some ⟨w.heap.size + 1, 0, none⟩) 1 1, .slice (some ⟨w.heap.size + 1 + 1, 0, none⟩) 1 1, .int .i64 1, .int .i64 0, .slice (some ⟨w.heap.size + 1 + 1 + 1, 0, none⟩) 1 1, .int .i64 7, .int .i64 1] 47) := ⟨_, rfl⟩
  obtain ⟨W6, h6⟩ : ∃ W : World, W = W5.alloc (.cells #[.int .i64 1, .int .i64 4] 3) := ⟨_, rfl⟩
  obtain ⟨r1, r2, r3, r4, r5, hb⟩ := draws_world h1 h2 h3 h4 h5 h6
  have i0 : I64 0 := by unfold I64; decide
  have i1 : I64 1 := by unfold I64; decide
  have i7 : I64 7 := by unfold I64; decide
  have i3 : I64 3 := by unfold I64; decide
  have h := draw_any ⟨#[120]⟩ (fun _ => 0) none 0 0 none 0 0 3 (some ⟨w.heap.size + 1 + 1 + 1 + 1 + 1, 0, none⟩) 2 2 zEx none 0 0 (fun _ => 0) none 0 0 (fun _ => 0) 0 ByteArray.empty (some ⟨w.heap.size, 0, none⟩) 1 1 (fun _ => 2) (some ⟨w.heap.size + 1, 0, none⟩) 1 1 (fun _ => 300) (some ⟨w.heap.size + 1 + 1, 0, none⟩) 1 1 (fun _ => 600) 1 0 (some ⟨w.heap.size + 1 + 1 + 1, 0, none⟩) 1 1 (fun _ => 5) 7 1 W6
    (by decide) i3 r5 (nrow_nil _) (nrow_nil _) i0 (by decide) r1 r2 r3 i1 i0 r4 i7 i1 (by decide) (by decide) (by decide) (by decide) (by decide) (hp.grow hb)
  rw [drwX_eq] at h
  have HE : Hid (Calls Tryd.prog 21 #[.agg #[.string ⟨#[120]⟩, .int .i64 0, .int .i64 0, .int .i64 0, .int .i64 0, .int .i64 0, .int .i64 0, .int .i64 0, .int .i64 0, .int .i64 0, .int .i64 0, .int .i64 0, .int .i64 0, .int .i64 0, .int .i64 0, .int .i64 0, .int .i64 0, .int .i64 0, .int .i64 0, .int .i64 0, .slice none 0 0, .slice none 0 0], .int .i64 3, .agg #[.slice (some ⟨w.heap.size + 1 + 1 + 1 + 1 + 1, 0, none⟩) 2 2, .slice none 0 0, .slice none 0 0, .int .i64 0, .string ByteArray.empty], .agg #[.slice (some ⟨w.heap.size, 0, none⟩) 1 1, .slice (some ⟨w.heap.size + 1, 0, none⟩) 1 1, .slice (some ⟨w.heap.size + 1 + 1, 0, none⟩) 1 1, .int .i64 1, .int .i64 0, .slice (some ⟨w.heap.size + 1 + 1 + 1, 0, none⟩) 1 1, .int .i64 7, .int .i64 1]] W6 (RetB (.string drwX) W6)) := Lib.hid h
  have HW := Lib.hid (h6.trans (by rw [h5, h4, h3, h2, h1]))
  have HB := Lib.hid hb
  have hx : drwX.toList = [100, 114, 97, 119, 32, 120, 32, 51, 10, 109, 97, 105, 110, 32, 49, 32, 52, 10, 116, 105, 101, 114, 32, 48, 32, 50, 32, 51, 46, 48, 48, 32, 54, 46, 48, 48, 10, 98, 114, 101, 97, 107, 97, 103, 101, 32, 48, 46, 48, 49, 10, 100, 114, 97, 119, 110, 32, 48, 46, 48, 48, 10, 99, 97, 114, 114, 121, 32, 48, 46, 48, 53, 10, 114, 101, 115, 101, 114, 118, 101, 32, 48, 46, 48, 55, 10, 114, 111, 108, 108, 115, 32, 49, 10] := by rw [ByteArray.toList_eq]; rfl
  clear h hb h1 h2 h3 h4 h5 h6 r1 r2 r3 r4 r5 hp i0 i1 i7 i3
  go_enter Tryd.func20, Tryd.ntmps20
  go_wp2_with fail
  rw [← HW.out]
  go_wp2_with (go_at_call 21; refine HE.out.mono ?_; rintro e w1 ⟨rfl, hb1⟩; have HB1 := Lib.hid (HB.out.trans (hb1.mono HB.out.size)); clear hb1)
  go_ret
  exact ⟨rfl, HB1.out⟩
end Go.Proofs.YtgmilhhifigkkaaDoor
