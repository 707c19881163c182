/- Contracts of the drawing functions: the ranges of what is drawn. -/
import Derived.Test.YtehfcejpoigclaaRows
import Derived.Test.YtehfcejpoigclaaMem
import Derived.Test.YtehfcejpoigclaaSetPure
import Derived.Test.YtehfcejpoigclaaCurMem
import Derived.Deep.QuietTactic
import Derived.BigQuiet
import Derived.WalkSmall
import Derived.Deep.RegionHeld3
import Derived.Outline
namespace Go.Proofs.Ytehfcejpoigclaa
open Go.RowKit
set_option linter.unusedVariables false

/-- A draw of a number between lo and hi. -/
def DrInt (g : Nat) (w : World) (lo hi : Int) (e : Ending) (w' : World) : Prop := ∃ x : Int, lo ≤ x ∧ x ≤ hi ∧ e = .returned (.int .i64 x) ∧ Dr 70 g w w'
def DrBool (g : Nat) (w : World) (e : Ending) (w' : World) : Prop := ∃ x : Bool, e = .returned (.bool x) ∧ Dr 70 g w w'
/-- A new cursor. -/
def NewCu (w : World) (e : Ending) (w' : World) : Prop := ∃ g, w.heap.size ≤ g ∧ e = .returned (.pointer (some ⟨g, 0, none⟩)) ∧ Cu w' 70 g ∧ Below w.heap.size w w'
theorem wrap_range (x : Int) : -9223372036854775808 ≤ wrap64 x ∧ wrap64 x ≤ 9223372036854775807 := by unfold wrap64; omega
theorem and255 (a : Int) : 0 ≤ bits .and .i64 a 255 ∧ bits .and .i64 a 255 ≤ 255 := by
  have h : bits .and .i64 a 255 = IntKind.i64.wrap ((BitVec.ofInt 64 a &&& BitVec.ofInt 64 255).toNat : Int) := rfl
  have hx : (BitVec.ofInt 64 a &&& BitVec.ofInt 64 255).toNat ≤ 255 := by
    rw [BitVec.toNat_and]
    exact Nat.le_trans Nat.and_le_right (by decide)
  rw [h, IntKind.wrap_i64]
  omega
theorem and30 (a : Int) : 0 ≤ bits .and .i64 a 1073741823 ∧ bits .and .i64 a 1073741823 ≤ 1073741823 := by
  have h : bits .and .i64 a 1073741823 = IntKind.i64.wrap ((BitVec.ofInt 64 a &&& BitVec.ofInt 64 1073741823).toNat : Int) := rfl
  have hx : (BitVec.ofInt 64 a &&& BitVec.ofInt 64 1073741823).toNat ≤ 1073741823 := by
    rw [BitVec.toNat_and]
    exact Nat.le_trans Nat.and_le_right (by decide)
  rw [h, IntKind.wrap_i64]
  omega

theorem grown_like {w w2 w3 : World} {row : Option Nat} (H : w.grownBy w2 row) (h1 : w3.os = w2.os) (h2 : w3.tape = w2.tape) (h3 : w3.output = w2.output) (h4 : w3.heap = w2.heap) : w.grownBy w3 row :=
  ⟨h1.trans H.os, h2.trans H.tape, h3.trans H.output, by rw [h4]; exact H.size, fun k hk hne => by rw [h4]; exact H.block k hk hne⟩
theorem CuAt.like {w2 w3 : World} {T : TypeId} {g n c : Nat} {B : Option Addr} {i h : Int} {bs : List Int} (q : CuAt w2 T g B n c i h bs) (h4 : w3.heap = w2.heap) : CuAt w3 T g B n c i h bs := by
  have e : ∀ p, w3.cell? p = w2.cell? p := fun p => World.cell?_of_block (by rw [h4])
  refine ⟨by rw [h4]; exact q.1, q.2.1, q.2.2.1, q.2.2.2.1, q.2.2.2.2.1, q.2.2.2.2.2.1, ?_, q.2.2.2.2.2.2.2.1, q.2.2.2.2.2.2.2.2⟩
  exact Rd.keep q.2.2.2.2.2.2.1 (by rw [h4]; exact Nat.le_refl _) (fun b off u _ j hc => (e _).trans hc)
set_option maxHeartbeats 1000000 in
theorem byte_s (g : Nat) (w : World) (hq : Cu w 70 g) : Calls Try.prog 69 #[.pointer (some ⟨g, 0, none⟩)] w (DrInt g w 0 255) := by
  obtain ⟨B, n, c, i, h, bs, q⟩ := hq
  obtain ⟨h', e'⟩ : ∃ y, y = wrap64 (wrap64 (h * 6364136223846793005) + 1442695040888963407) := ⟨_, rfl⟩
  have hr' : -9223372036854775808 ≤ h' ∧ h' ≤ 9223372036854775807 := by rw [e']; exact wrap_range _
  have q1 := q.setH hr'.1 hr'.2
  obtain ⟨c0, c1, c2⟩ := q.cells
  have f2 := q.froz 2
  have hi0 := q.2.1
  have hi1 := q.2.2.1
  have hnn := q.2.2.2.1
  have HE := Lib.hid e'
  clear e' hr'
  go_enter Try.func69, Try.ntmps69
  go_wp2_with fail
  rw [← HE.out]
  obtain ⟨w1, hw1⟩ : ∃ y_, y_ = w.setCell ⟨g, 2, none⟩ (.int .i64 h') := ⟨_, rfl⟩
  rw [← hw1] at q1 ⊢
  have hg1 : w.grownBy w1 (some g) := by rw [hw1]; exact grown_setC w g 2 _
  clear hw1 c0 c1 c2 f2
  obtain ⟨c0, c1, c2⟩ := q1.cells
  have f1 := q1.froz 1
  have hr1 := q1.2.2.2.2.2.2.1
  have hby := Lib.hid q1.2.2.2.2.2.2.2.1
  by_cases hin : i < (n : Int)
  · obtain ⟨k, rfl⟩ := Int.eq_ofNat_of_zero_le hi0
    have hkn : k < n := by omega
    obtain ⟨b, off, x, rfl, hx0, hc⟩ := hr1.get hkn
    have hxr := hby.out x (List.mem_of_getElem? hx0)
    have hbg : b ≠ g := by have := q1.2.2.2.2.2.2.2.2 (by omega) b off rfl; omega
    have Q2 := Lib.hid (q1.setI (i' := (k : Int) + 1) (by omega) (by omega))
    have hxl := hxr.1
    have hxh := hxr.2
    clear hx0 hxr hr1
    go_quiet (fail)
    go_wp2_with fail
    go_quiet (fail)
    go_wp2_with fail
    go_quiet (fail)
    go_wp2
    go_ret
    exact ⟨_, (and255 _).1, (and255 _).2, rfl, grown_like (hg1.trans (grown_setC w1 g 1 (.int .i64 ((k : Int) + 1)))) rfl rfl rfl rfl, _, _, _, _, _, _, Q2.out.like rfl⟩
  · go_quiet (fail)
    go_wp2_with fail
    go_quiet (fail)
    go_wp2
    go_ret
    exact ⟨_, (and255 _).1, (and255 _).2, rfl, grown_like hg1 rfl rfl rfl rfl, _, _, _, _, _, _, q1.like rfl⟩
end Go.Proofs.Ytehfcejpoigclaa
