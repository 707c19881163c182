/- Digits parsed from what was formatted; the strings drawn. -/
import Derived.Test.YtenkmppmjfhajaaRows
import Derived.Test.YtenkmppmjfhajaaMem
import Derived.Test.YtenkmppmjfhajaaSetPure
import Derived.Test.YtenkmppmjfhajaaCurMem
import Derived.Test.YtenkmppmjfhajaaDraw1
import Derived.Test.YtenkmppmjfhajaaDraw2
import Derived.Test.YtenkmppmjfhajaaLaw6
import Derived.Test.YtenkmppmjfhajaaStrPure
import Derived.Test.YtenkmppmjfhajaaFmt
import Derived.Test.YtenkmppmjfhajaaParse
import Derived.Deep.QuietTactic
import Derived.BigQuiet
import Derived.WalkSmall
import Derived.Deep.RegionHeld3
import Derived.Outline
namespace Go.Proofs.Ytenkmppmjfhajaa
open Go.RowKit
set_option linter.unusedVariables false

theorem digs_val (m : Nat) (h : m < 100000000000000000000) : val (digs m) = (m : Int) := by
  induction m using Nat.strongRecOn with
  | ind m ih =>
    by_cases h1 : m < 10
    · rw [digs_small h1]
      simp [val]
      omega
    · rw [digs_big (by omega) h, val_snoc, ih (m / 10) (by omega) (by omega)]
      omega
theorem digs_len_le (k m : Nat) (h : m < 10 ^ (k + 1)) (hk : k < 19) : (digs m).length ≤ k + 1 := by
  induction k generalizing m with
  | zero =>
    rw [digs_small (by simpa using h)]
    simp
  | succ k ih =>
    by_cases h1 : m < 10
    · rw [digs_small h1]
      simp
    · have hm : m < 100000000000000000000 := Nat.lt_of_lt_of_le h (Nat.le_trans (Nat.pow_le_pow_right (by omega) (show k + 1 + 1 ≤ 20 by omega)) (by decide))
      rw [digs_big (by omega) hm]
      have := ih (m / 10) (by rw [Nat.pow_succ] at h; omega) (by omega)
      simp
      omega
theorem digs_pos (m : Nat) (hm : m < 100000000000000000000) : 1 ≤ (digs m).length := by
  by_cases h1 : m < 10
  · rw [digs_small h1]
    simp
  · rw [digs_big (by omega) hm]
    simp
theorem digs_all (m : Nat) : (digs m).all isDig = true := by
  rw [List.all_eq_true]
  intro x hx
  have := digs_range m x hx
  simp [isDig]
  omega
theorem fmt_bl (n : Int) : bl (strOfNums (fmtI n)) = fmtI n := bl_strOf _ fun x hx => by have := fmtI_range n x hx; omega
theorem parse_fmt {n : Int} (h0 : 0 ≤ n) (h1 : n ≤ 1000000000000) : parseB (fmtI n) = true ∧ parseV (fmtI n) = n := by
  obtain ⟨m, rfl⟩ := Int.eq_ofNat_of_zero_le h0
  have e : fmtI (m : Int) = digs m := by unfold fmtI; rw [if_neg (by omega)]; rfl
  have hv := digs_val m (by omega)
  have hb : parseB (fmtI (m : Int)) = true := by
    rw [e]
    simp only [parseB, Bool.and_eq_true, decide_eq_true_eq, hv]
    refine ⟨⟨⟨⟨digs_pos m (by omega), digs_len_le 12 m (by have : (10 : Nat) ^ (12 + 1) = 10000000000000 := rfl; omega) (by omega)⟩, digs_all m⟩, h1⟩, e⟩
  refine ⟨hb, ?_⟩
  rw [parseV, if_pos hb, e, hv]
theorem parse_fmt_out {n : Int} (h : ¬ (0 ≤ n ∧ n ≤ 1000000000000)) (h1 : -9223372036854775808 ≤ n) (h2 : n ≤ 9223372036854775807) : parseB (fmtI n) = false := by
  rw [Bool.eq_false_iff]
  intro hb
  simp only [parseB, Bool.and_eq_true, decide_eq_true_eq] at hb
  by_cases h0 : 0 ≤ n
  · obtain ⟨m, rfl⟩ := Int.eq_ofNat_of_zero_le h0
    have e : fmtI (m : Int) = digs m := by unfold fmtI; rw [if_neg (by omega)]; rfl
    rw [e, digs_val m (by omega)] at hb
    omega
  · have := List.all_eq_true.1 hb.1.1.2 45 (by unfold fmtI; rw [if_pos (by omega)]; simp)
    simp [isDig] at this
theorem fmt_parse {l : List Int} (h : parseB l = true) : fmtI (parseV l) = l := by
  rw [parseV, if_pos h]
  simp only [parseB, Bool.and_eq_true, decide_eq_true_eq] at h
  exact h.2
theorem parseV_range (l : List Int) : 0 ≤ parseV l ∧ parseV l ≤ 1000000000000 := by
  unfold parseV
  split
  · rename_i h
    simp only [parseB, Bool.and_eq_true, decide_eq_true_eq] at h
    exact ⟨(val_bound l h.1.1.2).1, h.1.2⟩
  · omega

theorem Rd.lit {w : World} {g : Nat} {vs : List Value} {cs : Array Value} {E : TypeId} {fz : Nat × Nat} (e : w.heap[g]? = some (.cells cs E fz)) (hz : cs.toList = vs) : Rd w 1 (some ⟨g, 0, none⟩) vs.length vs := by
  refine ⟨by simp, fun _ => ⟨g, 0, rfl, (Array.getElem?_eq_some_iff.1 e).1, fun j u hu => ?_⟩⟩
  rw [← hz] at hu
  simp [World.cell?, e]
  simpa using hu
theorem Rd.litV {w : World} {vs : List Value} {E : TypeId} : Rd (w.alloc (.cells vs.toArray E)) 1 (some ⟨w.heap.size, 0, none⟩) vs.length vs :=
  Rd.lit (cs := vs.toArray) (E := E) (fz := (0, 0)) (heap_new w _) (by simp)
/-- A drawn string. -/
def DrStr (g : Nat) (w : World) (ss : List ByteArray) (e : Ending) (w' : World) : Prop := ∃ x : ByteArray, x ∈ ss ∧ e = .returned (.string x) ∧ Dr 74 g w w'
def RetStr (w : World) (e : Ending) (w' : World) : Prop := ∃ s : ByteArray, s.size ≤ 1000 ∧ e = .returned (.string s) ∧ Below w.heap.size w w'
set_option maxHeartbeats 1000000 in
theorem str_s (g : Nat) (A : Option Addr) (n c : Nat) (ss : List ByteArray) (w : World) (hq : Cu w 74 g) (hr : Rd w 1 A n (ss.map Value.string)) (h0 : 0 < n) (h1 : n ≤ 1000) (hne : ∀ b off, A = some ⟨b, off, none⟩ → b ≠ g) : Calls Try.prog 87 #[.pointer (some ⟨g, 0, none⟩), .slice A n c] w (DrStr g w ss) := by
  have Hne := Lib.hid hne
  clear hne
  go_enter Try.func87, Try.ntmps87
  go_wp2_with fail
  refine (below_s _ _ _ hq (by omega)).mono ?_
  rintro e w1 ⟨x, hx0, hx1, rfl, hd1⟩
  obtain ⟨k, rfl⟩ := Int.eq_ofNat_of_zero_le hx0
  have hk : k < n := by omega
  have hr1 := Rd.grown hr hd1.1 (fun b off e he => Hne.out b off e (by injection he))
  have hl : ss.length = n := by have := hr.1; simpa using this
  obtain ⟨y, hy0⟩ : ∃ y, ss[k]? = some y := ⟨_, List.getElem?_eq_getElem (by omega)⟩
  obtain ⟨b, off, rfl, _, hc⟩ := Rd.get hr1 (j := k) (u := .string y) (by rw [List.getElem?_map, hy0]; rfl)
  have hy := Lib.hid (List.mem_of_getElem? hy0)
  clear hy0 hr hr1
  have hx2 : (k : Int) < (n : Int) := by omega
  go_wp2
  go_ret
  exact ⟨y, hy.out, rfl, hd1⟩
theorem drFmt_s (A : Option Addr) (n c : Nat) (bs : List Int) (w : World) (h8 : Code8 w A n bs) : Calls Try.prog 30 #[.slice A n c] w fun e w' => ∃ x : Int, I64 x ∧ e = .returned (.int .i64 x) ∧ Below w.heap.size w w' := by
  go_enter Try.func30, Try.ntmps30
  go_wp2_with fail
  refine (new_s _ _ _ bs _ h8).mono ?_
  rintro e w1 ⟨g, hg, rfl, hq, hb⟩
  go_wp2_with fail
  refine (one_s _ _ hq).mono ?_
  rintro e w2 ⟨x, hx0, hx1, rfl, hd1⟩
  go_wp2
  go_ret
  exact ⟨x, ⟨hx0, hx1⟩, rfl, hb.trans (hd1.below hg hb.size)⟩
set_option maxHeartbeats 1000000 in
theorem drParse_s (A : Option Addr) (n c : Nat) (bs : List Int) (w : World) (h8 : Code8 w A n bs) : Calls Try.prog 31 #[.slice A n c] w (RetStr w) := by
  go_enter Try.func31, Try.ntmps31
  go_wp2_with fail
  refine (new_s _ _ _ bs _ h8).mono ?_
  rintro e w1 ⟨g, hg, rfl, hq, hb⟩
  go_wp2_with fail
  refine (once_s _ _ _ hq (by omega)).mono ?_
  rintro e w2 ⟨b, rfl, hd1⟩
  rcases Bool.eq_false_or_eq_true b with rfl | rfl
  · go_wp2_with fail
    refine (str_s _ _ _ _ [⟨#[]⟩, ⟨#[48]⟩, ⟨#[48, 48]⟩, ⟨#[45, 49]⟩, ⟨#[48, 49]⟩, ⟨#[55]⟩, ⟨#[49, 48, 48, 48, 48, 48, 48, 48, 48, 48, 48, 48, 48]⟩, ⟨#[49, 48, 48, 48, 48, 48, 48, 48, 48, 48, 48, 48, 49]⟩, ⟨#[57, 57, 57, 57, 57, 57, 57, 57, 57, 57, 57, 57, 57, 57]⟩, ⟨#[49, 120]⟩, ⟨#[32, 49]⟩] _ (hd1.2.alloc _) (Rd.litV (vs := List.map Value.string [⟨#[]⟩, ⟨#[48]⟩, ⟨#[48, 48]⟩, ⟨#[45, 49]⟩, ⟨#[48, 49]⟩, ⟨#[55]⟩, ⟨#[49, 48, 48, 48, 48, 48, 48, 48, 48, 48, 48, 48, 48]⟩, ⟨#[49, 48, 48, 48, 48, 48, 48, 48, 48, 48, 48, 48, 49]⟩, ⟨#[57, 57, 57, 57, 57, 57, 57, 57, 57, 57, 57, 57, 57, 57]⟩, ⟨#[49, 120]⟩, ⟨#[32, 49]⟩])) (by decide) (by decide) (fun b off e => by injection e with e; injection e with e; have := hd1.2.lt; omega)).mono ?_
    rintro e w3 ⟨x, hm, rfl, hd⟩
    have hx : Hid (x ∈ ([⟨#[]⟩, ⟨#[48]⟩, ⟨#[48, 48]⟩, ⟨#[45, 49]⟩, ⟨#[48, 49]⟩, ⟨#[55]⟩, ⟨#[49, 48, 48, 48, 48, 48, 48, 48, 48, 48, 48, 48, 48]⟩, ⟨#[49, 48, 48, 48, 48, 48, 48, 48, 48, 48, 48, 48, 49]⟩, ⟨#[57, 57, 57, 57, 57, 57, 57, 57, 57, 57, 57, 57, 57, 57]⟩, ⟨#[49, 120]⟩, ⟨#[32, 49]⟩] : List ByteArray)) := Lib.hid hm
    clear hm
    go_wp2
    go_ret
    refine ⟨x, ?_, rfl, hb.trans (((hd1.alloc _).trans hd).below hg hb.size)⟩
    have hs : ∀ y ∈ ([⟨#[]⟩, ⟨#[48]⟩, ⟨#[48, 48]⟩, ⟨#[45, 49]⟩, ⟨#[48, 49]⟩, ⟨#[55]⟩, ⟨#[49, 48, 48, 48, 48, 48, 48, 48, 48, 48, 48, 48, 48]⟩, ⟨#[49, 48, 48, 48, 48, 48, 48, 48, 48, 48, 48, 48, 49]⟩, ⟨#[57, 57, 57, 57, 57, 57, 57, 57, 57, 57, 57, 57, 57, 57]⟩, ⟨#[49, 120]⟩, ⟨#[32, 49]⟩] : List ByteArray), y.size ≤ 1000 := by decide
    exact hs x hx.out
  · go_wp2_with fail
    refine (num_s _ _ hd1.2).mono ?_
    rintro e w3 ⟨x, hx0, hx1, rfl, hd2⟩
    go_wp2_with fail
    refine (fmt_s _ _ (by omega) (by omega)).mono ?_
    rintro e w4 ⟨rfl, hb4⟩
    go_wp2
    go_ret
    have hB := hb.trans ((hd1.trans hd2).below hg hb.size)
    refine ⟨_, ?_, rfl, below_keep00 hB hb4⟩
    have := fmtI_len x
    rw [strOfNums_size]
    omega
end Go.Proofs.Ytenkmppmjfhajaa
