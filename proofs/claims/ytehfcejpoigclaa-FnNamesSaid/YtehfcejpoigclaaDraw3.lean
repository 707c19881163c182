/- Rows drawn beside a cursor: pushes leave the cursor as it is. No program in sight. -/
import Derived.Test.YtehfcejpoigclaaMem
import Derived.Test.YtehfcejpoigclaaCurMem
namespace Go.Proofs.Ytehfcejpoigclaa
open Go.RowKit
set_option linter.unusedVariables false

theorem CuAt.belowB {w w' : World} {T : TypeId} {g n c B : Nat} {A : Option Addr} {i h : Int} {bs : List Int} (q : CuAt w T g A n c i h bs) (hb : Below B w w') (hg : g < B) : CuAt w' T g A n c i h bs := by
  obtain ⟨e, h1, h2, h3, h4, h5, hr, hby, hB⟩ := q
  refine ⟨by rw [hb.block g hg]; exact e, h1, h2, h3, h4, h5, ?_, hby, hB⟩
  refine ⟨hr.1, fun hn => ?_⟩
  obtain ⟨b, off, e, hlt, hc⟩ := hr.2 hn
  have hl := hr.len
  have hbg := hB (by simp at hn; omega) b off e
  refine ⟨b, off, e, Nat.lt_of_lt_of_le hlt hb.size, fun j u hu => ?_⟩
  exact (hb.cell (p := ⟨b, off + j, none⟩) (show b < B by omega)).trans (hc j u hu)
theorem Cu.belowB {w w' : World} {T : TypeId} {g B : Nat} (q : Cu w T g) (hb : Below B w w') (hg : g < B) : Cu w' T g := by
  obtain ⟨A, n, c, i, h, bs, q⟩ := q
  exact ⟨A, n, c, i, h, bs, q.belowB hb hg⟩
/-- A push onto a row that is newer than w. -/
theorem Dr.push {w wr w1 : World} {T : TypeId} {g : Nat} (h : Dr T g w wr) (hg : g < w.heap.size) (hb : Below w.heap.size wr w1) : Dr T g w w1 :=
  ⟨⟨hb.os.trans h.1.os, hb.tape.trans h.1.tape, hb.output.trans h.1.output, Nat.le_trans h.1.size hb.size, fun k hk hne => (hb.block k hk).trans (h.1.block k hk hne)⟩, h.2.belowB hb hg⟩
/-- A literal without elements is a row of the call's own. -/
theorem lit_noneO {w : World} {base : Nat} {E : TypeId} {k : IntKind} (h : base ≤ w.heap.size) : Oi (w.alloc (.cells #[] E)) base E k (some ⟨w.heap.size, 0, none⟩) 0 0 [] := World.ownsRow_made w #[] 0 h (Nat.zero_le _) rfl
end Go.Proofs.Ytehfcejpoigclaa
