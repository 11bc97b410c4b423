/- The longest texts. -/
import Derived.Test.YtomnjhhpeglcnaaGreatZ1
namespace Go.Proofs.YtomnjhhpeglcnaaGreat
open Go.RowKit
set_option linter.unusedSimpArgs false
set_option linter.unusedVariables false
set_option maxRecDepth 100000

def xS : ByteArray := ⟨#[120]⟩
def kx : KS := ⟨0, [xS]⟩
def tokB : Tok := ⟨15, 2147483647, 2147483647⟩
theorem head_B : (KS.head 0 tokB).length = 12 := by decide +kernel
theorem openX : kx.open_ (strB (strOf (spellB (kx.bytes tokB)))) = (tokB, 0) := by
  rw [open_made kx kx tokB (by decide) (by decide), if_neg (by decide), if_pos (show taggedB (kx.at_ (kx.newest - kx.first)) (KS.head kx.newest tokB) = kx.bytes tokB from rfl)]
theorem sizeX : (strOf (spellB (kx.bytes tokB))).size ≤ 60 := by
  have h1 : (strOf (spellB (kx.bytes tokB))).size = (spellB (kx.bytes tokB)).length := by rw [← strB_len, strB_strOf]
  have h2 := spellB_len (kx.bytes tokB)
  have h3 : (kx.bytes tokB).length = (KS.head 0 tokB).length + 16 := taggedB_len _ _
  rw [head_B] at h3
  omega
theorem openA0 : (kx.open_ (List.replicate 200 97#8)).2 = 161 := by decide +kernel
theorem openA1 : (kx.open_ (List.replicate 201 97#8)).2 = 3 := by decide +kernel
theorem openX_c (p : Nat) (X : ByteArray) (w : World) (h : IsKeys w p kx) (hX : X = strOf (spellB (kx.bytes tokB))) :
    Calls Tryz.prog 10 #[.pointer (some ⟨p, 0, none⟩), .string X] w fun e w' => e = .returned (.tuple #[.agg #[.int .i64 15, .int .i64 2147483647, .int .i64 2147483647], .int .i64 0]) ∧ Below w.heap.size w w' := by
  have hs : X.size ≤ 60 := by rw [hX]; exact sizeX
  have := open_c p kx X w h (by decide) (by omega)
  rw [show kx.open_ (strB X) = (tokB, 0) by rw [hX]; exact openX] at this
  exact this
/-- A text that is told an error. -/
theorem openE_c (p : Nat) (k : KS) (l : List By) (e : Int) (w : World) (h : IsKeys w p k) (hf : k.first ≤ 1000000000) (hl : l.length ≤ 1000) (he : (k.open_ l).2 = e) :
    Calls Tryz.prog 10 #[.pointer (some ⟨p, 0, none⟩), .string (strOf l)] w fun r w' => (∃ a b c : Int, r = .returned (.tuple #[.agg #[.int .i64 a, .int .i64 b, .int .i64 c], .int .i64 e])) ∧ Below w.heap.size w w' := by
  have hs : (strOf l).size = l.length := by rw [← strB_len, strB_strOf]
  have := open_c p k (strOf l) w h hf (by omega)
  rw [strB_strOf, he] at this
  refine this.mono ?_
  rintro r w' ⟨rfl, hb⟩
  exact ⟨⟨_, _, _, rfl⟩, hb⟩
theorem fill_set (k N : Nat) (l : List By) (h : l = List.replicate k 97#8 ++ List.replicate (N - k) 0#8) (hk : k < N) : l.set k 97#8 = List.replicate (k + 1) 97#8 ++ List.replicate (N - (k + 1)) 0#8 := by
  obtain ⟨m, rfl⟩ : ∃ m, N = k + (m + 1) := ⟨N - k - 1, by omega⟩
  rw [h, show k + (m + 1) - k = m + 1 by omega, show k + (m + 1) - (k + 1) = m by omega, List.set_append_right _ _ (by simp), List.length_replicate, Nat.sub_self, List.replicate_succ, List.set_cons_zero, List.replicate_succ', List.append_assoc]
  rfl
end Go.Proofs.YtomnjhhpeglcnaaGreat
