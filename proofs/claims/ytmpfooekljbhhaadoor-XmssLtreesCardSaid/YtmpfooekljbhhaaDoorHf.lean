/- A part of the proof. -/
import Derived.Test.YtmpfooekljbhhaaDoorGH
set_option linter.all false
namespace Go.Lv
open Go Go.Proofs
set_option linter.unusedSimpArgs false
set_option maxRecDepth 100000

/-! ## The text of many, plainly -/
def adL (leaf h i : BitVec 32) : List (BitVec 32) := [0, 0, 0, 1, leaf, h, i, 0]
def chunks (x : Xms) (ends' : By) (k : Nat) : List By := (List.range k).map fun i => (ends'.drop (i * x.n.toNat)).take x.n.toNat
def pairS (x : Xms) (seed : By) (leaf h : BitVec 32) (L : List By) (k : Nat) : List By := (List.range k).map fun (i : Nat) => nodeS x seed (adL leaf h (BitVec.ofInt 32 (i : Int))) (L.getD (2 * i) []) (L.getD (2 * i + 1) [])
def upS (x : Xms) (seed : By) (leaf h : BitVec 32) (L : List By) : List By := pairS x seed leaf h L (L.length / 2) ++ (if L.length % 2 = 1 then [L.getD (L.length - 1) []] else [])
def ltR (x : Xms) (seed : By) (leaf : BitVec 32) : Nat → Nat → List By → By
  | 0, _, L => L.getD 0 []
  | f + 1, h, L => if L.length ≤ 1 then L.getD 0 [] else ltR x seed leaf f (h + 1) (upS x seed leaf (BitVec.ofNat 32 h) L)
def ltreeS (x : Xms) (seed ends' : By) (leaf : BitVec 32) : By := ltR x seed leaf 67 0 (chunks x ends' x.len.toNat)
def allN (n : Nat) (L : List By) : Prop := ∀ i, i < L.length → (L.getD i []).length = n
theorem chunks_len (x : Xms) (e : By) (k : Nat) : (chunks x e k).length = k := by simp [chunks]
theorem chunks_succ (x : Xms) (e : By) (k : Nat) : chunks x e (k + 1) = chunks x e k ++ [(e.drop (k * x.n.toNat)).take x.n.toNat] := by simp [chunks, List.range_succ]
theorem pairS_len (x : Xms) (seed : By) (leaf h : BitVec 32) (L : List By) (k : Nat) : (pairS x seed leaf h L k).length = k := by simp [pairS]
theorem pairS_succ (x : Xms) (seed : By) (leaf h : BitVec 32) (L : List By) (k : Nat) : pairS x seed leaf h L (k + 1) = pairS x seed leaf h L k ++ [nodeS x seed (adL leaf h (BitVec.ofInt 32 (k : Int))) (L.getD (2 * k) []) (L.getD (2 * k + 1) [])] := by simp [pairS, List.range_succ]
theorem upS_len (x : Xms) (seed : By) (leaf h : BitVec 32) (L : List By) : (upS x seed leaf h L).length = (L.length + 1) / 2 := by
  unfold upS
  split <;> simp [pairS_len] <;> omega
theorem allN_app {n : Nat} {A B : List By} (a : allN n A) (b : allN n B) : allN n (A ++ B) := by
  intro i hi
  by_cases h : i < A.length
  · rw [getD_app1 _ _ _ _ h]; exact a i h
  · rw [getD_app2 _ _ _ _ (by omega)]; exact b _ (by rw [List.length_append] at hi; omega)
theorem allN_one {n : Nat} {y : By} (h : y.length = n) : allN n [y] := by
  intro i hi
  simp only [List.length_singleton] at hi
  rw [show i = 0 by omega]; exact h
theorem allN_nil {n : Nat} : allN n [] := fun i hi => by simp at hi
theorem allN_pair {x : Xms} (hx : xmsT x.code = some x) (seed : By) (leaf h : BitVec 32) (L : List By) : ∀ k, allN x.n.toNat (pairS x seed leaf h L k)
  | 0 => allN_nil
  | k + 1 => by rw [pairS_succ]; exact allN_app (allN_pair hx seed leaf h L k) (allN_one (nodeS_len hx _ _ _ _))
theorem allN_up {x : Xms} (hx : xmsT x.code = some x) (seed : By) (leaf h : BitVec 32) (L : List By) (hL : allN x.n.toNat L) : allN x.n.toNat (upS x seed leaf h L) := by
  unfold upS
  refine allN_app (allN_pair hx _ _ _ _ _) ?_
  split
  · exact allN_one (hL _ (by omega))
  · exact allN_nil
theorem allN_chunks (x : Xms) (e : By) : ∀ k, k * x.n.toNat ≤ e.length → allN x.n.toNat (chunks x e k)
  | 0, _ => allN_nil
  | k + 1, h => by
    rw [Nat.succ_mul] at h
    rw [chunks_succ]; exact allN_app (allN_chunks x e k (by omega)) (allN_one (by simp; omega))
theorem ltR_more (x : Xms) (seed : By) (leaf : BitVec 32) : ∀ (f g h : Nat) (L : List By), L.length ≤ f + 1 → L.length ≤ g + 1 → ltR x seed leaf f h L = ltR x seed leaf g h L
  | 0, 0, _, _, _, _ => rfl
  | 0, g + 1, h, L, h1, _ => by rw [ltR, ltR, if_pos (by omega)]
  | f + 1, 0, h, L, _, h2 => by rw [ltR, ltR, if_pos (by omega)]
  | f + 1, g + 1, h, L, h1, h2 => by
    rw [ltR, ltR]
    split
    · rfl
    · exact ltR_more x seed leaf f g (h + 1) _ (by rw [upS_len]; omega) (by rw [upS_len]; omega)
theorem ltR_step (x : Xms) (seed : By) (leaf : BitVec 32) (h : Nat) (L : List By) (h1 : 1 < L.length) (h2 : L.length ≤ 67) : ltR x seed leaf 67 h L = ltR x seed leaf 67 (h + 1) (upS x seed leaf (BitVec.ofNat 32 h) L) := by
  rw [show ltR x seed leaf 67 h L = if L.length ≤ 1 then L.getD 0 [] else ltR x seed leaf 66 (h + 1) (upS x seed leaf (BitVec.ofNat 32 h) L) from rfl, if_neg (by omega)]
  exact ltR_more x seed leaf 66 67 (h + 1) _ (by rw [upS_len]; omega) (by rw [upS_len]; omega)
theorem ltR_one (x : Xms) (seed : By) (leaf : BitVec 32) (h : Nat) (L : List By) (h1 : L.length ≤ 1) : ltR x seed leaf 67 h L = L.getD 0 [] := by
  rw [show ltR x seed leaf 67 h L = if L.length ≤ 1 then L.getD 0 [] else ltR x seed leaf 66 (h + 1) (upS x seed leaf (BitVec.ofNat 32 h) L) from rfl, if_pos h1]
theorem ltR_len {x : Xms} (hx : xmsT x.code = some x) (seed : By) (leaf : BitVec 32) : ∀ (f h : Nat) (L : List By), 1 ≤ L.length → allN x.n.toNat L → (ltR x seed leaf f h L).length = x.n.toNat
  | 0, h, L, h1, hL => hL 0 (by omega)
  | f + 1, h, L, h1, hL => by
    rw [ltR]
    split
    · exact hL 0 (by omega)
    · exact ltR_len hx seed leaf f (h + 1) _ (by rw [upS_len]; omega) (allN_up hx _ _ _ _ hL)
theorem h32_succ (h : Nat) : BitVec.ofNat 32 h + 1#32 = BitVec.ofNat 32 (h + 1) := by rw [← BitVec.ofNat_add]
end Go.Lv
