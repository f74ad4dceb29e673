/- The names of keys in a line: the plain law. -/
import Derived.Test.YtmndhffimlkjgaaDoorJ24
import Derived.Test.YtmndhffimlkjgaaDoorJ07
import Derived.Deep.DeepCutAuto
namespace Go.Proofs.YtmndhffimlkjgaaDoor

section
set_option linter.unusedSimpArgs false
set_option linter.unusedVariables false
open Go.RowKit Go.Lib

def nm (p : Ky) : ByteArray := nameS p.1 p.2
def comS (ws : List ByteArray) : ByteArray := ⟨(Lib.join (ws.map (·.data.toList)) [44]).toArray⟩
def namesS (l : List Ky) : ByteArray := if l = [] then ⟨#[45]⟩ else comS (l.map nm)
def yesS (b : Bool) : ByteArray := if b = true then ⟨#[121, 101, 115]⟩ else ⟨#[110, 111]⟩
def sumW (used opn : Int) (l : List Ky) (rest : Bool) : List ByteArray := [⟨#[117, 115, 101, 100]⟩, dec used, ⟨#[111, 112, 101, 110]⟩, dec opn, ⟨#[119, 97, 105, 116, 105, 110, 103]⟩, namesS l, ⟨#[114, 101, 115, 116]⟩, yesS rest]
def sumS (used opn : Int) (l : List Ky) (rest : Bool) : ByteArray := joinS (sumW used opn l rest)
theorem empty_app (x : ByteArray) : (⟨#[]⟩ : ByteArray) ++ x = x := by apply bytes_ext; simp [ByteArray.data_append]
theorem comS_nil : comS [] = ⟨#[]⟩ := by apply bytes_ext; simp [comS, Lib.join, List.intercalate]
theorem comS_one (x : ByteArray) : comS [x] = x := by apply bytes_ext; simp [comS, Lib.join, List.intercalate]
theorem inter_snoc (s x : List UInt8) : ∀ ws : List (List UInt8), ws ≠ [] → List.intercalate s (ws ++ [x]) = List.intercalate s ws ++ s ++ x
  | [], h => absurd rfl h
  | [a], _ => by simp [List.intercalate]
  | a :: b :: l, _ => by
    have := inter_snoc s x (b :: l) (by simp)
    simp [List.intercalate] at this ⊢
    exact this
theorem comS_snoc (ws : List ByteArray) (x : ByteArray) (h : ws ≠ []) : comS (ws ++ [x]) = comS ws ++ ⟨#[44]⟩ ++ x := by
  apply bytes_ext
  have := inter_snoc [44] x.data.toList (ws.map (·.data.toList)) (by simpa using h)
  simp [comS, Lib.join, ByteArray.data_append] at this ⊢
  simpa using this
theorem comS_size (B : Nat) (ws : List ByteArray) (h : ∀ s ∈ ws, s.size ≤ B) : (comS ws).size ≤ B * ws.length + ws.length := by
  unfold comS
  rw [bytes_size]
  cases ws with
  | nil => simp [Lib.join, List.intercalate]
  | cons x r =>
    have h1 := lens_leB B (x :: r) h
    rw [List.map_cons, Lib.join_length]
    simp only [List.map_cons, List.length_cons, List.length_map, List.length_nil] at h1 ⊢
    omega
theorem nms_size (l : List Ky) (n : Nat) (hl : l.length ≤ n) : (comS (l.map nm)).size ≤ 21 * n := by
  have := comS_size 20 (l.map nm) (fun s hs => by obtain ⟨p, _, rfl⟩ := List.mem_map.1 hs; exact (nameS_size _ _).2)
  rw [List.length_map] at this
  omega
theorem namesS_size (l : List Ky) (hl : l.length ≤ 40) : (namesS l).size ≤ 1000 := by
  unfold namesS
  split
  · decide
  · have := nms_size l 40 hl; omega
theorem sumW_size {used opn : Int} {l : List Ky} {rest : Bool} (hu : I64 used) (ho : I64 opn) (hl : l.length ≤ 40) : ∀ s ∈ sumW used opn l rest, s.size ≤ 1000 := by
  have q1 := dec_1000 hu
  have q2 := dec_1000 ho
  have q3 := namesS_size l hl
  have q4 : (yesS rest).size ≤ 1000 := by unfold yesS; split <;> decide
  intro s hs
  unfold sumW at hs
  simp only [List.mem_cons, List.not_mem_nil, or_false] at hs
  rcases hs with rfl | rfl | rfl | rfl | rfl | rfl | rfl | rfl <;> first | assumption | decide
theorem sumS_size {used opn : Int} {l : List Ky} {rest : Bool} (hu : I64 used) (ho : I64 opn) (hl : l.length ≤ 40) : (sumS used opn l rest).size ≤ 9000 := by
  have := joinS_size 1000 _ (sumW_size (rest := rest) hu ho hl)
  rw [show (sumW used opn l rest).length = 8 from rfl] at this
  exact Nat.le_trans this (by decide)
theorem sumS_cat (used opn : Int) (l : List Ky) (rest : Bool) : sumS used opn l rest = ⟨#[117, 115, 101, 100, 32]⟩ ++ dec used ++ ⟨#[32, 111, 112, 101, 110, 32]⟩ ++ dec opn ++ ⟨#[32, 119, 97, 105, 116, 105, 110, 103, 32]⟩ ++ namesS l ++ ⟨#[32, 114, 101, 115, 116, 32]⟩ ++ yesS rest := by
  apply bytes_ext; simp [sumS, sumW, joinS, Lib.join, ByteArray.data_append, List.intercalate]
theorem take_map_succ (l : List Ky) (i : Nat) (h : i < l.length) : (l.take (i + 1)).map nm = (l.take i).map nm ++ [nm l[i]] := by
  rw [List.take_succ_eq_append_getElem h, List.map_append]; rfl
end

end Go.Proofs.YtmndhffimlkjgaaDoor
