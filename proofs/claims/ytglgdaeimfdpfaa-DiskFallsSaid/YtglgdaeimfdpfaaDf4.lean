/- Functions of the program, as they answer, and that their code comes to these answers. -/
import Derived.Test.YtglgdaeimfdpfaaDf3
namespace Go.Proofs.Ytglgdaeimfdpfaa.VM
open Go Go.RowKit

set_option maxRecDepth 100000 in
theorem ty_5 {d : Nat} {cs : List AV} (h : Typed Try.prog d 5 cs) : ∃ x : UInt8, cs = [(AV.b8 x)] ∧ okA x := match d, h with
  | 0, h => False.elim h
  | d + 1, h => ty_u8 Try.underlying5 h
set_option maxRecDepth 100000 in
theorem ty_32 {d : Nat} {cs : List AV} (h : Typed Try.prog d 32 cs) : ∃ x : Vector UInt8 32, cs = bcells x.toList ∧ (okV okA) x := match d, h with
  | 0, h => False.elim h
  | d + 1, h => ty_array (f := AV.b8) Try.underlying32 (fun _ hx => ty_5 hx) h
set_option maxRecDepth 100000 in
theorem ty_22 {d : Nat} {cs : List AV} (h : Typed Try.prog d 22 cs) : ∃ x : List (Vector UInt8 32), cs = [((fun q : List (Vector UInt8 32) => AV.lst (q.flatMap (fun v : Vector UInt8 32 => bcells v.toList)) q.length) x)] ∧ (okL 32 (okV okA)) x := match d, h with
  | 0, h => False.elim h
  | d + 1, h => ty_slicef (g := fun b : Vector UInt8 32 => bcells b.toList) Try.underlying22 (bytes_of in_32) (fun _ hx => ty_32 hx) h
set_option maxRecDepth 100000 in
theorem ty_3 {d : Nat} {cs : List AV} (h : Typed Try.prog d 3 cs) : ∃ x : Int, cs = [(AV.int x)] ∧ okI x := match d, h with
  | 0, h => False.elim h
  | d + 1, h => ty_int Try.underlying3 h
def GPut.ok (x : GPut) : Prop := okI x.At ∧ (okV okA) x.Data
set_option maxRecDepth 100000 in
theorem ty_70 {d : Nat} {cs : List AV} (h : Typed Try.prog d 70 cs) : ∃ x : GPut, cs = GPut.cs x ∧ GPut.ok x := match d, h with
  | 0, h => False.elim h
  | d + 1, h => by
    obtain ⟨es, rfl, hl, hf⟩ := ty_struct Try.underlying70 h
    match es, hl, hf with
    | [e0, e1], _, hf =>
    obtain ⟨x0, h0, q0⟩ := ty_3 (hf 0 _ e0 rfl rfl)
    obtain ⟨x1, h1, q1⟩ := ty_32 (hf 1 _ e1 rfl rfl)
    refine ⟨⟨x0, x1⟩, ?_, ⟨q0, q1⟩⟩
    rw [h0, h1]
    simp only [List.flatten_cons, List.flatten_nil, List.append_nil, GPut.cs]
set_option maxRecDepth 100000 in
theorem ty_23 {d : Nat} {cs : List AV} (h : Typed Try.prog d 23 cs) : ∃ x : List GPut, cs = [((fun q : List GPut => AV.lst (q.flatMap GPut.cs) q.length) x)] ∧ (okL 40 GPut.ok) x := match d, h with
  | 0, h => False.elim h
  | d + 1, h => ty_slicef (g := fun b : GPut => GPut.cs b) Try.underlying23 (bytes_of in_70) (fun _ hx => ty_70 hx) h
def GDisk.ok (x : GDisk) : Prop := (okL 32 (okV okA)) x.Lasts ∧ (okL 40 GPut.ok) x.Writes
set_option maxRecDepth 100000 in
theorem ty_25 {d : Nat} {cs : List AV} (h : Typed Try.prog d 25 cs) : ∃ x : GDisk, cs = GDisk.cs x ∧ GDisk.ok x := match d, h with
  | 0, h => False.elim h
  | d + 1, h => by
    obtain ⟨es, rfl, hl, hf⟩ := ty_struct Try.underlying25 h
    match es, hl, hf with
    | [e0, e1], _, hf =>
    obtain ⟨x0, h0, q0⟩ := ty_22 (hf 0 _ e0 rfl rfl)
    obtain ⟨x1, h1, q1⟩ := ty_23 (hf 1 _ e1 rfl rfl)
    refine ⟨⟨x0, x1⟩, ?_, ⟨q0, q1⟩⟩
    rw [h0, h1]
    simp only [List.flatten_cons, List.flatten_nil, List.append_nil, GDisk.cs]


end Go.Proofs.Ytglgdaeimfdpfaa.VM
