/- Chapter 14: a configuration's bytes, or why there are none: plain definitions. -/
import Derived.Test.YtmhbpfclfffgkaaCfP
import Derived.Test.YtmhbpfclfffgkaaCfWa
namespace Go.Proofs.Ytmhbpfclfffgkaa
set_option linter.unusedVariables false
set_option linter.unusedSimpArgs false
open Go.RowKit Go.Sort

def nameF (nm : ByteArray) : List Int := strB nm ++ List.replicate (16 - nm.size) 0
def wnB (x : Wn) : List Int := [x.ipa, x.pa, x.size].flatMap (bytesN 8 false) ++ [x.perm].flatMap (bytesN 4 false)
def dvB (x : Dv) : List Int := [x.ipa, x.pa, x.size].flatMap (bytesN 8 false)
def iqB (x : Iq) : List Int := [x.num, x.cpu].flatMap (bytesN 2 false) ++ [truthN x.edge].flatMap (bytesN 4 false)
def enB (x : En) : List Int := [x.guest, x.perm].flatMap (bytesN 2 false) ++ [x.ipa].flatMap (bytesN 8 false)
def chB (x : Ch) : List Int := [x.pa, x.size].flatMap (bytesN 8 false) ++ enB x.e0 ++ enB x.e1
def gHd (g : Gs) : List Int := ((nameF g.nm ++ [truthN g.mand, g.off, g.len, g.cpus].flatMap (bytesN 4 false)) ++ [g.entry, g.dtb].flatMap (bytesN 8 false)) ++ g.key
def lenL (g : Gs) : List Int := [(g.ws.length : Int), g.ds.length, g.qs.length, g.ss.length]
def gB (g : Gs) : List Int := ((((gHd g ++ (lenL g).flatMap (bytesN 2 false)) ++ g.ws.flatMap wnB) ++ g.ds.flatMap dvB) ++ g.qs.flatMap iqB) ++ g.ss.flatMap (bytesN 4 false)
def cntOk (g : Gs) : Bool := decide (1 ≤ g.ws.length) && decide (g.ws.length ≤ 16) && decide (g.ds.length ≤ 16) && decide (g.qs.length ≤ 64) && decide (g.ss.length ≤ 32)
def inB (n most : Int) : Bool := decide (0 ≤ n) && decide (n ≤ most)
def wnOk (x : Wn) : Bool := inB x.perm 7
def iqOk (x : Iq) : Bool := inB x.num 65535 && inB x.cpu 65535
def enOk (x : En) : Bool := inB x.guest 65535 && inB x.perm 7
def chOk (x : Ch) : Bool := enOk x.e0 && enOk x.e1
/-- Why a guest can't be put; 0: it can. -/
def gErr (g : Gs) : Int := if nameN (strB g.nm) = false then 143 else if keyB g.key = false then 144 else if cntOk g = false then 142 else if g.ws.all wnOk = false then 144 else if g.qs.all iqOk = false then 144 else 0
def firstE : List Gs → Int
  | [] => 0
  | g :: l => if gErr g = 0 then firstE l else gErr g
def topB (ver : Int) (ng nc : Nat) : List Int := ([1111705159].flatMap (bytesN 4 false) ++ [(1 : Int), ng, nc, 0].flatMap (bytesN 2 false)) ++ [ver].flatMap (bytesN 4 false)
def putB (x : CfD) : List Int := (topB x.ver x.gs.length x.cs.length ++ x.gs.flatMap gB) ++ x.cs.flatMap chB
/-- Why a configuration can't be put; 0: it can. -/
def putE (x : CfD) : Int := if ¬ (1 ≤ x.gs.length ∧ x.gs.length ≤ 16 ∧ x.cs.length ≤ 32) then 142 else if firstE x.gs ≠ 0 then firstE x.gs else if x.cs.all chOk = false then 144 else 0
theorem nameF_len {nm : ByteArray} (h : nm.size ≤ 16) : (nameF nm).length = 16 := by simp [nameF, strB_len]; omega
theorem gHd_len {g : Gs} (h : g.nm.size ≤ 16) (hk : g.key.length = 68) : (gHd g).length = 116 := by
  simp only [gHd, List.length_append, nameF_len h, bytesNl_len, hk, List.length_cons, List.length_nil]
theorem flat_len {α : Type} {f : α → List Int} {s : Nat} (h : ∀ x, (f x).length = s) : ∀ l : List α, (l.flatMap f).length = s * l.length
  | [] => rfl
  | a :: l => by rw [List.flatMap_cons, List.length_append, h, flat_len h l, List.length_cons, Nat.mul_succ]; omega
theorem wnB_len (x : Wn) : (wnB x).length = 28 := by simp [wnB, bytesN_len]
theorem dvB_len (x : Dv) : (dvB x).length = 24 := by simp [dvB, bytesN_len]
theorem iqB_len (x : Iq) : (iqB x).length = 8 := by simp [iqB, bytesN_len]
theorem chB_len (x : Ch) : (chB x).length = 40 := by simp [chB, enB, bytesN_len]
theorem gB_len {g : Gs} (h : g.nm.size ≤ 16) (hk : g.key.length = 68) : (gB g).length = 124 + 28 * g.ws.length + 24 * g.ds.length + 8 * g.qs.length + 4 * g.ss.length := by
  simp only [gB, List.length_append, gHd_len h hk, bytesNl_len, flat_len wnB_len, flat_len dvB_len, flat_len iqB_len, lenL, List.length_cons, List.length_nil]
end Go.Proofs.Ytmhbpfclfffgkaa
