/- Texts of this claim, put together: GlobN, GlobE. -/
import Derived.Test.YtfmnlpmgakgleaaGreatDoorGAY
import Derived.Test.YtfmnlpmgakgleaaGreatDoorGAJ
import Derived.Test.YtfmnlpmgakgleaaGreatDoorGAL
namespace Go.Proofs.YtfmnlpmgakgleaaGreatDoor
set_option linter.unusedVariables false
open Go.RowKit
def namesB:List (List UInt8):=[[97,103,101],[99,105,116,121],[106,111,105,110,101,100],[110,97,109,101],[112,108,97,110],[118,105,112]]
theorem names_at (i:Nat) (h:i < namesB.length):namesL[i]'h = ⟨namesB[i].toArray⟩:=by
 match i,h with
 | 0,_ => rfl
 | 1,_ => rfl
 | 2,_ => rfl
 | 3,_ => rfl
 | 4,_ => rfl
 | 5,_ => rfl
def namesData:DataW Unit:=.agg (namesB.map fun s => .lit (.string s))
theorem names_of {w : World} (h : VarHolds Tryz.prog w "handbill/handmake.fieldNames" namesData) : NamesIn (memH w) := by
 obtain ⟨g,t,cs,fuel,p,hg,hty,hvar,hd⟩:=h
 obtain rfl := Option.some.inj ((show Tryz.prog.globalNamed "handbill/handmake.fieldNames" = some 2 by kernel_rfl).symm.trans hg)
 obtain rfl:=Option.some.inj ((show (Tryz.prog.globals[2]?).map (·.type) = some 245 by kernel_rfl).symm.trans hty)
 obtain ⟨xs,m,-,hx,hl,hxl,hf⟩:=DataW.trod_array Tryz.underlying245 hd
 have hcs:Tryz.prog.cellsOf 9 = 1:=by kernel_rfl
 have hdx:xs.map (·.1) = namesB.map fun s => (DataW.lit (.string s):DataW Unit):=by
  have:=congrArg Prod.fst hx
  simpa [namesData] using this.symm
 intro i hi
 have hi6:i < 6:=hi
 have hib:i < namesB.length:=hi
 refine Eq.trans ?_ (congrArg (fun s => some (Value.string s)) (names_at i hib).symm)
 show _ = some (Value.string ⟨(namesB[i]'hib).toArray⟩)
 have h1:=hf i hi6
 rw [hcs] at h1
 have hix:i < xs.length:=by omega
 rw [List.getElem?_eq_getElem hix] at h1
 have hpx:namesB[i]? = some namesB[i]:=List.getElem?_eq_getElem hib
 generalize namesB[i] = x at hpx ⊢
 have hd1:xs[i].1 = DataW.lit (.string x):=by
  have:=congrArg (fun l => l[i]?) hdx
  simp only [List.getElem?_map] at this
  rw [List.getElem?_eq_getElem hix,hpx] at this
  exact Option.some.inj this
 obtain ⟨s,c1,v1,-⟩:=DataW.trod_string Tryz.underlying9 h1
 have es:=(congrArg Prod.fst v1).symm.trans hd1
 simp only [DataW.lit.injEq,Lit.string.injEq] at es
 have k1:=congrArg (fun l => l[0]?) c1
 simp [List.getElem?_drop] at k1
 refine memH_cell ?_
 rw [World.var?_cell hg hvar i,← Array.getElem?_toList,← es]
 simpa using k1
structure GlobN (w:World):Prop where
 utf:UtfIn (memH w)
 mlen:MLen (memH w)
 names:NamesIn (memH w)
structure GlobP (w:World):Prop where
 utf:UtfIn (memH w)
 mlen:MLen (memH w)
 names:NamesIn (memH w)
 pool:PoolIn (memH w)
open Go.RowKit
def enamesB:List (List UInt8):=[[98,117,121],[111,112,101,110],[113,117,105,116],[118,105,101,119]]
theorem enames_at (i:Nat) (h:i < enamesB.length):enamesL[i]'h = ⟨enamesB[i].toArray⟩:=by
 match i,h with
 | 0,_ => rfl
 | 1,_ => rfl
 | 2,_ => rfl
 | 3,_ => rfl
def enamesData:DataW Unit:=.agg (enamesB.map fun s => .lit (.string s))
theorem enames_of {w : World} (h : VarHolds Tryz.prog w "handbill/handmake.eventNames" enamesData) : ENamesIn (memH w) := by
 obtain ⟨g,t,cs,fuel,p,hg,hty,hvar,hd⟩:=h
 obtain rfl := Option.some.inj ((show Tryz.prog.globalNamed "handbill/handmake.eventNames" = some 0 by kernel_rfl).symm.trans hg)
 obtain rfl:=Option.some.inj ((show (Tryz.prog.globals[0]?).map (·.type) = some 210 by kernel_rfl).symm.trans hty)
 obtain ⟨xs,m,-,hx,hl,hxl,hf⟩:=DataW.trod_array Tryz.underlying210 hd
 have hcs:Tryz.prog.cellsOf 9 = 1:=by kernel_rfl
 have hdx:xs.map (·.1) = enamesB.map fun s => (DataW.lit (.string s):DataW Unit):=by
  have:=congrArg Prod.fst hx
  simpa [enamesData] using this.symm
 intro i hi
 have hi6:i < 4:=hi
 have hib:i < enamesB.length:=hi
 refine Eq.trans ?_ (congrArg (fun s => some (Value.string s)) (enames_at i hib).symm)
 show _ = some (Value.string ⟨(enamesB[i]'hib).toArray⟩)
 have h1:=hf i hi6
 rw [hcs] at h1
 have hix:i < xs.length:=by omega
 rw [List.getElem?_eq_getElem hix] at h1
 have hpx:enamesB[i]? = some enamesB[i]:=List.getElem?_eq_getElem hib
 generalize enamesB[i] = x at hpx ⊢
 have hd1:xs[i].1 = DataW.lit (.string x):=by
  have:=congrArg (fun l => l[i]?) hdx
  simp only [List.getElem?_map] at this
  rw [List.getElem?_eq_getElem hix,hpx] at this
  exact Option.some.inj this
 obtain ⟨s,c1,v1,-⟩:=DataW.trod_string Tryz.underlying9 h1
 have es:=(congrArg Prod.fst v1).symm.trans hd1
 simp only [DataW.lit.injEq,Lit.string.injEq] at es
 have k1:=congrArg (fun l => l[0]?) c1
 simp [List.getElem?_drop] at k1
 refine memH_cell ?_
 rw [World.var?_cell hg hvar i,← Array.getElem?_toList,← es]
 simpa using k1
structure GlobE (w:World):Prop where
 utf:UtfIn (memH w)
 mlen:MLen (memH w)
 names:NamesIn (memH w)
 pool:PoolIn (memH w)
 enames:ENamesIn (memH w)
theorem globE_of {w:World} {l:List (String × DataW Unit)} {d1 d2 d3 d4 d5:DataW Unit} (e1:d1 = Lib.firstData) (e2:d2 = Lib.acceptData) (e3:d3 = namesData) (e4:d4 = poolData) (e5:d5 = enamesData) (h:laidMetH Tryz.prog l w) (hl:(l.all fun x => x.2.handleName?.isNone) = true)
  (hm1 : ("unicode/utf8.first", d1) ∈ l) (hm2 : ("unicode/utf8.acceptRanges", d2) ∈ l) (hm3 : ("handbill/handmake.fieldNames", d3) ∈ l) (hm4 : ("handbill/handmake.idPool", d4) ∈ l) (hm5 : ("handbill/handmake.eventNames", d5) ∈ l) (hs : w.ShapedOpen Tryz.prog) : GlobE w := by
 subst e1 e2 e3 e4 e5
 exact ⟨utf_of (laidH_holds h hl hm1) (laidH_holds h hl hm2),mlen_of hs,names_of (laidH_holds h hl hm3),pool_of (laidH_holds h hl hm4),enames_of (laidH_holds h hl hm5)⟩
end Go.Proofs.YtfmnlpmgakgleaaGreatDoor
