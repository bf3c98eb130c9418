/- The engine, part 37: functions that turn what they are handed, with read-only answers. -/
import Derived.Test.YtccelbeahdcooaaE30
namespace Go.Proofs.Ytccelbeahdcooaa.Eng
open Go Go.RowKit
set_option linter.unusedSimpArgs false
set_option linter.unusedVariables false

def AV.bare1:AV→Bool
 | .t _ _ _=>true
 | .raw _=>true
 | _=>false
def AV.bare2:AV→Bool
 | .agg cs=>cs.all AV.bare1
 | a=>a.bare1
def AV.bare:AV→Bool
 | .tup cs=>cs.all AV.bare2
 | a=>a.bare2

theorem AVR.bare1 {η η':Env} (hz:η'.Z=η.Z) {h h':Nat} {w:World} {a:AV} {v:Value} (hb:a.bare1=true) (r:AVR η h w a v):AVR η' h' w a v:=by
 cases r with
 | t h1 hl=>exact .t h1 (by rw [hz];exact hl)
 | raw=>exact .raw _
 | _=>simp [AV.bare1] at hb
theorem AVR.bare2 {η η':Env} (hz:η'.Z=η.Z) {h h':Nat} {w:World} {a:AV} {v:Value} (hb:a.bare2=true) (r:AVR η h w a v):AVR η' h' w a v:=by
 cases r with
 | t h1 hl=>exact .t h1 (by rw [hz];exact hl)
 | raw=>exact .raw _
 | agg hsz hc =>
  simp only [AV.bare2,List.all_eq_true] at hb
  exact .agg hsz (fun i c hi=>(hc i c hi).bare1 hz (hb c (List.mem_of_getElem? hi)))
 | _=>simp [AV.bare2,AV.bare1] at hb
theorem AVR.bare {η η':Env} (hz:η'.Z=η.Z) {h h':Nat} {w:World} {a:AV} {v:Value} (hb:a.bare=true) (r:AVR η h w a v):AVR η' h' w a v:=by
 cases r with
 | t h1 hl=>exact .t h1 (by rw [hz];exact hl)
 | raw=>exact .raw _
 | agg hsz hc=>exact AVR.bare2 hz hb (.agg hsz hc)
 | tup hsz hc =>
  simp only [AV.bare,List.all_eq_true] at hb
  exact .tup hsz (fun i c hi=>(hc i c hi).bare2 hz (hb c (List.mem_of_getElem? hi)))
 | _=>simp [AV.bare,AV.bare2,AV.bare1] at hb

section
variable {P:Program} {N:Nat→Prop} {w0:World} {η:Env} {w:World} {tt:TT} {S:Tab} {QF:FuncId→Bool}

end
end Go.Proofs.Ytccelbeahdcooaa.Eng
