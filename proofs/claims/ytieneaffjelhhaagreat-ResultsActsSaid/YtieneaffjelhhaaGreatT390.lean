/- A closed test by the evaluator, in parts: calls that are known, each in the state in which it is made; part 0. -/
import Derived.Test.YtieneaffjelhhaaGreatT39H
import Derived.Test.YtieneaffjelhhaaGreatT02
set_option linter.unusedVariables false
set_option linter.unusedSimpArgs false
set_option maxRecDepth 1000000
namespace Go.Proofs.YtieneaffjelhhaaGreat
open Go Go.Vc Go.Ev
namespace T39
noncomputable section
def q2599:St:=⟨tr [(0,b38),(1,b39),(2,b23),(1819,b5)],1820,1821,.e,[]⟩
def r2599:St:=⟨tr [(0,b40),(1,b41),(2,b23),(1819,b5)],1820,1821,.e,[]⟩
abbrev e2599:Ev.Ent:=.s 284 [(.p (some (2,0)))] q2599 (.b true) r2599
theorem Zvr:Ev.EntOk Tryz.prog e2599:=Ev.entS mixed (k:=5000) Ev.Za7 (by kernel_rfl) (by kernel_rfl)
def q2537:St:=⟨tr [(0,b24),(1,b25),(2,b23),(1819,b5)],1820,1821,.e,[]⟩
def r2537:St:=⟨tr [(0,b38),(1,b39),(2,b23),(1819,b5)],1820,1821,.e,[]⟩
abbrev e2537:Ev.Ent:=.s 284 [(.p (some (2,0)))] q2537 (.b true) r2537
theorem Zv8:Ev.EntOk Tryz.prog e2537:=Ev.entS mixed (k:=5000) Ev.Za7 (by kernel_rfl) (by kernel_rfl)
def q2449:St:=⟨tr [(0,b24),(1,b25),(2,b32),(1803,b35),(1804,(some (337,([(.s [99,97,98])]++R 97 (I 0)++[(I 1),(I 0),(I 1)]++R 156 (I 0)++[(.l (some (1803,0)) 3 3),(I 0),(.l none 0 0),(I 2)])))),(1805,b34),(1806,b33),(1807,b36)],1808,1809,.e,[]⟩
def r2449:St:=⟨tr [(0,b24),(1,b25),(2,b32),(1803,b35),(1804,(some (337,([(.s [99,97,98])]++R 98 (I 0)++[(I 1),(I 2)]++R 156 (I 3)++[(.l (some (1803,0)) 3 3),(I 0),(.l none 0 0),(I 3)])))),(1805,b34),(1806,b33),(1807,b36)],1808,1809,.e,[]⟩
abbrev e2449:Ev.Ent:=.s 281 [(.p (some (2,0)))] q2449 (.t []) r2449
theorem Zxj:Ev.EntOk Tryz.prog e2449:=Ev.entS mixed (k:=5000) Ev.Za7 (by kernel_rfl) (by kernel_rfl)
def q2391:St:=⟨tr [(0,b3),(1,b43),(2,b2),(1690,(some (350,[(.p (some (1715,0))),(I 24),(.b true),(.i .u32 (.ofNat 1686944627)),(I 0),(.l (some (1799,0)) 3 3),(.b false),(I 0)]))),(1710,b7),(1711,b45),(1712,b42),(1713,b44),(1714,b4),(1715,b6),(1717,b0),(1719,b0),(1738,b10),(1740,b12),(1743,b1),(1753,b11),(1775,b10),(1777,b19),(1780,b1),(1790,b11),(1792,b18),(1793,b13),(1799,b26)],1800,1801,.e,[]⟩
def r2391:St:=⟨tr [(0,b24),(1,b25),(2,b32),(1690,(some (350,[(.p (some (1715,0))),(I 24),(.b true),(.i .u32 (.ofNat 1686944627)),(I 0),(.l (some (1799,0)) 3 3),(.b true),(I 0)]))),(1710,b7),(1711,(some (368,[(I 5),(.p (some (1710,0))),(.l (some (1719,0)) 1 1),(.p (some (1793,0))),(.l (some (1792,0)) 2 2),(I 4),(.b true),(I 0)]))),(1712,(some (376,[(I 3),(I 24),(I 3),(I 0),(I 1),(.b true)]))),(1713,b44),(1714,b4),(1715,b6),(1717,b0),(1719,b0),(1738,b10),(1740,b12),(1743,b1),(1753,b11),(1775,b10),(1777,b19),(1780,b1),(1790,b11),(1792,b18),(1793,b13),(1799,b26),(1803,b35),(1804,(some (337,([(.s [99,97,98])]++R 256 (I 0)++[(.l (some (1803,0)) 3 3),(I 0),(.l none 0 0),(I 0)])))),(1805,b34),(1806,b33),(1807,b36)],1808,1809,.e,[]⟩
abbrev e2391:Ev.Ent:=.s 284 [(.p (some (2,0)))] q2391 (.b true) r2391
theorem Zwc:Ev.EntOk Tryz.prog e2391:=Ev.entS mixed (k:=5000) (Ev.Za5 T02.ent Ev.Za7) (by kernel_rfl) (by kernel_rfl)
def q2345:St:=⟨tr [(0,b3),(1,b48),(2,b2),(1690,b47),(1710,b7),(1711,b51),(1712,b46),(1713,b49),(1714,b4),(1715,b6),(1717,b0),(1719,b0),(1738,b10),(1740,b12),(1743,b1),(1753,b11),(1775,b10),(1777,b19),(1780,b1),(1790,b11),(1792,b18),(1793,b13),(1797,b50)],1798,1799,.e,[]⟩
def r2345:St:=⟨tr [(0,b3),(1,b43),(2,b2),(1690,b47),(1710,b7),(1711,b45),(1712,b42),(1713,b49),(1714,b4),(1715,b52),(1717,b0),(1719,b0),(1738,b10),(1740,b12),(1743,b1),(1753,b11),(1775,b10),(1777,b19),(1780,b1),(1790,b11),(1792,b18),(1793,b13),(1797,b50)],1798,1799,.e,[]⟩
abbrev e2345:Ev.Ent:=.s 284 [(.p (some (2,0)))] q2345 (.b true) r2345
theorem Zvq:Ev.EntOk Tryz.prog e2345:=Ev.entS mixed (k:=5000) Ev.Za7 (by kernel_rfl) (by kernel_rfl)
def q2299:St:=⟨tr [(0,b3),(1,b55),(2,b2),(1690,b54),(1710,b7),(1711,b57),(1712,b53),(1713,b26),(1714,b4),(1715,b6),(1717,b0),(1719,b0),(1738,b10),(1740,b12),(1743,b1),(1753,b11),(1775,b10),(1777,b19),(1780,b1),(1790,b11),(1792,b18),(1793,b13),(1795,b56)],1796,1797,.e,[]⟩
def r2299:St:=⟨tr [(0,b3),(1,b48),(2,b2),(1690,b54),(1710,b7),(1711,b51),(1712,b46),(1713,b26),(1714,b4),(1715,(some (357,[(.p (some (1711,0))),(.p (some (1712,0))),(.p (some (1714,0))),(I 0),(I 1)]))),(1717,b0),(1719,b0),(1738,b10),(1740,b12),(1743,b1),(1753,b11),(1775,b10),(1777,b19),(1780,b1),(1790,b11),(1792,b18),(1793,b13),(1795,b56)],1796,1797,.e,[]⟩
abbrev e2299:Ev.Ent:=.s 284 [(.p (some (2,0)))] q2299 (.b true) r2299
theorem Zvw:Ev.EntOk Tryz.prog e2299:=Ev.entS mixed (k:=5000) Ev.Za7 (by kernel_rfl) (by kernel_rfl)
end
end T39
end Go.Proofs.YtieneaffjelhhaaGreat
