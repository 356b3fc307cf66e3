/- A closed test by the evaluator, in parts: calls that are known, each in the state in which it is made; part 2. -/
import Derived.Test.YtieneaffjelhhaaGreatT39H
set_option linter.unusedVariables false
set_option linter.unusedSimpArgs false
set_option maxRecDepth 1000000
namespace Go.Proofs.YtieneaffjelhhaaGreat
open Go Go.Vc Go.Ev
namespace T39
noncomputable section
def q1971:St:=⟨tr [(0,b3),(1,b74),(2,b2),(1690,b8),(1707,b75),(1710,b7),(1711,b16),(1712,b9),(1713,b5),(1714,b4),(1715,b6),(1717,b0),(1719,b0),(1725,b28)],1726,1727,.e,[]⟩
def r1971:St:=⟨tr [(0,b3),(1,b72),(2,b2),(1690,b8),(1707,b73),(1710,b7),(1711,b16),(1712,b9),(1713,b5),(1714,b4),(1715,b6),(1717,b0),(1719,b0),(1725,none),(1727,b27)],1728,1729,.e,[]⟩
abbrev e1971:Ev.Ent:=.s 284 [(.p (some (2,0)))] q1971 (.b true) r1971
theorem Zwa:Ev.EntOk Tryz.prog e1971:=Ev.entS mixed (k:=5000) Ev.Za7 (by kernel_rfl) (by kernel_rfl)
def q1945:St:=⟨tr [(0,b3),(1,b76),(2,b2),(1690,b8),(1707,b77),(1710,b7),(1711,b16),(1712,b9),(1713,b5),(1714,b4),(1715,b6),(1717,b0),(1719,b0),(1723,b20)],1724,1725,.e,[]⟩
def r1945:St:=⟨tr [(0,b3),(1,b74),(2,b2),(1690,b8),(1707,b75),(1710,b7),(1711,b16),(1712,b9),(1713,b5),(1714,b4),(1715,b6),(1717,b0),(1719,b0),(1723,none),(1725,b28)],1726,1727,.e,[]⟩
abbrev e1945:Ev.Ent:=.s 284 [(.p (some (2,0)))] q1945 (.b true) r1945
theorem Zxu:Ev.EntOk Tryz.prog e1945:=Ev.entS mixed (k:=5000) Ev.Za7 (by kernel_rfl) (by kernel_rfl)
def q1913:St:=⟨tr [(0,b3),(1,b78),(2,b2),(1690,b8),(1707,b79),(1710,b7),(1711,b16),(1712,b9),(1713,b5),(1714,b4),(1715,b6),(1717,b0),(1719,b0),(1723,b20)],1724,1725,.e,[]⟩
def r1913:St:=⟨tr [(0,b3),(1,b76),(2,b2),(1690,b8),(1707,b77),(1710,b7),(1711,b16),(1712,b9),(1713,b5),(1714,b4),(1715,b6),(1717,b0),(1719,b0),(1723,b20)],1724,1725,.e,[]⟩
abbrev e1913:Ev.Ent:=.s 284 [(.p (some (2,0)))] q1913 (.b true) r1913
theorem Zvv:Ev.EntOk Tryz.prog e1913:=Ev.entS mixed (k:=5000) Ev.Za7 (by kernel_rfl) (by kernel_rfl)
def q1887:St:=⟨tr [(0,b3),(1,b80),(2,b2),(1690,b8),(1707,b81),(1710,b7),(1711,b16),(1712,b9),(1713,b5),(1714,b4),(1715,b6),(1717,b0),(1719,b0),(1721,b29)],1722,1723,.e,[]⟩
def r1887:St:=⟨tr [(0,b3),(1,b78),(2,b2),(1690,b8),(1707,b79),(1710,b7),(1711,b16),(1712,b9),(1713,b5),(1714,b4),(1715,b6),(1717,b0),(1719,b0),(1721,none),(1723,b20)],1724,1725,.e,[]⟩
abbrev e1887:Ev.Ent:=.s 284 [(.p (some (2,0)))] q1887 (.b true) r1887
theorem Zwg:Ev.EntOk Tryz.prog e1887:=Ev.entS mixed (k:=5000) Ev.Za7 (by kernel_rfl) (by kernel_rfl)
def q1861:St:=⟨tr [(0,b3),(1,b82),(2,b2),(1690,b8),(1707,b30),(1710,b7),(1711,b16),(1712,b9),(1713,b5),(1714,b4),(1715,b6),(1717,b0),(1719,b0)],1720,1721,.e,[]⟩
def r1861:St:=⟨tr [(0,b3),(1,b80),(2,b2),(1690,b8),(1707,b81),(1710,b7),(1711,b16),(1712,b9),(1713,b5),(1714,b4),(1715,b6),(1717,b0),(1719,b0),(1721,b29)],1722,1723,.e,[]⟩
abbrev e1861:Ev.Ent:=.s 284 [(.p (some (2,0)))] q1861 (.b true) r1861
theorem Zy3:Ev.EntOk Tryz.prog e1861:=Ev.entS mixed (k:=5000) Ev.Za7 (by kernel_rfl) (by kernel_rfl)
def q1829:St:=⟨tr [(0,b3),(1,b83),(2,b2),(1690,b8),(1707,b13),(1710,b7),(1711,b16),(1712,b9),(1713,b5),(1714,b4),(1715,b6),(1717,b0),(1719,b0)],1720,1721,.e,[]⟩
def r1829:St:=⟨tr [(0,b3),(1,b82),(2,b2),(1690,b8),(1707,b30),(1710,b7),(1711,b16),(1712,b9),(1713,b5),(1714,b4),(1715,b6),(1717,b0),(1719,b0)],1720,1721,.e,[]⟩
abbrev e1829:Ev.Ent:=.s 284 [(.p (some (2,0)))] q1829 (.b true) r1829
theorem Zvm:Ev.EntOk Tryz.prog e1829:=Ev.entS mixed (k:=5000) Ev.Za7 (by kernel_rfl) (by kernel_rfl)
def q1801:St:=⟨tr [(0,b3),(1,b85),(2,b2),(1690,b8),(1707,b13),(1710,b84),(1711,b31),(1712,b9),(1713,b5),(1714,b4),(1715,b6)],1716,1717,.e,[]⟩
def r1801:St:=⟨tr [(0,b3),(1,b83),(2,b2),(1690,b8),(1707,b13),(1710,b7),(1711,b16),(1712,b9),(1713,b5),(1714,b4),(1715,b6),(1717,b0),(1719,b0)],1720,1721,.e,[]⟩
abbrev e1801:Ev.Ent:=.s 284 [(.p (some (2,0)))] q1801 (.b true) r1801
theorem Zwj:Ev.EntOk Tryz.prog e1801:=Ev.entS mixed (k:=5000) Ev.Za7 (by kernel_rfl) (by kernel_rfl)
def q1758:St:=⟨tr [(0,b3),(1,b87),(2,b2),(1690,b8),(1707,b13),(1710,b86),(1711,b31),(1712,b9),(1713,b5),(1714,b4),(1715,b6)],1716,1717,.e,[]⟩
def r1758:St:=⟨tr [(0,b3),(1,b85),(2,b2),(1690,b8),(1707,b13),(1710,b84),(1711,b31),(1712,b9),(1713,b5),(1714,b4),(1715,b6)],1716,1717,.e,[]⟩
abbrev e1758:Ev.Ent:=.s 284 [(.p (some (2,0)))] q1758 (.b true) r1758
theorem Zw5:Ev.EntOk Tryz.prog e1758:=Ev.entS mixed (k:=5000) Ev.Za7 (by kernel_rfl) (by kernel_rfl)
def q1613:St:=⟨tr [(0,b3),(1,b90),(2,b2),(1690,b89)],1691,1692,.e,[]⟩
def r1613:St:=⟨tr [(0,b3),(1,b37),(2,b2),(1690,b88)],1691,1692,.e,[]⟩
abbrev e1613:Ev.Ent:=.s 284 [(.p (some (2,0)))] q1613 (.b true) r1613
theorem Zv5:Ev.EntOk Tryz.prog e1613:=Ev.entS mixed (k:=5000) Ev.Za7 (by kernel_rfl) (by kernel_rfl)
def q1550:St:=⟨tr [(0,(some (148,[(I 24),(I 1),(I 0),(I 1),(.p none),(.s []),(I 0),(.i .u32 (.ofNat 0)),(.i .u32 (.ofNat 0)),(.b false),(I 0)]))),(1,(some (150,[(.s [49,65,89,38,83,89,100,140,187,115,0,0,0,1,0,56,0,32,0,33,152,25,132,97,119,36,83,133,9,6,72,203,183,48]),(I 4),(I 32)]))),(2,b2)],1690,1691,.e,[]⟩
def r1550:St:=⟨tr [(0,b3),(1,b90),(2,b2),(1690,b89)],1691,1692,.e,[]⟩
abbrev e1550:Ev.Ent:=.s 284 [(.p (some (2,0)))] q1550 (.b true) r1550
theorem Zve:Ev.EntOk Tryz.prog e1550:=Ev.entS mixed (k:=5000) Ev.Za7 (by kernel_rfl) (by kernel_rfl)
def q1358:St:=⟨tr [(1461,b21)],1462,1463,.e,[]⟩
def r1358:St:=⟨tr [(1461,b21),(1487,b1)],1640,1641,.e,[]⟩
abbrev e1358:Ev.Ent:=.s 93 [(.l (some (1461,0)) 5 5)] q1358 (.l (some (1487,0)) 5 5) r1358
theorem Zwp:Ev.EntOk Tryz.prog e1358:=Ev.entS mixed (k:=5000) Ev.Za7 (by kernel_rfl) (by kernel_rfl)
end
end T39
end Go.Proofs.YtieneaffjelhhaaGreat
